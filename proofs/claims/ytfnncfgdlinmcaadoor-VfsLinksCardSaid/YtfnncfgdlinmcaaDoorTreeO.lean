/- A row of nodes that is handed in, opened. -/
import Derived.Test.YtfnncfgdlinmcaaDoorTreeM
import Derived.Test.YtfnncfgdlinmcaaDoorWSized
import Derived.ChangeArms
import Derived.ChangeSlices
import Derived.SizedLaws
import Derived.OpenShut
import Derived.DataElems
set_option linter.unusedVariables false
namespace Go.Proofs.YtfnncfgdlinmcaaDoor.Tree
open Go.RowKit Go.ChangeShapes Go.WideShapes Go.Proofs.YtfnncfgdlinmcaaDoor.Node Go.Proofs.YtfnncfgdlinmcaaDoorW.PrintWords
theorem weights_all {H : Type} {P : Program} {e : TypeId} : ∀ {ds : List (DataW H)} {d : DataW H}, d ∈ ds → ∀ n ∈ d.weights P e, n ∈ DataW.weightsAll P e ds
  | d0 :: ds, d, hd, n, hn => by
    simp only [DataW.weightsAll, List.mem_append]
    rcases List.mem_cons.1 hd with rfl | h
    · exact .inl hn
    · exact .inr (weights_all h n hn)
theorem wf_u8 {n : Int} (h : (Lit.int .u8 n).wf = true) : 0 ≤ n ∧ n ≤ 255 := by
  simp only [Lit.wf, Bool.and_eq_true, decide_eq_true_eq] at h
  have h1 : IntKind.min .u8 = 0 := rfl
  have h2 : IntKind.max .u8 = 255 := rfl
  rw [h1, h2] at h
  exact h
section
variable {H : Type} {enc : TypeId × Value → H} {W : World} {fuel : Nat}
/-- Bytes that are read. -/
theorem open_data {cs : List Value} {x : DataW H × List MemPlace} (h : DataW.trod enc Tryd.prog W 0 (fun _ => true) true fuel 22 cs = some x) (hs : ∀ n ∈ x.1.weights Tryd.prog 22, n ≤ reachBytes) :
    ∃ (A : Option Addr) (c : Nat) (l : List Int), cs = [.slice A l.length c] ∧ l.length ≤ c ∧ (Kd.int .u8).C W A l.length l ∧ (∀ b ∈ l, 0 ≤ b ∧ b ≤ 255) ∧ l.length ≤ 140737488351232 := by
  rcases open_ints Tryd.underlying22 Tryd.underlying5 (by kernel_rfl) h with ⟨rfl, _⟩ | ⟨a, len, cap, zs, rfl, _, hl, hm, hz, hx, hcell, hw⟩
  · exact ⟨none, 0, [], rfl, Nat.le_refl _, ⟨rfl, by simp, fun h => absurd h (by simp)⟩, by simp, by simp⟩
  · rw [if_pos rfl] at hz
    have hlen : (zs.take len).length = len := by rw [List.length_take]; omega
    refine ⟨some a, cap, zs.take len, by rw [hlen], by omega, ⟨rfl, by rw [hlen]; have : maxLen = 9223372036854775807 := rfl; omega, fun _ => ⟨a, rfl, fun j p hp => ⟨[.int .u8 p], rfl, rfl, fun i u hu => ?_⟩⟩⟩, ?_, ?_⟩
    · have hj : j < len := by
        have := (List.getElem?_eq_some_iff.1 hp).1
        omega
      obtain ⟨rfl, rfl⟩ : i = 0 ∧ u = .int .u8 p := by
        cases i with
        | zero => exact ⟨rfl, (Option.some.inj hu).symm⟩
        | succ i => simp at hu
      have := hcell j (by omega)
      rw [List.getElem?_take_of_lt hj] at hp
      rw [show j * Kd.sz (Kd.int .u8) + 0 = j from by show j * 1 + 0 = j; omega, this, List.getD_eq_getElem?_getD, hp]
      rfl
    · intro b hb
      exact wf_u8 (hw b (List.mem_of_mem_take hb))
    · rw [hlen]
      obtain ⟨hx, _⟩ := Prod.mk.inj hx
      have hb : Tryd.prog.bytesOf 5 = 1 := by kernel_rfl
      have := hs ((((lits (H := H) .u8 (zs.take len)).length + (lits (H := H) .u8 (zs.drop len)).length)) * Tryd.prog.bytesOf 5) (by rw [show x.1 = _ from hx]; simp [DataW.weights, Tryd.underlying22])
      rw [hb] at this
      simp [lits] at this
      have hr : reachBytes = 140737488351232 := rfl
      omega
set_option maxRecDepth 100000 in
theorem open_node {cs : List Value} {x : DataW H × List MemPlace} (h : DataW.trod enc Tryd.prog W 0 (fun _ => true) true fuel 45 cs = some x) (hs : ∀ n ∈ x.1.weights Tryd.prog 45, n ≤ reachBytes) :
    ∃ y : Nd, kN.K W y cs ∧ Ok y := by
  obtain ⟨xs, m, rfl, rfl, hlen, hxs, hf⟩ := DataW.trod_struct Tryd.underlying45 h
  have hcells : Tryd.prog.cellsOf 45 = 5 := by kernel_rfl
  rw [hcells] at hlen
  obtain ⟨e0, e1, e2, e3, e4, rfl⟩ : ∃ e0 e1 e2 e3 e4, cs = [e0, e1, e2, e3, e4] := by
    match cs, hlen with
    | [a, b, c, d, e], _ => exact ⟨_, _, _, _, _, rfl⟩
  obtain ⟨x0, x1, x2, x3, x4, rfl⟩ : ∃ e0 e1 e2 e3 e4, xs = [e0, e1, e2, e3, e4] := by
    match xs, hxs with
    | [a, b, c, d, e], _ => exact ⟨_, _, _, _, _, rfl⟩
  have o1 : Tryd.prog.cellsOf 3 = 1 := by kernel_rfl
  have o2 : Tryd.prog.cellsOf 9 = 1 := by kernel_rfl
  have o3 : Tryd.prog.cellsOf 22 = 1 := by kernel_rfl
  have h0 : DataW.trod enc Tryd.prog W 0 (fun _ => true) true m 3 (List.take (Tryd.prog.cellsOf 3) (List.drop 0 [e0, e1, e2, e3, e4])) = some x0 := hf 0 _ rfl
  have h1 : DataW.trod enc Tryd.prog W 0 (fun _ => true) true m 9 (List.take (Tryd.prog.cellsOf 9) (List.drop 1 [e0, e1, e2, e3, e4])) = some x1 := hf 1 _ rfl
  have h2 : DataW.trod enc Tryd.prog W 0 (fun _ => true) true m 22 (List.take (Tryd.prog.cellsOf 22) (List.drop 2 [e0, e1, e2, e3, e4])) = some x2 := hf 2 _ rfl
  have h3 : DataW.trod enc Tryd.prog W 0 (fun _ => true) true m 3 (List.take (Tryd.prog.cellsOf 3) (List.drop 3 [e0, e1, e2, e3, e4])) = some x3 := hf 3 _ rfl
  have h4 : DataW.trod enc Tryd.prog W 0 (fun _ => true) true m 3 (List.take (Tryd.prog.cellsOf 3) (List.drop 4 [e0, e1, e2, e3, e4])) = some x4 := hf 4 _ rfl
  rw [o1] at h0 h3 h4
  rw [o2] at h1
  rw [o3] at h2
  obtain ⟨n0, r0, _, _⟩ := DataW.trod_int Tryd.underlying3 h0
  obtain ⟨n3, r3, _, _⟩ := DataW.trod_int Tryd.underlying3 h3
  obtain ⟨n4, r4, _, _⟩ := DataW.trod_int Tryd.underlying3 h4
  obtain ⟨s1, r1, q1, _⟩ := DataW.trod_string Tryd.underlying9 h1
  have hw : ∀ n ∈ DataW.weightsEach Tryd.prog [3, 9, 22, 3, 3] [x0.1, x1.1, x2.1, x3.1, x4.1], n ≤ reachBytes := by
    intro n hn
    refine hs n ?_
    simp only [DataW.weights, Tryd.underlying45]
    exact hn
  obtain ⟨A, c, l, r2, lc, hC, hb, hl⟩ := open_data h2 (fun n hn => hw n (DataW.weights_mem_each (j := 2) rfl rfl n hn))
  have hz := hw s1.data.toList.length (DataW.weights_mem_each (j := 1) rfl rfl _ (by rw [q1]; simp [DataW.weights]))
  obtain rfl : e0 = .int .i64 n0 := (List.cons.inj r0).1
  obtain rfl : e1 = .string s1 := (List.cons.inj r1).1
  obtain rfl : e2 = .slice A l.length c := (List.cons.inj r2).1
  obtain rfl : e3 = .int .i64 n3 := (List.cons.inj r3).1
  obtain rfl : e4 = .int .i64 n4 := (List.cons.inj r4).1
  refine ⟨⟨n0, s1, l, n3, n4⟩, kN_mk W ⟨n0, s1, l, n3, n4⟩ lc hC, hb, ?_, hl⟩
  rw [Array.length_toList] at hz
  exact hz
end
set_option maxRecDepth 100000 in
theorem open_nodes {H : Type} {enc : TypeId × Value → H} {W : World} {a : Option Addr} {len cap : Nat} {d : DataW H} {p : List MemPlace} (h : DataW.Trod enc Tryd.prog W 0 (fun _ => true) true 40 (.slice a len cap) d p) (hs : ∀ n ∈ d.weights Tryd.prog 40, n ≤ reachBytes) :
    ∃ l : List Nd, len = l.length ∧ l.length ≤ cap ∧ kN.C W a l.length l ∧ (∀ x ∈ l, Ok x) ∧ l.length * 64 ≤ 140737488351232 := by
  obtain ⟨fuel, hf⟩ := h
  rcases DataW.trod_slice Tryd.underlying40 hf with ⟨hcs, _⟩ | ⟨x, l, c, elems, rest, n, _, hcs, hx, _, hl, hm, hlen, hel, _, _⟩
  · simp [Value.cells] at hcs
    obtain ⟨rfl, rfl, rfl⟩ := hcs
    exact ⟨[], rfl, Nat.le_refl _, ⟨rfl, by simp, fun h => absurd h (by simp)⟩, by simp, by simp⟩
  · simp [Value.cells] at hcs
    obtain ⟨rfl, rfl, rfl⟩ := hcs
    obtain ⟨rfl, _⟩ := Prod.mk.inj hx
    have hcells : Tryd.prog.cellsOf 45 = 5 := by kernel_rfl
    have hb : Tryd.prog.bytesOf 45 = 64 := by kernel_rfl
    rw [hcells] at hel
    have hw : ∀ n ∈ (((elems.map (·.1)).length + (rest.map (·.1)).length) * Tryd.prog.bytesOf 45 :: (DataW.weightsAll Tryd.prog 45 (elems.map (·.1)) ++ DataW.weightsAll Tryd.prog 45 (rest.map (·.1)))), n ≤ reachBytes := by
      intro n hn
      refine hs n ?_
      simp only [DataW.weights, Tryd.underlying40]
      exact hn
    have hsz := hw _ (List.mem_cons_self)
    rw [hb] at hsz
    have each : ∀ i, i < elems.length → ∃ y : Nd, (∃ cs : List Value, W.cells? 0 (x.add (i * 5)) 5 = some cs ∧ kN.K W y cs) ∧ Ok y := by
      intro i hi
      have he := hel i (by omega)
      rw [List.getElem?_eq_getElem hi] at he
      obtain ⟨cs, hc, ht⟩ := Option.bind_eq_some_iff.1 he
      obtain ⟨y, h1, h2⟩ := open_node ht (fun m hm => hw m (by
        refine List.mem_cons_of_mem _ (List.mem_append_left _ (weights_all (d := elems[i].1) (List.mem_map_of_mem (List.getElem_mem hi)) m hm))))
      exact ⟨y, ⟨cs, hc, h1⟩, h2⟩
    obtain ⟨f, hfs⟩ : ∃ f : Nat → Nd, ∀ i, i < elems.length → (∃ cs : List Value, W.cells? 0 (x.add (i * 5)) 5 = some cs ∧ kN.K W (f i) cs) ∧ Ok (f i) := by
      refine ⟨fun i => if h : i < elems.length then Classical.choose (each i h) else zN, fun i hi => ?_⟩
      dsimp only
      rw [dif_pos hi]
      exact Classical.choose_spec (each i hi)
    refine ⟨(List.range elems.length).map f, by simp [hlen], by simp; omega, ⟨rfl, ?_, fun _ => ⟨x, rfl, fun j p hp => ?_⟩⟩, ?_, ?_⟩
    · simp
      have : maxLen = 9223372036854775807 := rfl
      omega
    · have hj : j < elems.length := by
        have := (List.getElem?_eq_some_iff.1 hp).1
        simpa using this
      obtain rfl : f j = p := by
        rw [List.getElem?_map, List.getElem?_range hj] at hp
        exact Option.some.inj hp
      obtain ⟨⟨cs, h1, h2⟩, _⟩ := hfs j hj
      obtain ⟨_, h4, h5⟩ := World.cells?_some h1
      refine ⟨cs, h4, h2, fun i u hu => ?_⟩
      have hi : i < 5 := by
        have := (List.getElem?_eq_some_iff.1 hu).1
        omega
      have := h5 i hi
      rw [hu] at this
      rwa [Addr.add_add] at this
    · intro y hy
      obtain ⟨i, hi, rfl⟩ := List.mem_map.1 hy
      exact (hfs i (List.mem_range.1 hi)).2
    · simp at hsz ⊢
      have hr : reachBytes = 140737488351232 := rfl
      omega
end Go.Proofs.YtfnncfgdlinmcaaDoor.Tree
