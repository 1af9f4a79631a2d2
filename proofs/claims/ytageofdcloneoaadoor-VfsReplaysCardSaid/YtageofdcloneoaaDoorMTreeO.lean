/- TreeO, FsOp put together. -/
import Derived.Test.YtageofdcloneoaaDoorMTree
import Derived.Test.YtageofdcloneoaaDoorWSized
import Derived.ChangeArms
import Derived.ChangeSlices
import Derived.SizedLaws
import Derived.OpenShut
import Derived.DataElems
import Derived.Test.YtageofdcloneoaaDoorMFsX
import Derived.Below
set_option linter.unusedVariables false
namespace Go.Proofs.YtageofdcloneoaaDoor.Tree
open Go.RowKit Go.ChangeShapes Go.WideShapes Go.Proofs.YtageofdcloneoaaDoor.Node Go.Proofs.YtageofdcloneoaaDoorW.PrintWords
theorem weights_all {H : Type} {P : Program} {e : TypeId} : ∀ {ds : List (DataW H)} {d : DataW H}, d ∈ ds → ∀ n ∈ d.weights P e, n ∈ DataW.weightsAll P e ds
  | d0 :: ds, d, hd, n, hn => by
    simp only [DataW.weightsAll, List.mem_append]
    rcases List.mem_cons.1 hd with rfl | h
    · exact .inl hn
    · exact .inr (weights_all h n hn)
theorem wf_u8 {n : Int} (h : (Lit.int .u8 n).wf = true) : 0 ≤ n ∧ n ≤ 255 := by
  simp only [Lit.wf, Bool.and_eq_true, decide_eq_true_eq] at h
  have h1 : IntKind.min .u8 = 0 := rfl
  have h2 : IntKind.max .u8 = 255 := rfl
  rw [h1, h2] at h
  exact h
section
variable {H : Type} {enc : TypeId × Value → H} {W : World} {fuel : Nat}
/-- Bytes that are read. -/
theorem open_data {cs : List Value} {x : DataW H × List MemPlace} (h : DataW.trod enc Tryd.prog W 0 (fun _ => true) true fuel 31 cs = some x) (hs : ∀ n ∈ x.1.weights Tryd.prog 31, n ≤ reachBytes) :
    ∃ (A : Option Addr) (c : Nat) (l : List Int), cs = [.slice A l.length c] ∧ l.length ≤ c ∧ (Kd.int .u8).C W A l.length l ∧ (∀ b ∈ l, 0 ≤ b ∧ b ≤ 255) ∧ l.length ≤ 140737488351232 := by
  rcases open_ints Tryd.underlying31 Tryd.underlying5 (by kernel_rfl) h with ⟨rfl, _⟩ | ⟨a, len, cap, zs, rfl, _, hl, hm, hz, hx, hcell, hw⟩
  · exact ⟨none, 0, [], rfl, Nat.le_refl _, ⟨rfl, by simp, fun h => absurd h (by simp)⟩, by simp, by simp⟩
  · rw [if_pos rfl] at hz
    have hlen : (zs.take len).length = len := by rw [List.length_take]; omega
    refine ⟨some a, cap, zs.take len, by rw [hlen], by omega, ⟨rfl, by rw [hlen]; have : maxLen = 9223372036854775807 := rfl; omega, fun _ => ⟨a, rfl, fun j p hp => ⟨[.int .u8 p], rfl, rfl, fun i u hu => ?_⟩⟩⟩, ?_, ?_⟩
    · have hj : j < len := by
        have := (List.getElem?_eq_some_iff.1 hp).1
        omega
      obtain ⟨rfl, rfl⟩ : i = 0 ∧ u = .int .u8 p := by
        cases i with
        | zero => exact ⟨rfl, (Option.some.inj hu).symm⟩
        | succ i => simp at hu
      have := hcell j (by omega)
      rw [List.getElem?_take_of_lt hj] at hp
      rw [show j * Kd.sz (Kd.int .u8) + 0 = j from by show j * 1 + 0 = j; omega, this, List.getD_eq_getElem?_getD, hp]
      rfl
    · intro b hb
      exact wf_u8 (hw b (List.mem_of_mem_take hb))
    · rw [hlen]
      obtain ⟨hx, _⟩ := Prod.mk.inj hx
      have hb : Tryd.prog.bytesOf 5 = 1 := by kernel_rfl
      have := hs ((((lits (H := H) .u8 (zs.take len)).length + (lits (H := H) .u8 (zs.drop len)).length)) * Tryd.prog.bytesOf 5) (by rw [show x.1 = _ from hx]; simp [DataW.weights, Tryd.underlying31])
      rw [hb] at this
      simp [lits] at this
      have hr : reachBytes = 140737488351232 := rfl
      omega
set_option maxRecDepth 100000 in
theorem open_node {cs : List Value} {x : DataW H × List MemPlace} (h : DataW.trod enc Tryd.prog W 0 (fun _ => true) true fuel 33 cs = some x) (hs : ∀ n ∈ x.1.weights Tryd.prog 33, n ≤ reachBytes) :
    ∃ y : Nd, kN.K W y cs ∧ Ok y := by
  obtain ⟨xs, m, rfl, rfl, hlen, hxs, hf⟩ := DataW.trod_struct Tryd.underlying33 h
  have hcells : Tryd.prog.cellsOf 33 = 5 := by kernel_rfl
  rw [hcells] at hlen
  obtain ⟨e0, e1, e2, e3, e4, rfl⟩ : ∃ e0 e1 e2 e3 e4, cs = [e0, e1, e2, e3, e4] := by
    match cs, hlen with
    | [a, b, c, d, e], _ => exact ⟨_, _, _, _, _, rfl⟩
  obtain ⟨x0, x1, x2, x3, x4, rfl⟩ : ∃ e0 e1 e2 e3 e4, xs = [e0, e1, e2, e3, e4] := by
    match xs, hxs with
    | [a, b, c, d, e], _ => exact ⟨_, _, _, _, _, rfl⟩
  have o1 : Tryd.prog.cellsOf 3 = 1 := by kernel_rfl
  have o2 : Tryd.prog.cellsOf 9 = 1 := by kernel_rfl
  have o3 : Tryd.prog.cellsOf 31 = 1 := by kernel_rfl
  have h0 : DataW.trod enc Tryd.prog W 0 (fun _ => true) true m 3 (List.take (Tryd.prog.cellsOf 3) (List.drop 0 [e0, e1, e2, e3, e4])) = some x0 := hf 0 _ rfl
  have h1 : DataW.trod enc Tryd.prog W 0 (fun _ => true) true m 9 (List.take (Tryd.prog.cellsOf 9) (List.drop 1 [e0, e1, e2, e3, e4])) = some x1 := hf 1 _ rfl
  have h2 : DataW.trod enc Tryd.prog W 0 (fun _ => true) true m 31 (List.take (Tryd.prog.cellsOf 31) (List.drop 2 [e0, e1, e2, e3, e4])) = some x2 := hf 2 _ rfl
  have h3 : DataW.trod enc Tryd.prog W 0 (fun _ => true) true m 3 (List.take (Tryd.prog.cellsOf 3) (List.drop 3 [e0, e1, e2, e3, e4])) = some x3 := hf 3 _ rfl
  have h4 : DataW.trod enc Tryd.prog W 0 (fun _ => true) true m 3 (List.take (Tryd.prog.cellsOf 3) (List.drop 4 [e0, e1, e2, e3, e4])) = some x4 := hf 4 _ rfl
  rw [o1] at h0 h3 h4
  rw [o2] at h1
  rw [o3] at h2
  obtain ⟨n0, r0, _, _⟩ := DataW.trod_int Tryd.underlying3 h0
  obtain ⟨n3, r3, _, _⟩ := DataW.trod_int Tryd.underlying3 h3
  obtain ⟨n4, r4, _, _⟩ := DataW.trod_int Tryd.underlying3 h4
  obtain ⟨s1, r1, q1, _⟩ := DataW.trod_string Tryd.underlying9 h1
  have hw : ∀ n ∈ DataW.weightsEach Tryd.prog [3, 9, 31, 3, 3] [x0.1, x1.1, x2.1, x3.1, x4.1], n ≤ reachBytes := by
    intro n hn
    refine hs n ?_
    simp only [DataW.weights, Tryd.underlying33]
    exact hn
  obtain ⟨A, c, l, r2, lc, hC, hb, hl⟩ := open_data h2 (fun n hn => hw n (DataW.weights_mem_each (j := 2) rfl rfl n hn))
  have hz := hw s1.data.toList.length (DataW.weights_mem_each (j := 1) rfl rfl _ (by rw [q1]; simp [DataW.weights]))
  obtain rfl : e0 = .int .i64 n0 := (List.cons.inj r0).1
  obtain rfl : e1 = .string s1 := (List.cons.inj r1).1
  obtain rfl : e2 = .slice A l.length c := (List.cons.inj r2).1
  obtain rfl : e3 = .int .i64 n3 := (List.cons.inj r3).1
  obtain rfl : e4 = .int .i64 n4 := (List.cons.inj r4).1
  refine ⟨⟨n0, s1, l, n3, n4⟩, kN_mk W ⟨n0, s1, l, n3, n4⟩ lc hC, hb, ?_, hl⟩
  rw [Array.length_toList] at hz
  exact hz
end
set_option maxRecDepth 100000 in
theorem open_nodes {H : Type} {enc : TypeId × Value → H} {W : World} {a : Option Addr} {len cap : Nat} {d : DataW H} {p : List MemPlace} (h : DataW.Trod enc Tryd.prog W 0 (fun _ => true) true 22 (.slice a len cap) d p) (hs : ∀ n ∈ d.weights Tryd.prog 22, n ≤ reachBytes) :
    ∃ l : List Nd, len = l.length ∧ l.length ≤ cap ∧ kN.C W a l.length l ∧ (∀ x ∈ l, Ok x) ∧ l.length * 64 ≤ 140737488351232 := by
  obtain ⟨fuel, hf⟩ := h
  rcases DataW.trod_slice Tryd.underlying22 hf with ⟨hcs, _⟩ | ⟨x, l, c, elems, rest, n, _, hcs, hx, _, hl, hm, hlen, hel, _, _⟩
  · simp [Value.cells] at hcs
    obtain ⟨rfl, rfl, rfl⟩ := hcs
    exact ⟨[], rfl, Nat.le_refl _, ⟨rfl, by simp, fun h => absurd h (by simp)⟩, by simp, by simp⟩
  · simp [Value.cells] at hcs
    obtain ⟨rfl, rfl, rfl⟩ := hcs
    obtain ⟨rfl, _⟩ := Prod.mk.inj hx
    have hcells : Tryd.prog.cellsOf 33 = 5 := by kernel_rfl
    have hb : Tryd.prog.bytesOf 33 = 64 := by kernel_rfl
    rw [hcells] at hel
    have hw : ∀ n ∈ (((elems.map (·.1)).length + (rest.map (·.1)).length) * Tryd.prog.bytesOf 33 :: (DataW.weightsAll Tryd.prog 33 (elems.map (·.1)) ++ DataW.weightsAll Tryd.prog 33 (rest.map (·.1)))), n ≤ reachBytes := by
      intro n hn
      refine hs n ?_
      simp only [DataW.weights, Tryd.underlying22]
      exact hn
    have hsz := hw _ (List.mem_cons_self)
    rw [hb] at hsz
    have each : ∀ i, i < elems.length → ∃ y : Nd, (∃ cs : List Value, W.cells? 0 (x.add (i * 5)) 5 = some cs ∧ kN.K W y cs) ∧ Ok y := by
      intro i hi
      have he := hel i (by omega)
      rw [List.getElem?_eq_getElem hi] at he
      obtain ⟨cs, hc, ht⟩ := Option.bind_eq_some_iff.1 he
      obtain ⟨y, h1, h2⟩ := open_node ht (fun m hm => hw m (by
        refine List.mem_cons_of_mem _ (List.mem_append_left _ (weights_all (d := elems[i].1) (List.mem_map_of_mem (List.getElem_mem hi)) m hm))))
      exact ⟨y, ⟨cs, hc, h1⟩, h2⟩
    obtain ⟨f, hfs⟩ : ∃ f : Nat → Nd, ∀ i, i < elems.length → (∃ cs : List Value, W.cells? 0 (x.add (i * 5)) 5 = some cs ∧ kN.K W (f i) cs) ∧ Ok (f i) := by
      refine ⟨fun i => if h : i < elems.length then Classical.choose (each i h) else zN, fun i hi => ?_⟩
      dsimp only
      rw [dif_pos hi]
      exact Classical.choose_spec (each i hi)
    refine ⟨(List.range elems.length).map f, by simp [hlen], by simp; omega, ⟨rfl, ?_, fun _ => ⟨x, rfl, fun j p hp => ?_⟩⟩, ?_, ?_⟩
    · simp
      have : maxLen = 9223372036854775807 := rfl
      omega
    · have hj : j < elems.length := by
        have := (List.getElem?_eq_some_iff.1 hp).1
        simpa using this
      obtain rfl : f j = p := by
        rw [List.getElem?_map, List.getElem?_range hj] at hp
        exact Option.some.inj hp
      obtain ⟨⟨cs, h1, h2⟩, _⟩ := hfs j hj
      obtain ⟨_, h4, h5⟩ := World.cells?_some h1
      refine ⟨cs, h4, h2, fun i u hu => ?_⟩
      have hi : i < 5 := by
        have := (List.getElem?_eq_some_iff.1 hu).1
        omega
      have := h5 i hi
      rw [hu] at this
      rwa [Addr.add_add] at this
    · intro y hy
      obtain ⟨i, hi, rfl⟩ := List.mem_map.1 hy
      exact (hfs i (List.mem_range.1 hi)).2
    · simp at hsz ⊢
      have hr : reachBytes = 140737488351232 := rfl
      omega
end Go.Proofs.YtageofdcloneoaaDoor.Tree
set_option linter.unusedVariables false
namespace Go.Proofs.YtageofdcloneoaaDoor.Fs
open Go.RowKit Go.ChangeShapes Go.WideShapes Go.Proofs.YtageofdcloneoaaDoor.Rout Go.Proofs.YtageofdcloneoaaDoor.Node Go.Proofs.YtageofdcloneoaaDoor.Tree Go.Proofs.YtageofdcloneoaaDoor.Vfs Go.Proofs.YtageofdcloneoaaDoorW.PrintWords
/-- An act lies in memory, and is of the reach. -/
structure AcAt (W : World) (a : Ac) (A2 : Option Addr) (c2 : Nat) (A3 : Option Addr) (c3 : Nat) : Prop where
  l2 : a.node.f2.length ≤ c2
  C2 : (Kd.int .u8).C W A2 a.node.f2.length a.node.f2
  C3 : (Kd.int .u8).C W A3 a.bytes.length a.bytes
  ok : AcOk a
  by_ : ∀ b ∈ a.bytes, 0 ≤ b ∧ b ≤ 255
theorem AcAt.below {w W : World} {a : Ac} {A2 : Option Addr} {c2 : Nat} {A3 : Option Addr} {c3 : Nat} (h : AcAt w a A2 c2 A3 c3) (hb : Below w.heap.size w W) : AcAt W a A2 c2 A3 c3 := ⟨h.l2, Kd.C_below h.C2 hb, Kd.C_below h.C3 hb, h.ok, h.by_⟩
theorem wf_i64 {n : Int} (h : (Lit.int .i64 n).wf = true) : n ≤ 9223372036854775807 := by
  simp only [Lit.wf, Bool.and_eq_true, decide_eq_true_eq] at h
  have h2 : IntKind.max .i64 = 9223372036854775807 := rfl
  rw [h2] at h
  exact h.2
section
variable {H : Type} {enc : TypeId × Value → H} {W : World} {fuel : Nat}
set_option maxRecDepth 100000 in
theorem open_actL {cs : List Value} {x : DataW H × List MemPlace} (h : DataW.trod enc Tryd.prog W 0 (fun _ => true) true fuel 35 cs = some x) (hs : ∀ n ∈ x.1.weights Tryd.prog 35, n ≤ reachBytes) :
    ∃ (a : Ac) (A2 : Option Addr) (c2 : Nat) (A3 : Option Addr) (c3 : Nat), cs = (actV a A2 c2 A3 c3).toList ∧ AcAt W a A2 c2 A3 c3 := by
  obtain ⟨xs, m, rfl, rfl, hlen, hxs, hf⟩ := DataW.trod_struct Tryd.underlying35 h
  have hcells : Tryd.prog.cellsOf 35 = 11 := by kernel_rfl
  rw [hcells] at hlen
  obtain ⟨e0, e1, e2, e3, e4, e5, e6, e7, e8, e9, e10, rfl⟩ : ∃ e0 e1 e2 e3 e4 e5 e6 e7 e8 e9 e10, cs = [e0, e1, e2, e3, e4, e5, e6, e7, e8, e9, e10] := by
    match cs, hlen with
    | [_, _, _, _, _, _, _, _, _, _, _], _ => exact ⟨_, _, _, _, _, _, _, _, _, _, _, rfl⟩
  obtain ⟨x0, x1, x2, x3, x4, x5, x6, rfl⟩ : ∃ e0 e1 e2 e3 e4 e5 e6, xs = [e0, e1, e2, e3, e4, e5, e6] := by
    match xs, hxs with
    | [_, _, _, _, _, _, _], _ => exact ⟨_, _, _, _, _, _, _, rfl⟩
  have o1 : Tryd.prog.cellsOf 3 = 1 := by kernel_rfl
  have o2 : Tryd.prog.cellsOf 9 = 1 := by kernel_rfl
  have o3 : Tryd.prog.cellsOf 31 = 1 := by kernel_rfl
  have o4 : Tryd.prog.cellsOf 4 = 1 := by kernel_rfl
  have o5 : Tryd.prog.cellsOf 33 = 5 := by kernel_rfl
  have h0 : DataW.trod enc Tryd.prog W 0 (fun _ => true) true m 3 (List.take (Tryd.prog.cellsOf 3) (List.drop 0 [e0, e1, e2, e3, e4, e5, e6, e7, e8, e9, e10])) = some x0 := hf 0 _ rfl
  have h1 : DataW.trod enc Tryd.prog W 0 (fun _ => true) true m 33 (List.take (Tryd.prog.cellsOf 33) (List.drop 1 [e0, e1, e2, e3, e4, e5, e6, e7, e8, e9, e10])) = some x1 := hf 1 _ rfl
  have h2 : DataW.trod enc Tryd.prog W 0 (fun _ => true) true m 9 (List.take (Tryd.prog.cellsOf 9) (List.drop 6 [e0, e1, e2, e3, e4, e5, e6, e7, e8, e9, e10])) = some x2 := hf 2 _ rfl
  have h3 : DataW.trod enc Tryd.prog W 0 (fun _ => true) true m 31 (List.take (Tryd.prog.cellsOf 31) (List.drop 7 [e0, e1, e2, e3, e4, e5, e6, e7, e8, e9, e10])) = some x3 := hf 3 _ rfl
  have h4 : DataW.trod enc Tryd.prog W 0 (fun _ => true) true m 3 (List.take (Tryd.prog.cellsOf 3) (List.drop 8 [e0, e1, e2, e3, e4, e5, e6, e7, e8, e9, e10])) = some x4 := hf 4 _ rfl
  have h5 : DataW.trod enc Tryd.prog W 0 (fun _ => true) true m 4 (List.take (Tryd.prog.cellsOf 4) (List.drop 9 [e0, e1, e2, e3, e4, e5, e6, e7, e8, e9, e10])) = some x5 := hf 5 _ rfl
  have h6 : DataW.trod enc Tryd.prog W 0 (fun _ => true) true m 9 (List.take (Tryd.prog.cellsOf 9) (List.drop 10 [e0, e1, e2, e3, e4, e5, e6, e7, e8, e9, e10])) = some x6 := hf 6 _ rfl
  rw [o1] at h0 h4
  rw [o5] at h1
  rw [o2] at h2 h6
  rw [o3] at h3
  rw [o4] at h5
  have hw : ∀ n ∈ DataW.weightsEach Tryd.prog [3, 33, 9, 31, 3, 4, 9] [x0.1, x1.1, x2.1, x3.1, x4.1, x5.1, x6.1], n ≤ reachBytes := by
    intro n hn
    refine hs n ?_
    simp only [DataW.weights, Tryd.underlying35]
    exact hn
  obtain ⟨n0, r0, _, _⟩ := DataW.trod_int Tryd.underlying3 h0
  obtain ⟨n4, r4, _, g4⟩ := DataW.trod_int Tryd.underlying3 h4
  obtain ⟨b5, r5, _⟩ := DataW.trod_bool Tryd.underlying4 h5
  obtain ⟨s2, r2, q2, _⟩ := DataW.trod_string Tryd.underlying9 h2
  obtain ⟨s6, r6, q6, _⟩ := DataW.trod_string Tryd.underlying9 h6
  obtain ⟨y, hK, hOk⟩ := open_node h1 (fun n hn => hw n (DataW.weights_mem_each (j := 1) rfl rfl n hn))
  obtain ⟨A2, c2, r1, l2, hC2⟩ := kN_open hK
  obtain ⟨A3, c3, l, r3, l3, hC3, hb3, hl3⟩ := open_data h3 (fun n hn => hw n (DataW.weights_mem_each (j := 3) rfl rfl n hn))
  have hz := hw s2.data.toList.length (DataW.weights_mem_each (j := 2) rfl rfl _ (by rw [q2]; simp [DataW.weights]))
  have r1 : [e1, e2, e3, e4, e5] = [.int .i64 y.f0, .string y.f1, .slice A2 y.f2.length c2, .int .i64 y.f3, .int .i64 y.f4] := r1
  simp only [List.cons.injEq, and_true] at r1
  obtain ⟨rfl, rfl, rfl, rfl, rfl⟩ := r1
  obtain rfl : e0 = .int .i64 n0 := (List.cons.inj r0).1
  obtain rfl : e6 = .string s2 := (List.cons.inj r2).1
  obtain rfl : e7 = .slice A3 l.length c3 := (List.cons.inj r3).1
  obtain rfl : e8 = .int .i64 n4 := (List.cons.inj r4).1
  obtain rfl : e9 = .bool b5 := (List.cons.inj r5).1
  obtain rfl : e10 = .string s6 := (List.cons.inj r6).1
  have hr : reachBytes = 140737488351232 := rfl
  refine ⟨⟨n0, y, s2, l, n4, b5, s6⟩, A2, c2, A3, c3, rfl, ⟨l2, hC2, hC3, ⟨hOk, ?_, hl3, wf_i64 g4⟩, hb3⟩⟩
  rw [Array.length_toList] at hz
  show s2.size ≤ 140737488351232
  rw [hr] at hz
  exact hz
/-- An act as a parameter. -/
theorem open_act {v : Value} {d : DataW H} {p : List MemPlace} (h : DataW.Trod enc Tryd.prog W 0 (fun _ => true) true 35 v d p) (hv : ∃ cs, v = .agg cs) (hs : ∀ n ∈ d.weights Tryd.prog 35, n ≤ reachBytes) :
    ∃ (a : Ac) (A2 : Option Addr) (c2 : Nat) (A3 : Option Addr) (c3 : Nat), v = .agg (actV a A2 c2 A3 c3) ∧ AcAt W a A2 c2 A3 c3 := by
  obtain ⟨fuel, hf⟩ := h
  obtain ⟨cs, rfl⟩ := hv
  obtain ⟨a, A2, c2, A3, c3, e, hA⟩ := open_actL hf hs
  refine ⟨a, A2, c2, A3, c3, ?_, hA⟩
  congr 1
  exact Array.toList_inj.1 e
end
/-- A row of acts. -/
def ActsAt (W : World) (A : Option Addr) (acts : List Ac) : Prop := 0 < acts.length → ∃ ad, A = some ad ∧ ∀ j a, acts[j]? = some a → ∃ A2 c2 A3 c3, AcAt W a A2 c2 A3 c3 ∧ ∀ i u, (actV a A2 c2 A3 c3)[i]? = some u → W.cell? (ad.add (j * 11 + i)) = some u
theorem ActsAt.below {w W : World} {A : Option Addr} {acts : List Ac} (h : ActsAt w A acts) (hb : Below w.heap.size w W) : ActsAt W A acts := fun h0 => by
  obtain ⟨ad, e, hj⟩ := h h0
  refine ⟨ad, e, fun j a ha => ?_⟩
  obtain ⟨A2, c2, A3, c3, h1, h2⟩ := hj j a ha
  exact ⟨A2, c2, A3, c3, h1.below hb, fun i u hu => ((hb.cell (World.block_lt_of_cell? w _ (h2 i u hu))).trans (h2 i u hu))⟩
set_option maxRecDepth 100000 in
theorem open_acts {H : Type} {enc : TypeId × Value → H} {W : World} {a : Option Addr} {len cap : Nat} {d : DataW H} {p : List MemPlace} (h : DataW.Trod enc Tryd.prog W 0 (fun _ => true) true 23 (.slice a len cap) d p) (hs : ∀ n ∈ d.weights Tryd.prog 23, n ≤ reachBytes) :
    ∃ l : List Ac, len = l.length ∧ l.length ≤ cap ∧ ActsAt W a l ∧ (∀ x ∈ l, AcOk x ∧ ∀ b ∈ x.bytes, 0 ≤ b ∧ b ≤ 255) ∧ l.length * 144 ≤ 140737488351232 := by
  obtain ⟨fuel, hf⟩ := h
  rcases DataW.trod_slice Tryd.underlying23 hf with ⟨hcs, _⟩ | ⟨x, l, c, elems, rest, n, _, hcs, hx, _, hl, hm, hlen, hel, _, _⟩
  · simp [Value.cells] at hcs
    obtain ⟨rfl, rfl, rfl⟩ := hcs
    exact ⟨[], rfl, Nat.le_refl _, fun h => absurd h (by simp), by simp, by simp⟩
  · simp [Value.cells] at hcs
    obtain ⟨rfl, rfl, rfl⟩ := hcs
    obtain ⟨rfl, _⟩ := Prod.mk.inj hx
    have hcells : Tryd.prog.cellsOf 35 = 11 := by kernel_rfl
    have hb : Tryd.prog.bytesOf 35 = 144 := by kernel_rfl
    rw [hcells] at hel
    have hw : ∀ n ∈ (((elems.map (·.1)).length + (rest.map (·.1)).length) * Tryd.prog.bytesOf 35 :: (DataW.weightsAll Tryd.prog 35 (elems.map (·.1)) ++ DataW.weightsAll Tryd.prog 35 (rest.map (·.1)))), n ≤ reachBytes := by
      intro n hn
      refine hs n ?_
      simp only [DataW.weights, Tryd.underlying23]
      exact hn
    have hsz := hw _ (List.mem_cons_self)
    rw [hb] at hsz
    have each : ∀ i, i < elems.length → ∃ y : Ac × Option Addr × Nat × Option Addr × Nat, W.cells? 0 (x.add (i * 11)) 11 = some (actV y.1 y.2.1 y.2.2.1 y.2.2.2.1 y.2.2.2.2).toList ∧ AcAt W y.1 y.2.1 y.2.2.1 y.2.2.2.1 y.2.2.2.2 := by
      intro i hi
      have he := hel i (by omega)
      rw [List.getElem?_eq_getElem hi] at he
      obtain ⟨cs, hc, ht⟩ := Option.bind_eq_some_iff.1 he
      obtain ⟨y, A2, c2, A3, c3, rfl, h2⟩ := open_actL ht (fun m hm => hw m (by
        refine List.mem_cons_of_mem _ (List.mem_append_left _ (weights_all (d := elems[i].1) (List.mem_map_of_mem (List.getElem_mem hi)) m hm))))
      exact ⟨⟨y, A2, c2, A3, c3⟩, hc, h2⟩
    obtain ⟨f, hfs⟩ : ∃ f : Nat → Ac × Option Addr × Nat × Option Addr × Nat, ∀ i, i < elems.length → W.cells? 0 (x.add (i * 11)) 11 = some (actV (f i).1 (f i).2.1 (f i).2.2.1 (f i).2.2.2.1 (f i).2.2.2.2).toList ∧ AcAt W (f i).1 (f i).2.1 (f i).2.2.1 (f i).2.2.2.1 (f i).2.2.2.2 := by
      refine ⟨fun i => if h : i < elems.length then Classical.choose (each i h) else ⟨⟨0, zN, emp, [], 0, false, emp⟩, none, 0, none, 0⟩, fun i hi => ?_⟩
      dsimp only
      rw [dif_pos hi]
      exact Classical.choose_spec (each i hi)
    refine ⟨(List.range elems.length).map (fun i => (f i).1), by simp [hlen], by simp; omega, fun _ => ⟨x, rfl, fun j p hp => ?_⟩, ?_, ?_⟩
    · have hj : j < elems.length := by
        have := (List.getElem?_eq_some_iff.1 hp).1
        simpa using this
      obtain rfl : (f j).1 = p := by
        rw [List.getElem?_map, List.getElem?_range hj] at hp
        exact Option.some.inj hp
      obtain ⟨h1, h2⟩ := hfs j hj
      obtain ⟨_, h4, h5⟩ := World.cells?_some h1
      refine ⟨_, _, _, _, h2, fun i u hu => ?_⟩
      have hi : i < 11 := by
        have := (Array.getElem?_eq_some_iff.1 hu).1
        exact this
      have := h5 i hi
      rw [Array.getElem?_toList, hu] at this
      rwa [Addr.add_add] at this
    · intro y hy
      obtain ⟨i, hi, rfl⟩ := List.mem_map.1 hy
      have h1 := (hfs i (List.mem_range.1 hi)).2
      exact ⟨h1.ok, h1.by_⟩
    · simp at hsz ⊢
      have hr : reachBytes = 140737488351232 := rfl
      omega
end Go.Proofs.YtageofdcloneoaaDoor.Fs
