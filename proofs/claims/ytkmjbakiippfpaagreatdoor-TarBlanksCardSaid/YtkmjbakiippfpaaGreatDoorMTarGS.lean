/- GrowC, TarGS, TarGW put together. -/
import Derived.Test.YtkmjbakiippfpaaGreatDoorMTarH
import Derived.Test.YtkmjbakiippfpaaGreatDoorMTree
import Derived.Sort.Grow
import Derived.Test.YtkmjbakiippfpaaGreatDoorGrowShelf
import Derived.Shelf.SlSortCmp.WholeK
set_option linter.unusedVariables false
set_option linter.unusedSimpArgs false
namespace Go.Proofs.YtkmjbakiippfpaaGreatDoor.Rout
open Go.RowKit Go.BigFrame Go.Proofs.YtkmjbakiippfpaaGreatDoor.Reg Go.Proofs.YtkmjbakiippfpaaGreatDoorW.PrintWords
theorem split_grow (s : ByteArray) (w : World) (hs : s.size < 4294967281) :
    Calls Tryz.prog 35 #[.string s, .string ⟨#[47]⟩] w fun e w' => ∃ A, e = .returned (.slice A (pcs s).length (pcs s).length) ∧ Kd.string.C w' A (pcs s).length (pcs s) ∧ Below w.heap.size w w' ∧ ∃ os, w' = Go.Sort.grow w os := by
  have hl : (pcs s).length ≤ 9223372036854775807 := by rw [pcs_len]; have := List.count_le_length (a := (47 : UInt8)) (l := s.data.toList); rw [size_data] at this; omega
  refine (split_calls s w hs).mono fun e w' ⟨he, hw⟩ => ⟨_, he, ?_, ?_, ?_⟩
  · rw [hw]; exact strs_C w (pcs s) hl
  · rw [hw]; exact balloc (Below.refl _ _) _
  · exact ⟨_, by rw [hw, Go.Sort.alloc_eq_grow]⟩
set_option maxRecDepth 100000 in
set_option maxHeartbeats 4000000 in
theorem compare_grow (a b : ByteArray) (w : World) (ha : a.size ≤ 1024) (hb : b.size ≤ 1024) :
    Calls Tryz.prog 14 #[.string a, .string b] w fun e w' => e = .returned (.int .i64 (compB a b)) ∧ ∃ os, w' = Go.Sort.grow w os := by
  have la : (pcs a).length ≤ 1025 := by rw [pcs_len]; have := List.count_le_length (a := (47 : UInt8)) (l := a.data.toList); rw [size_data] at this; omega
  have lb : (pcs b).length ≤ 1025 := by rw [pcs_len]; have := List.count_le_length (a := (47 : UInt8)) (l := b.data.toList); rw [size_data] at this; omega
  have tok : True := trivial
  have C1 := Lib.hid (fun W => split_grow a W (by omega))
  have C2 := Lib.hid (fun W => split_grow b W (by omega))
  go_enter Tryz.func14, Tryz.ntmps14
  go_wp2_with (first
    | (go_at_call 34; refine (compareL_calls _ _ _ _ _ _ _ HX.out HY.out (by omega) (by omega)).mono ?_; rintro e w3 ⟨rfl, rfl⟩)
    | (go_at_call 35; have _t := tok; with_reducible refine (C1.out _).mono ?_; rintro e w1 ⟨A1, rfl, h1, hb1, g1⟩; have H1 := Lib.hid h1; have G1 := Lib.hid g1; clear h1 hb1 g1 tok)
    | (go_at_call 35; with_reducible refine (C2.out _).mono ?_; rintro e w2 ⟨A2, rfl, h2, hb2, g2⟩; have HY := Lib.hid h2; have HX := Lib.hid (Kd.C_below H1.out hb2); have G2 := Lib.hid g2; clear h2 hb2 g2))
  go_ret
  obtain ⟨o1, e1⟩ := G1.out
  obtain ⟨o2, e2⟩ := G2.out
  exact ⟨rfl, o1 ++ o2, by rw [e2, e1, Go.Sort.grow_grow]⟩
set_option maxRecDepth 100000 in
set_option maxHeartbeats 4000000 in
theorem less_grow (x y : Node.Nd) (v u : Value) (W : World) (hx : x.f1.size ≤ 1024) (hy : y.f1.size ≤ 1024) :
    Calls Tryz.prog 47 #[.agg #[.int .i64 x.f0, .string x.f1, v, .int .i64 x.f3, .int .i64 x.f4], .agg #[.int .i64 y.f0, .string y.f1, u, .int .i64 y.f3, .int .i64 y.f4]] W fun e w' => e = .returned (.int .i64 (compB x.f1 y.f1)) ∧ ∃ q os', w' = Go.Sort.grow (W.drewN q) os' := by
  have HC := Lib.hid (fun W' => compare_grow x.f1 y.f1 W' hx hy)
  generalize compB x.f1 y.f1 = r at *
  go_enter Tryz.func47, Tryz.ntmps47
  go_wp2_with (go_at_call 14; refine (HC.out _).mono ?_; rintro e w' ⟨rfl, os1, hw⟩; have HW := Lib.hid hw; clear hw)
  go_ret
  exact ⟨rfl, 0, _, by rw [HW.out, Go.Sort.alloc_eq_grow, Go.Sort.alloc_eq_grow, Go.Sort.grow_grow, Go.Sort.grow_grow]; rfl⟩
end Go.Proofs.YtkmjbakiippfpaaGreatDoor.Rout
set_option linter.unusedVariables false
set_option linter.unusedSimpArgs false
namespace Go.Proofs.YtkmjbakiippfpaaGreatDoor.Tree
open Go.RowKit Go.Proofs.YtkmjbakiippfpaaGreatDoor.Reg Go.Proofs.YtkmjbakiippfpaaGreatDoor.Rout Go.Proofs.YtkmjbakiippfpaaGreatDoor.Node Go.Proofs.YtkmjbakiippfpaaGreatDoorW.PrintWords Go.Sort
theorem GRow.of_made {W : World} {base g cap : Nat} {l : List Nd} {ok : Nat → Prop} (h : kN.R 31 W base ok (.slice (some ⟨g, 0, none⟩) l.length cap) l) : GRow W base g cap l.length (fun j cs => ∀ x, l[j]? = some x → kN.M W base (fun q => ok q ∧ q ≠ g) x cs) := by
  obtain ⟨_, cells, how, hr⟩ := h
  exact ⟨cells, how, fun j hj x hx => kN.M_mono (fun q hq => ⟨hq.1, by have := hq.2; simpa [Value.ownBlock] using this⟩) (hr.2 j x hx)⟩
/-- A node with where its bytes lie; its path is short. -/
abbrev El := { e : Nd × Option Addr × Nat // e.1.f1.size ≤ 1024 }
instance : Inhabited El := ⟨⟨(zN, none, 0), by decide⟩⟩
def encE (e : El) : List Value := [.int .i64 e.1.1.f0, .string e.1.1.f1, .slice e.1.2.1 e.1.1.f2.length e.1.2.2, .int .i64 e.1.1.f3, .int .i64 e.1.1.f4]
theorem encE_len (e : El) : (encE e).length = 5 := rfl
theorem encE_one (e : El) : ∀ v ∈ encE e, v.oneCell' = true := by
  intro v hv
  simp [encE] at hv
  rcases hv with rfl | rfl | rfl | rfl | rfl <;> rfl
def cmpE (x y : El) : Int := compB x.1.1.f1 y.1.1.f1
theorem swoE : SWO (ltOf cmpE) where
  irrefl x := by unfold ltOf cmpE; rw [compB_self]; rfl
  trans x y z h1 h2 := by
    unfold ltOf cmpE at *
    rw [decide_eq_true_eq] at *
    exact compB_trans h1 h2
  ntrans x y z h1 h2 := by
    unfold ltOf cmpE at *
    rw [decide_eq_false_iff_not] at *
    have := compB_ntrans (Int.not_lt.1 h1) (Int.not_lt.1 h2)
    omega
theorem cmpLays (g : Nat) (n : Nat) (w : World) : CmpLays Tryz.prog 47 #[] encE 5 cmpE g 0 n w :=
  fun _ _ _ _ x y => less_grow x.1.1 y.1.1 _ _ _ x.2 y.2
/-- The world behind a sort: the row's block turned, all others as they were. -/
theorem sort_world (W : World) (g m n cap : Nat) (cur : Array Value) (d : Array El) (os : Array Obj) (hh : W.heap[g]? = some (.cells cur 31 (0, 0))) (hsz : cur.size = cap * 5) (hn : d.size = n) (hle : n ≤ cap) :
    ∃ cur', (sortWorldK encE 5 W g 0 m d os).heap[g]? = some (.cells cur' 31 (0, 0)) ∧ cur'.size = cap * 5 ∧ (∀ j, j < n → (cur'.toList.drop (j * 5)).take 5 = encE d[j]!) ∧ W.grownBy (sortWorldK encE 5 W g 0 m d os) (some g) := by
  have hg : g < W.heap.size := by
    rcases Nat.lt_or_ge g W.heap.size with h | h
    · exact h
    · rw [Array.getElem?_eq_none h] at hh; cases hh
  have hheap : (sortWorldK encE 5 W g 0 m d os).heap = W.heap.modify g (onCells (putCells id 0 (flatK encE 5 d))) ++ os := rfl
  refine ⟨putCells id 0 (flatK encE 5 d) cur, ?_, ?_, ?_, rfl, rfl, rfl, ?_, ?_⟩
  · rw [hheap, Array.getElem?_append_left (by simp; exact hg), Array.getElem?_modify, if_pos rfl, hh]
    rfl
  · unfold putCells; simp [hsz]
  · intro j hj
    have hj5 : j * 5 + 5 ≤ cap * 5 := by have : j + 1 ≤ cap := by omega
                                         omega
    refine List.ext_getElem? fun i => ?_
    rw [List.getElem?_take]
    by_cases hi : i < 5
    · rw [if_pos hi, List.getElem?_drop, Array.getElem?_toList]
      unfold putCells
      rw [Array.getElem?_mapIdx, Array.getElem?_eq_getElem (show j * 5 + i < cur.size by omega)]
      have h1 : 0 ≤ j * 5 + i ∧ j * 5 + i < 0 + (flatK encE 5 d).size := by rw [size_flatK, hn]; omega
      simp only [Option.map_some, if_pos h1, Nat.sub_zero, id]
      rw [get_flatK _ _ _ _ (by rw [hn]; omega), show (j * 5 + i) / 5 = j by omega, show (j * 5 + i) % 5 = i by omega]
      rw [List.getElem?_eq_getElem (show i < (encE d[j]!).length from hi), getElem!_pos (encE d[j]!) i hi]
      rfl
    · rw [if_neg hi, List.getElem?_eq_none (show (encE d[j]!).length ≤ i by rw [encE_len]; omega)]
  · rw [hheap]; simp
  · intro k hk hne
    rw [hheap, Array.getElem?_append_left (by simp; exact hk), Array.getElem?_modify, if_neg (fun e => hne (by rw [e]))]
theorem toN (l : List Nd) (d : Array El) (hd : d.size = l.length) (h : ∀ j, j < l.length → l[j]? = some d[j]!.1.1) : l = d.toList.map (fun e => e.1.1) := by
  refine List.ext_getElem? fun i => ?_
  by_cases hi : i < l.length
  · rw [h i hi, List.getElem?_map, Array.getElem?_toList, Array.getElem?_eq_getElem (by omega), getElem!_pos d i (by omega)]
    rfl
  · rw [List.getElem?_eq_none (by omega), List.getElem?_eq_none (by simp; omega)]
set_option maxHeartbeats 1000000 in
theorem sort_calls (base g cap : Nat) (l : List Nd) (W : World) (h : kN.R 31 W base (fun _ => True) (.slice (some ⟨g, 0, none⟩) l.length cap) l) (hp : ∀ x ∈ l, x.f1.size ≤ 1024) (hl : l.length < 4611686018427387904) :
    Calls Tryz.prog 46 #[.slice (some ⟨g, 0, none⟩) l.length cap, .func (.func 47) #[] #[]] W fun e w' => e = .returned (.tuple #[]) ∧ ∃ m : List Nd, l.Perm m ∧ Sorted m ∧ kN.R 31 w' base (fun _ => True) (.slice (some ⟨g, 0, none⟩) l.length cap) m ∧ W.grownBy w' (some g) := by
  obtain ⟨cells, how, he⟩ := GRow.of_made h
  obtain ⟨hbase, hgl⟩ := (GRow.of_made h).lt
  obtain ⟨hcl, hform⟩ := how
  obtain ⟨cur, hcur, hncap, hcapm, hcs, hct⟩ : ∃ cur, W.heap[g]? = some (.cells cur 31 (0, 0)) ∧ l.length ≤ cap ∧ cap ≤ maxLen ∧ cur.size = cap * 5 ∧ cur.toList.take (l.length * 5) = cells := by
    rcases hform with ⟨h', _⟩ | ⟨g', cap', cur, h', _, hh, h3, h4, h5, h6⟩
    · cases h'
    · injection h' with h1 _ h2
      injection h1 with h1
      injection h1 with h1
      subst h1 h2
      exact ⟨cur, hh, h3, h4, h5, h6⟩
  have each : ∀ j, j < l.length → ∃ e : El, l[j]? = some e.1.1 ∧ (cells.drop (j * 5)).take 5 = encE e := by
    intro j hj
    obtain ⟨v2, hcells, hR⟩ := kN_openM (he j hj _ (List.getElem?_eq_getElem hj))
    obtain ⟨A2, c2, rfl⟩ := Kd.R_slice hR
    exact ⟨⟨(l[j], A2, c2), hp _ (List.getElem_mem hj)⟩, List.getElem?_eq_getElem hj, hcells⟩
  obtain ⟨f, hf⟩ : ∃ f : Nat → El, ∀ j, j < l.length → l[j]? = some (f j).1.1 ∧ (cells.drop (j * 5)).take 5 = encE (f j) := by
    refine ⟨fun j => if h : j < l.length then Classical.choose (each j h) else default, fun j hj => ?_⟩
    dsimp only
    rw [dif_pos hj]
    exact Classical.choose_spec (each j hj)
  obtain ⟨d, hds, hdj⟩ : ∃ d : Array El, d.size = l.length ∧ ∀ j, j < l.length → d[j]! = f j := by
    refine ⟨Array.ofFn (n := l.length) (fun i => f i.1), by simp, fun j hj => ?_⟩
    rw [getElem!_pos _ j (by simpa using hj)]
    simp
  have hN := toN l d hds (fun j hj => by rw [hdj j hj]; exact (hf j hj).1)
  have hH : HoldsK encE 5 W g 0 d := by
    intro t ht
    rw [size_flatK, hds] at ht
    have hj : t / 5 < l.length := by omega
    rw [get_flatK _ _ _ _ (by rw [hds]; exact ht), hdj _ hj, Nat.zero_add]
    refine ⟨?_, by simp [World.frozen?, hcur]⟩
    have h1 := (hf _ hj).2
    have h2 : (encE (f (t / 5)))[t % 5]? = cur[t]? := by
      rw [← h1, List.getElem?_take, if_pos (by omega), List.getElem?_drop, ← hct, List.getElem?_take, if_pos (by omega), Array.getElem?_toList, show t / 5 * 5 + t % 5 = t by omega]
    have h3 : t % 5 < (encE (f (t / 5))).length := by rw [encE_len]; omega
    rw [List.getElem?_eq_getElem h3] at h2
    show W.cell? ⟨g, t, none⟩ = some ((encE (f (t / 5)))[t % 5]!)
    rw [getElem!_pos (encE (f (t / 5))) (t % 5) h3, h2]
    simp [World.cell?, hcur]
  have eg : ∀ args w, (callFunc 47 args).run Tryz.prog w = .ok (.enter 47 args) w := enters_of Tryz.func47 (by kernel_rfl) rfl
  have HS := AnyQ.slices_SortFunc Tryz.laysSortF 5 Tryz.isAgg31 Tryz.sizeOf31 encE encE_len encE_one cmpE swoE 47 #[] g 0 cap d W eg (cmpLays g d.size W) hH hgl (by omega)
  change Calls Tryz.prog 46 _ _ _ at HS
  rw [hds] at HS
  refine HS.mono ?_
  rintro e w' ⟨rfl, d', n, os, hperm, hsort, rfl⟩
  obtain ⟨hsz', _, hpm⟩ := hperm
  have hex : ∀ a : Array El, a.size = l.length → a.extract 0 l.length = a := fun a ha => by rw [← ha]; simp
  rw [hex d' (by omega), hex d hds] at hpm
  obtain ⟨cur', hc1, hc2, hc3, hgr⟩ := sort_world W g n l.length cap cur d' os hcur hcs (by omega) hncap
  refine ⟨rfl, d'.toList.map (fun e => e.1.1), ?_, ?_, ?_, hgr⟩
  · rw [hN]; exact (hpm.symm.map _)
  · unfold Sorted
    rw [List.pairwise_iff_getElem]
    intro i j hi hj hij
    simp only [List.length_map, Array.length_toList] at hi hj
    have := hsort i j (Nat.zero_le _) hij (by omega)
    unfold ltOf cmpE at this
    rw [decide_eq_false_iff_not, getElem!_pos d' j hj, getElem!_pos d' i hi] at this
    simp only [List.getElem_map, Array.getElem_toList]
    omega
  · have hlm : (d'.toList.map (fun e => e.1.1)).length = l.length := by simp; omega
    have hG : GRow (sortWorldK encE 5 W g 0 n d' os) base g cap (d'.toList.map (fun e => e.1.1)).length (fun j cs => ∀ x, (d'.toList.map (fun e => e.1.1))[j]? = some x → kN.M (sortWorldK encE 5 W g 0 n d' os) base (fun q => True ∧ q ≠ g) x cs) := by
      rw [hlm]
      refine ⟨cur'.toList.take (l.length * 5), ⟨by rw [List.length_take, show cur'.toList.length = cap * 5 from hc2]; omega, .inr ⟨g, cap, cur', rfl, hbase, hc1, hncap, hcapm, hc2, rfl⟩⟩, fun j hj x hx => ?_⟩
      have hj' : j < d'.size := by omega
      rw [List.getElem?_map, Array.getElem?_toList, Array.getElem?_eq_getElem hj'] at hx
      obtain rfl := Option.some.inj hx
      have hmem : d'[j] ∈ d.toList := hpm.subset (by simp)
      obtain ⟨i, hi, hid⟩ := List.getElem_of_mem hmem
      simp only [Array.length_toList] at hi
      have hi' : i < l.length := by omega
      have h1 := he i hi' _ (hf i hi').1
      have h2 : f i = d'[j] := by rw [← hdj i hi', getElem!_pos d i hi]; simpa using hid
      rw [(hf i hi').2, h2] at h1
      rw [List.drop_take, List.take_take, show min 5 (l.length * 5 - j * 5) = 5 by omega, hc3 j hj, getElem!_pos d' j hj']
      exact Kd.M_step (kN.M_mono (fun q hq => hq) h1) (fun q hq hlt => hgr.block q hlt (fun e => hq.2 (by injection e)))
    have hm := GRow.made (ok := fun _ => True) hG trivial
    rw [hlm] at hm
    exact hm
theorem sort_any (base : Nat) (v : Value) (l : List Nd) (W : World) (h : kN.R 31 W base (fun _ => True) v l) (hp : ∀ x ∈ l, x.f1.size ≤ 1024) (hl : l.length < 4611686018427387904) :
    Calls Tryz.prog 46 #[v, .func (.func 47) #[] #[]] W fun e w' => e = .returned (.tuple #[]) ∧ ∃ m : List Nd, l.Perm m ∧ Sorted m ∧ kN.R 31 w' base (fun _ => True) v m ∧ W.grownBy w' v.ownBlock := by
  by_cases h0 : l.length = 0
  · obtain rfl : l = [] := List.eq_nil_of_length_eq_zero h0
    obtain ⟨A, c, rfl⟩ := Kd.R_slice h
    have hN := AnyF.slices_SortFunc_none Tryz.laysSortF A c (.func (.func 47) #[] #[]) W
    change Calls Tryz.prog 46 _ _ _ at hN
    refine hN.mono ?_
    rintro e w' ⟨rfl, rfl⟩
    exact ⟨rfl, [], .nil, List.Pairwise.nil, h, ⟨rfl, rfl, rfl, Nat.le_refl _, fun _ _ _ => rfl⟩⟩
  · obtain ⟨g, cap, rfl, _⟩ := Kd.R_form h (by omega)
    exact sort_calls base g cap l W h hp hl
end Go.Proofs.YtkmjbakiippfpaaGreatDoor.Tree
set_option linter.unusedVariables false
set_option linter.unusedSimpArgs false
namespace Go.Proofs.YtkmjbakiippfpaaGreatDoor.Tree
open Go.RowKit Go.BigFrame Go.Maps Go.Proofs.YtkmjbakiippfpaaGreatDoor.Reg Go.Proofs.YtkmjbakiippfpaaGreatDoor.Rout Go.Proofs.YtkmjbakiippfpaaGreatDoor.Node Go.Proofs.YtkmjbakiippfpaaGreatDoorW.PrintWords Go.Proofs.YtkmjbakiippfpaaGreatDoorW.PrintLast Go.Proofs.YtkmjbakiippfpaaGreatDoorW.PrintMore
/-- A row that is not the map's block. -/
abbrev RN (mb : Nat) (W : World) (base : Nat) (v : Value) (l : List Nd) : Prop := kN.R 31 W base (fun q => q ≠ mb) v l
set_option maxRecDepth 100000 in
set_option maxHeartbeats 16000000 in
theorem grow_calls (A : Option Addr) (c : Nat) (l : List Nd) (w : World) (hC : kN.C w A l.length l) (hok : ∀ x ∈ l, Ok x) (hl : l.length * 64 ≤ 140737488355328) (hg : bad [] l = 0 → (grown l).length * 64 ≤ 140737488355328) :
    Calls Tryz.prog 20 #[.slice A l.length c] w fun e w' => ∃ v e0 m, e = .returned (.tuple #[v, .int .i64 e0]) ∧ kN.R 31 w' w.heap.size (fun _ => True) v m ∧ Below w.heap.size w w' ∧ GrowSpec l e0 m := by
  have HC := Lib.hid hC
  have HOK := Lib.hid hok
  have HG := Lib.hid hg
  have hmm := @run_makeMap Tryz.prog
  clear hC hok hg
  go_enter Tryz.func20, Tryz.ntmps20
  go_wp2
  clear hmm
  go_loopw [17] (fun i wr => ∃ k : Nat, i = .int .i64 k ∧ k ≤ l.length ∧ Hid (owns wr w.heap.size k (foldT (paths (l.take k)))) ∧ Below w.heap.size w wr ∧ Hid (bad (paths (l.take k)) (l.drop k) = bad [] l)) (fun i _ => (l.length - intOf i).toNat)
  case atStart => exact ⟨0, rfl, by omega, Lib.hid (World.ownsMap_made _ _ _ _), balloc (Below.refl _ _) _, Lib.hid rfl⟩
  case round =>
    obtain ⟨k, rfl, hk, hown, hb, hbd⟩ := hrel
    by_cases hlt : k < l.length
    · obtain ⟨ad, A2, c2, hA, c0, c1, c2', c3, c4, hl2, hd⟩ := atN (Kd.C_below HC.out hb) (k : Int) (by omega) (by omega)
      subst hA
      have hok := HOK.out _ (rdN_mem l k hlt)
      have hps := hok.ps
      have HOKX := Lib.hid hok
      have hst := Lib.hid (bad_step l k hlt)
      have htk := Lib.hid (take_rdN l k hlt)
      have HD := Lib.hid hd
      have hown2 := Lib.hid hown.out
      rw [Int.toNat_natCast] at c0 c1 c2' c3 c4
      clear hok hd hown
      generalize rdN l (k : Int) = x at *
      have HV := Lib.hid (fun W => valid_calls x.f1 W (by omega))
      cases hv : validB x.f1
      · have HR := Lib.hid (show bad [] l = 20 by rw [← hbd.out, hst.out, if_pos hv])
        rw [hv] at HV
        clear hst hbd htk hv
        go_wp2_with (go_at_call 11; refine (HV.out _).mono ?_; rintro e w1 ⟨rfl, hb1⟩)
        go_ret2
        exact ⟨_, _, _, rfl, Kd.R_nil _ _ _ _ _, bgo (balloc hb _) hb1, .inl ⟨by rw [HR.out]; decide, HR.out.symm, rfl⟩⟩
      · have hvs := valid_size _ hv
        rw [hv] at HV
        have hst2 := Lib.hid (show bad (paths (l.take k)) (l.drop k) = if mayB x = false ∨ has (paths (l.take k)) x.f1 = true then 21 else bad (paths (l.take (k + 1))) (l.drop (k + 1)) by rw [hst.out, if_neg (by rw [hv]; simp)])
        clear hst hv
        have m0 : (wr.alloc (.cells #[.int .i64 x.f0, .string x.f1, .slice A2 x.f2.length c2, .int .i64 x.f3, .int .i64 x.f4] 31)).cell? ⟨wr.heap.size, 0, none⟩ = some (.int .i64 x.f0) := by simp
        have m1 : (wr.alloc (.cells #[.int .i64 x.f0, .string x.f1, .slice A2 x.f2.length c2, .int .i64 x.f3, .int .i64 x.f4] 31)).cell? ⟨wr.heap.size, 1, none⟩ = some (.string x.f1) := by simp
        have m2 : (wr.alloc (.cells #[.int .i64 x.f0, .string x.f1, .slice A2 x.f2.length c2, .int .i64 x.f3, .int .i64 x.f4] 31)).cell? ⟨wr.heap.size, 2, none⟩ = some (.slice A2 x.f2.length c2) := by simp
        have m3 : (wr.alloc (.cells #[.int .i64 x.f0, .string x.f1, .slice A2 x.f2.length c2, .int .i64 x.f3, .int .i64 x.f4] 31)).cell? ⟨wr.heap.size, 3, none⟩ = some (.int .i64 x.f3) := by simp
        have m4 : (wr.alloc (.cells #[.int .i64 x.f0, .string x.f1, .slice A2 x.f2.length c2, .int .i64 x.f3, .int .i64 x.f4] 31)).cell? ⟨wr.heap.size, 4, none⟩ = some (.int .i64 x.f4) := by simp
        have HM0 := Lib.hid m0
        have HM1 := Lib.hid m1
        have HM2 := Lib.hid m2
        have HM3 := Lib.hid m3
        have HM4 := Lib.hid m4
        clear m0 m1 m2 m3 m4
        go_upto_region 7 with (go_at_call 11; refine (HV.out _).mono ?_; rintro e w1 ⟨rfl, hb1⟩; have n0 := bkeep hb1 HM0.out; have n1 := bkeep hb1 HM1.out; have n2 := bkeep hb1 HM2.out; have n3 := bkeep hb1 HM3.out; have n4 := bkeep hb1 HM4.out; have B1 := Lib.hid (bgo (balloc (Below.refl wr.heap.size wr) _) hb1); clear hb1)
        clear c0 c1 c2' c3 c4 HM0 HM1 HM2 HM3 HM4 HV
        have HM := Lib.hid (fun (W : World) (h : Below w1.heap.size w1 W) => may_calls x A2 c2 W (Kd.C_below HD.out (bgo B1.out h)) HOKX.out)
        have HLK := Lib.hid (fun (W : World) (h : Below w1.heap.size w1 W) => ownsT_look (w := W) (hown2.out.kept (row := none) (grownBy_of_below (bgo B1.out h)) (by simp)) x.f1 (by omega))
        cases hm : mayB x
        · have HR := Lib.hid (show bad [] l = 21 by rw [← hbd.out, hst2.out, if_pos (.inl hm)])
          rw [hm] at HM
          clear hst2 hbd htk hm HLK
          go_wp2_with (go_at_call 13; refine (HM.out _ (Below.refl _ _)).mono ?_; rintro e w2 ⟨rfl, hb2⟩)
          go_ret2
          exact ⟨_, _, _, rfl, Kd.R_nil _ _ _ _ _, bgo hb (bgo B1.out hb2), .inl ⟨by rw [HR.out]; decide, HR.out.symm, rfl⟩⟩
        · rw [hm] at HM
          cases hs : has (paths (l.take k)) x.f1
          · have HR := Lib.hid (show bad (paths (l.take (k + 1))) (l.drop (k + 1)) = bad [] l by rw [← hbd.out, hst2.out, if_neg (by rw [hm, hs]; simp)])
            rw [hs] at HLK
            clear hst2 hbd hm hs
            go_wp2_with (first
              | (go_at_call 13; refine (HM.out _ (Below.refl _ _)).mono ?_; rintro e w2 ⟨rfl, hb2⟩; have hlk := HLK.out _ hb2; have r1 := bkeep hb2 n1; have B2 := Lib.hid (bgo B1.out hb2); have HO2 := Lib.hid (show owns w2 w.heap.size k (foldT (paths (l.take k))) from hown2.out.kept (row := none) (grownBy_of_below B2.out) (by simp)); clear hb2 n0 n1 n2 n3 n4)
              | (at_mapUpdate; refine wpList_mapUpdate_own _ rfl _ _ _ 38 rfl 9 4 key9 Tryz.underlying38 _ w.heap.size k _ rfl HO2.out (by unfold maxLen; omega) _ _ _ rfl rfl (Go.WideMaps.keyOf_string_mk Tryz.underlying9 (by unfold maxLen; omega)) _ [] (plainElem_bool Tryz.underlying4 _) ?_; intro w5 hown5 hgr5))
            have HB5 := Lib.hid ((bgo hb B2.out).grown hgr5 (bgo hb B2.out).size (fun j e => by injection e with e; omega))
            have HO5 := Lib.hid (show owns w5 w.heap.size (k + 1) (foldT (paths (l.take (k + 1)))) by rw [htk.out]; unfold paths; rw [List.map_append]; show owns w5 w.heap.size (k + 1) (foldT (paths (l.take k) ++ [x.f1])); rw [foldT_snoc]; exact hown5)
            clear hown5 hgr5 r1 hlk
            go_wp2
            go_roundw
            case rel => exact ⟨k + 1, by go_num, by omega, HO5, HB5.out, HR⟩
            case measure => simp [intOf]; omega
          · have HR := Lib.hid (show bad [] l = 21 by rw [← hbd.out, hst2.out, if_pos (.inr hs)])
            rw [hs] at HLK
            clear hst2 hbd htk hm hs
            go_wp2_with (go_at_call 13; refine (HM.out _ (Below.refl _ _)).mono ?_; rintro e w2 ⟨rfl, hb2⟩; have hlk := HLK.out _ hb2; have r1 := bkeep hb2 n1)
            go_ret2
            exact ⟨_, _, _, rfl, Kd.R_nil _ _ _ _ _, bgo hb (bgo B1.out hb2), .inl ⟨by rw [HR.out]; decide, HR.out.symm, rfl⟩⟩
    · obtain rfl : k = l.length := by omega
      have hb0 : bad [] l = 0 := by rw [← hbd.out, List.drop_length]; rfl
      have HB0 := Lib.hid hb0
      have hgl := HG.out hb0
      have HGO := Lib.hid (grown_ok l HOK.out hb0)
      have HO1 := Lib.hid (show owns wr w.heap.size l.length (foldT (paths l)) by have := hown.out; rwa [List.take_length] at this)
      have HLE := Lib.hid (lent_calls A c l wr (Kd.C_below HC.out hb) HOK.out hl)
      have hmb : w.heap.size < wr.heap.size := by have := HO1.out.lt; omega
      clear hown hbd hk hlt hb0
      go_upto_region 12 with (go_at_call 45; refine HLE.out.mono ?_; rintro e w1 ⟨v, rfl, hR, hb1⟩; have HR1 := Lib.hid hR; have HB1 := Lib.hid hb1; clear hR hb1)
      have HR2 := Lib.hid (show RN w.heap.size w1 w.heap.size v (l ++ ([] : List ByteArray).map folder) by
        rw [List.map_nil, List.append_nil]
        exact Kd.R_lower (Kd.R_mono (Kd.R_bound HR1.out) (fun q hq => by have := hq.2.1; omega)) (by omega))
      have HO2 := Lib.hid (show owns w1 w.heap.size (l.length + ([] : List ByteArray).length) (foldT (paths l ++ [])) by
        rw [List.append_nil]
        exact HO1.out.kept (row := none) (grownBy_of_below HB1.out) (by simp))
      have HB2 := Lib.hid (bgo hb HB1.out)
      clear HR1 HO1 HLE
      go_wp2
      go_loopw [7, 44] (fun v7 i w2 => ∃ (k : Nat) (u : List ByteArray), i = .int .i64 k ∧ k ≤ l.length ∧ Hid (RN w.heap.size w2 w.heap.size v7 (l ++ u.map folder)) ∧ Hid (owns w2 w.heap.size (l.length + u.length) (foldT (paths l ++ u))) ∧ Hid (Below w.heap.size w w2) ∧ Hid (u ++ news (paths l ++ u) (l.drop k) = news (paths l) l)) (fun _ i _ => (l.length - intOf i).toNat)
      case atStart => exact ⟨0, [], rfl, by omega, HR2, HO2, HB2, Lib.hid (by rw [List.append_nil]; rfl)⟩
      case round =>
        obtain ⟨k, u, rfl, hk, hR, hO, hB, hU⟩ := hrel
        by_cases hlt : k < l.length
        · obtain ⟨ad, A2, c2, hA, c0, c1, c2', c3, c4, hl2, hd⟩ := atN (Kd.C_below HC.out hB.out) (k : Int) (by omega) (by omega)
          subst hA
          have hvs := HGO.out.2 _ (List.mem_append_left _ (rdN_mem l k hlt))
          have hst := Lib.hid (news_step l k (paths l ++ u) hlt)
          rw [Int.toNat_natCast] at c0 c1 c2' c3 c4
          clear hd
          generalize rdN l (k : Int) = x at *
          have HP := Lib.hid (fun W => parent_calls x.f1 W (by omega))
          go_upto_region 16 with (go_at_call 12; refine (HP.out _).mono ?_; rintro e w3 ⟨rfl, hb3⟩; have HB3 := Lib.hid (bgo (balloc (Below.refl _ _) _) hb3); clear hb3)
          have HR3 := Lib.hid (show RN w.heap.size w3 w.heap.size u7 (l ++ (u ++ ([] : List ByteArray)).map folder) by rw [List.append_nil]; exact Kd.R_below hR.out HB3.out)
          have HO3 := Lib.hid (show owns w3 w.heap.size (l.length + (u ++ ([] : List ByteArray)).length) (foldT (paths l ++ (u ++ ([] : List ByteArray)))) by rw [List.append_nil]; exact hO.out.kept (row := none) (grownBy_of_below HB3.out) (by simp))
          have HB4 := Lib.hid (bgo hB.out HB3.out)
          have HT := Lib.hid (show u ++ (ups (paths l ++ u) x.f1 (x.f1.size + 1) ++ news ((paths l ++ u) ++ ups (paths l ++ u) x.f1 (x.f1.size + 1)) (l.drop (k + 1))) = news (paths l) l by rw [← hst.out]; exact hU.out)
          have hgn : (grown l).length = l.length + (news (paths l) l).length := by unfold grown; rw [List.length_append, List.length_map]
          have hlen := congrArg List.length HT.out
          rw [List.length_append, List.length_append] at hlen
          have hnb : l.length + u.length + (ups (paths l ++ u) x.f1 (x.f1.size + 1)).length ≤ 2199023255552 := by omega
          have hnb2 : l.length + u.length ≤ 2199023255552 := by omega
          clear hst hU hR hO hB HB3 c0 c1 c2' c3 c4 HP hlen hgn
          go_loopw [7, 10, 11] (fun v7 p ok w4 => ∃ (e : List ByteArray) (cur : ByteArray) (f : Nat), p = .string (parB cur).1 ∧ ok = .bool (parB cur).2 ∧ cur.size < f ∧ cur.size ≤ 1024 ∧ Hid (RN w.heap.size w4 w.heap.size v7 (l ++ (u ++ e).map folder)) ∧ Hid (owns w4 w.heap.size (l.length + (u ++ e).length) (foldT (paths l ++ (u ++ e)))) ∧ Hid (Below w.heap.size w w4) ∧ Hid (e ++ ups ((paths l ++ u) ++ e) cur f = ups (paths l ++ u) x.f1 (x.f1.size + 1))) (fun _ p ok _ => toGo p ok)
          case atStart => exact ⟨[], x.f1, x.f1.size + 1, rfl, rfl, by omega, hvs, HR3, HO3, HB4, Lib.hid (by rw [List.append_nil]; rfl)⟩
          case round =>
            obtain ⟨e, cur, f, rfl, rfl, hf, hcs, hR, hO, hB, hE⟩ := hrel
            obtain ⟨f', rfl⟩ : ∃ f', f = f' + 1 := ⟨f - 1, by omega⟩
            have hps := Nat.le_trans (parB_size cur) hcs
            have hup := Lib.hid (show ups ((paths l ++ u) ++ e) cur (f' + 1) = if (parB cur).2 = true ∧ has ((paths l ++ u) ++ e) (parB cur).1 = false then (parB cur).1 :: ups (((paths l ++ u) ++ e) ++ [(parB cur).1]) (parB cur).1 f' else [] from rfl)
            have hless := parB_less cur
            have HLK := Lib.hid (ownsT_look (w := wr) (by have := hO.out; rw [← List.append_assoc] at this; exact this) (parB cur).1 (by omega))
            generalize hpe : (parB cur).1 = pa at *
            cases hinner : (parB cur).2
            · have hEnd := Lib.hid (show e = ups (paths l ++ u) x.f1 (x.f1.size + 1) by rw [← hE.out, hup.out, if_neg (by rw [hinner]; simp), List.append_nil])
              have HU := Lib.hid (show (u ++ e) ++ news (paths l ++ (u ++ e)) (l.drop (k + 1)) = news (paths l) l by rw [← HT.out, ← hEnd.out, List.append_assoc, List.append_assoc])
              clear hup hless hE HLK hpe hinner
              go_wp2
              go_roundw
              case rel => exact ⟨k + 1, u ++ e, by go_num, by omega, hR, by have := hO; exact this, hB, HU⟩
              case measure => simp [intOf]; omega
            · cases hhas : has ((paths l ++ u) ++ e) pa
              · rw [hhas] at HLK
                have hlk := HLK.out
                have hup2 := Lib.hid (show ups ((paths l ++ u) ++ e) cur (f' + 1) = pa :: ups (((paths l ++ u) ++ e) ++ [pa]) pa f' by rw [hup.out, if_pos ⟨hinner, hhas⟩])
                have hpl : pa.size < cur.size := hless hinner
                have hlen2 := congrArg List.length hE.out
                rw [hup2.out, List.length_append, List.length_cons] at hlen2
                have hN : l.length + (u ++ e).length + 1 ≤ 2199023255552 := by rw [List.length_append]; omega
                have HEn := Lib.hid (show (e ++ [pa]) ++ ups ((paths l ++ u) ++ (e ++ [pa])) pa f' = ups (paths l ++ u) x.f1 (x.f1.size + 1) by rw [← hE.out, hup2.out, ← List.append_assoc ((paths l ++ u)) e [pa], List.append_assoc e]; rfl)
                have hrl : (l ++ (u ++ e).map folder).length = l.length + (u ++ e).length := by rw [List.length_append, List.length_map]
                have HPP := Lib.hid (fun W => parent_calls pa W (by omega))
                have hsn : (u ++ e).map folder ++ [folder pa] = (u ++ (e ++ [pa])).map folder := by simp only [List.map_append, List.append_assoc, List.map_cons, List.map_nil]
                clear hup hup2 hE hlen2 HLK hpe hhas hinner hless
                go_upto_region 17 with (first
                  | (at_mapUpdate; refine wpList_mapUpdate_own _ rfl _ _ _ 38 rfl 9 4 key9 Tryz.underlying38 _ w.heap.size (l.length + (u ++ e).length) _ rfl hO.out (by unfold maxLen; omega) _ _ _ rfl rfl (Go.WideMaps.keyOf_string_mk Tryz.underlying9 (by unfold maxLen; omega)) _ [] (plainElem_bool Tryz.underlying4 _) ?_; intro w5 hown5 hgr5; have HO5 := Lib.hid hown5; have HGR5 := Lib.hid hgr5; have HR5 := Lib.hid (Kd.R_step hR.out (fun q hq hlt => hgr5.block q hlt (fun e => hq (by injection e)))); have HB5 := Lib.hid (hB.out.grown hgr5 hB.out.size (fun j e => by injection e with e; omega)); have hs5 := hown5.lt; clear hown5 hgr5)
                  | (at_builtin; refine Kd.R_append kN (w0 := w) w.heap.size rfl (.tmp 68) (.tmp 71) 22 31 (.agg #[.int .i64 0, .string ⟨#[]⟩, .slice none 0 0, .int .i64 0, .int .i64 0]) 64 rfl Tryz.underlying22 infoN rfl (show 0 < 5 by decide) (by omega) u7 (l ++ (u ++ e).map folder) (folder pa) [.int .i64 1, .string pa, .slice none 0 0, .int .i64 493, .int .i64 0] (fun q => q ≠ w.heap.size) (fun _ => False) rfl rfl (kN_mkM _ _ _ (folder pa) (v2 := .slice none 0 0) (Kd.R_nil _ _ _ _ _)) (fun _ h => h.elim) (fun _ h => by omega) HR5.out HB5.out (by omega) (by omega) ?_; intro v6 w6 hR6 hb6 hg6 hat6; have HR6 := Lib.hid hR6; have HB6 := Lib.hid hb6; have HG6 := Lib.hid hg6; clear hR6 hb6 hg6 hat6))
                have HO6 := Lib.hid (show owns w6 w.heap.size (l.length + (u ++ (e ++ [pa])).length) (foldT (paths l ++ (u ++ (e ++ [pa])))) by
                  have h1 := HO5.out.kept HG6.out (fun e => HR5.out.1 _ e.symm rfl)
                  rw [← foldT_snoc, List.append_assoc, List.append_assoc] at h1
                  have h2 : l.length + (u ++ e).length + 1 = l.length + (u ++ (e ++ [pa])).length := by simp only [List.length_append, List.length_singleton]; omega
                  rw [h2] at h1
                  exact h1)
                have HR7 := Lib.hid (show RN w.heap.size w6 w.heap.size v6 (l ++ (u ++ (e ++ [pa])).map folder) by rw [← hsn, ← List.append_assoc]; exact HR6.out)
                have hlp := parB_less pa
                clear HO5 HGR5 HR5 HB5 HR6 HG6 hR hO hB hlk hsn hN hrl
                generalize hp1 : (parB pa).1 = p1 at *
                generalize hp2 : (parB pa).2 = p2 at *
                go_wp2_with (go_at_call 12; refine (HPP.out _).mono ?_; rintro e7 w7 ⟨rfl, hb7⟩; have HB7 := Lib.hid (bgo HB6.out hb7); have HR8 := Lib.hid (Kd.R_below HR7.out hb7); have HO8 := Lib.hid (show owns w7 w.heap.size (l.length + (u ++ (e ++ [pa])).length) (foldT (paths l ++ (u ++ (e ++ [pa])))) from HO6.out.kept (row := none) (grownBy_of_below hb7) (by simp)); clear hb7)
                go_roundw
                case rel => exact ⟨e ++ [pa], pa, f', by rw [hp1], by rw [hp2], by omega, hps, HR8, HO8, HB7, HEn⟩
                case measure =>
                  show toGo (.string p1) (.bool p2) < toGo (.string pa) (.bool true)
                  cases p2
                  · show 0 < pa.size + 1; omega
                  · show p1.size + 1 < pa.size + 1; have := hlp rfl; omega
              · rw [hhas] at HLK
                have hlk := HLK.out
                have hEnd := Lib.hid (show e = ups (paths l ++ u) x.f1 (x.f1.size + 1) by rw [← hE.out, hup.out, if_neg (by rw [hhas]; simp), List.append_nil])
                have HU := Lib.hid (show (u ++ e) ++ news (paths l ++ (u ++ e)) (l.drop (k + 1)) = news (paths l) l by rw [← HT.out, ← hEnd.out, List.append_assoc, List.append_assoc])
                clear hup hless hE HLK hpe hinner hhas
                go_wp2
                go_roundw
                case rel => exact ⟨k + 1, u ++ e, by go_num, by omega, hR, by have := hO; exact this, hB, HU⟩
                case measure => simp [intOf]; omega
        · obtain rfl : k = l.length := by omega
          have hun : u = news (paths l) l := by
            have := hU.out
            rw [List.drop_length] at this
            simpa [news] using this
          subst hun
          have HRG := Lib.hid (show kN.R 31 wr w.heap.size (fun _ => True) u7 (grown l) from Kd.R_mono hR.out (fun _ _ => trivial))
          have hln : (grown l).length ≤ 2199023255552 := by omega
          have HS := Lib.hid (sort_any w.heap.size u7 (grown l) wr HRG.out HGO.out.2 (by omega))
          have hgr := Lib.hid (Kd.R_base2 HRG.out)
          clear hU hR hO hlt hk
          go_upto_region 22 with (go_at_call 46; refine HS.out.mono ?_; rintro e8 w8 ⟨rfl, m, hpm, hso, hR8, hg8⟩; have HPM := Lib.hid hpm; have HSO := Lib.hid hso; have HR8 := Lib.hid hR8; have HG8 := Lib.hid hg8; clear hpm hso hR8 hg8)
          have HB8 := Lib.hid (hB.out.grown HG8.out hB.out.size (fun q e => by
            rcases hgr.out with h | ⟨k, h, h2⟩
            · rw [h] at e; cases e
            · rw [h] at e; injection e with e; omega))
          obtain ⟨A9, c9, rfl, _, hC9⟩ := Kd.R_reads HR8.out
          have HC9 := Lib.hid hC9
          have hml := HPM.out.length_eq
          have HCK := Lib.hid (check_calls A9 c9 m w8 hC9 (fun x hx => HGO.out.1 x (HPM.out.symm.subset hx)) (by omega))
          clear hC9 hgr HS HRG HG8 hB
          by_cases hz : (chk m).2 = 0
          · have HSP := Lib.hid (show GrowSpec l 0 m from .inr ⟨HB0.out, m, HPM.out, HSO.out, hz.symm, by rw [if_pos hz]⟩)
            rw [hz] at HCK
            clear hz
            generalize (chk m).1 = at_ at *
            go_wp2_with (go_at_call 7; refine HCK.out.mono ?_; rintro e9 w9 ⟨rfl, hb9⟩; have HR9 := Lib.hid (Kd.R_below HR8.out hb9); have HB9 := Lib.hid (bgo HB8.out hb9); clear hb9)
            go_ret2
            exact ⟨_, _, m, rfl, HR9.out, HB9.out, HSP.out⟩
          · have HSP := Lib.hid (show GrowSpec l (chk m).2 [] from .inr ⟨HB0.out, m, HPM.out, HSO.out, rfl, by rw [if_neg hz]⟩)
            have hz2 : ((chk m).2 != 0) = true := by simpa using hz
            clear hz
            generalize (chk m).1 = at_ at *
            generalize (chk m).2 = er at *
            go_wp2_with (go_at_call 7; refine HCK.out.mono ?_; rintro e9 w9 ⟨rfl, hb9⟩; have HB9 := Lib.hid (bgo HB8.out hb9); clear hb9)
            go_ret2
            exact ⟨_, _, [], rfl, Kd.R_nil _ _ _ _ _, HB9.out, HSP.out⟩
end Go.Proofs.YtkmjbakiippfpaaGreatDoor.Tree
