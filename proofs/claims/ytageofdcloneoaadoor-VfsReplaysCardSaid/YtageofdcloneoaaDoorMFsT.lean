/- FsK, FsU, FsV, FsT put together. -/
import Derived.Test.YtageofdcloneoaaDoorMFsW
import Derived.Test.YtageofdcloneoaaDoorFsShelf
import Derived.Shelf.SlIter.Sorted
import Derived.Test.YtageofdcloneoaaDoorFsShelfTwo
import Derived.Test.YtageofdcloneoaaDoorMRoutQ
import Derived.Shelf.SlSortCmp.Whole1
import Derived.Shelf.SlSortCmp.NoneTotal
import Derived.Sort.Grow
import Derived.Test.YtageofdcloneoaaDoorMFsP
import Derived.Test.YtageofdcloneoaaDoorMFsZ
set_option linter.unusedVariables false
set_option linter.unusedSimpArgs false
namespace Go.Proofs.YtageofdcloneoaaDoor.Fs
open Go.RowKit Go.BigFrame Go.Maps Go.Shelf Go.Proofs.YtageofdcloneoaaDoor.Reg Go.Proofs.YtageofdcloneoaaDoor.Rout Go.Proofs.YtageofdcloneoaaDoor.Node Go.Proofs.YtageofdcloneoaaDoor.Tree Go.Proofs.YtageofdcloneoaaDoor.Vfs Go.Proofs.YtageofdcloneoaaDoorW.PrintWords Go.Proofs.YtageofdcloneoaaDoorW.PrintLast Go.Proofs.YtageofdcloneoaaDoorW.PrintMore
theorem keys_calls (b : Nat) (W : World) : Calls Tryd.prog 36 #[.map (some b)] W fun e w' => e = .returned (.func (.func 54) #[] #[.pointer (some ⟨W.heap.size, 0, none⟩)]) ∧ w' = W.alloc (.cells #[.map (some b)] 54) :=
  callsIn_wide.1 (AnyZ.keys_in Tryd.laysKeys Fence.wide 5 trivial rfl (some b) W)
theorem collect_calls (b m : Nat) (D : DataW Value) (Bm : Nat) (W : World) (hm : W.cell? ⟨Bm, 0, none⟩ = some (.map (some b))) (hown : ownN W b m D) (hsz : Maps.size D ≤ 65536) :
    Calls Tryd.prog 52 #[.func (.func 54) #[] #[.pointer (some ⟨Bm, 0, none⟩)]] W fun e w' => ∃ (v : Value) (ss : List (List UInt8)), e = .returned v ∧ ss.Perm (strKeys D) ∧ w'.ownsRow W.heap.size 9 1 v ss.length (ss.map encStr) ∧ Below W.heap.size W w' := by
  have hBm : Bm < W.heap.size := by
    rcases Nat.lt_or_ge Bm W.heap.size with h | h
    · exact h
    · simp [World.cell?, Array.getElem?_eq_none h] at hm
  have hseq : SeqGives Fence.wide 3 Tryd.prog 54 #[.pointer (some ⟨Bm, 0, none⟩)] encStr (fun ss => ss.Perm (strKeys D)) (Maps.size D) W :=
    AnyZ.keys_gives (ρ := Tryd.laysKeys1_ren) Tryd.laysKeys1 Fence.wide _ trivial rfl (by omega) Bm b m D W hBm hm hown
  have h := AnyZ.collect_in Tryd.laysCollect Fence.wide 5 trivial trivial rfl (by omega) 54 #[.pointer (some ⟨Bm, 0, none⟩)] trivial (enters_of Tryd.func54 (by kernel_rfl) rfl) _ _ (by unfold maxLen; omega) (by omega) W hseq
  exact (callsIn_wide.1 h).mono fun e w' ⟨v, ss, he, hS, hrow, _, hb⟩ => ⟨v, ss, he, hS, hrow, hb⟩
end Go.Proofs.YtageofdcloneoaaDoor.Fs
set_option linter.unusedVariables false
set_option linter.unusedSimpArgs false
namespace Go.Proofs.YtageofdcloneoaaDoor.Fs
open Go.RowKit Go.BigFrame Go.Maps Go.Shelf Go.Proofs.YtageofdcloneoaaDoor.Reg Go.Proofs.YtageofdcloneoaaDoor.Rout Go.Proofs.YtageofdcloneoaaDoor.Node Go.Proofs.YtageofdcloneoaaDoor.Tree Go.Proofs.YtageofdcloneoaaDoor.Vfs Go.Proofs.YtageofdcloneoaaDoorW.PrintWords Go.Proofs.YtageofdcloneoaaDoorW.PrintLast Go.Proofs.YtageofdcloneoaaDoorW.PrintMore
theorem split_grow (s : ByteArray) (w : World) (hs : s.size < 4294967281) :
    Calls Tryd.prog 46 #[.string s, .string ⟨#[47]⟩] w fun e w' => ∃ A, e = .returned (.slice A (pcs s).length (pcs s).length) ∧ Kd.string.C w' A (pcs s).length (pcs s) ∧ Below w.heap.size w w' ∧ ∃ os, w' = Go.Sort.grow w os := by
  have hl : (pcs s).length ≤ 9223372036854775807 := by rw [pcs_len]; have := List.count_le_length (a := (47 : UInt8)) (l := s.data.toList); rw [size_data] at this; omega
  refine (split_calls s w hs).mono fun e w' ⟨he, hw⟩ => ⟨_, he, ?_, ?_, ?_⟩
  · rw [hw]; exact strs_C w (pcs s) hl
  · rw [hw]; exact balloc (Below.refl _ _) _
  · exact ⟨_, by rw [hw, Go.Sort.alloc_eq_grow]⟩
set_option maxRecDepth 100000 in
set_option maxHeartbeats 4000000 in
theorem compare_grow (a b : ByteArray) (w : World) (ha : a.size ≤ 1024) (hb : b.size ≤ 1024) :
    Calls Tryd.prog 24 #[.string a, .string b] w fun e w' => e = .returned (.int .i64 (compB a b)) ∧ ∃ os, w' = Go.Sort.grow w os := by
  have la : (pcs a).length ≤ 1025 := by rw [pcs_len]; have := List.count_le_length (a := (47 : UInt8)) (l := a.data.toList); rw [size_data] at this; omega
  have lb : (pcs b).length ≤ 1025 := by rw [pcs_len]; have := List.count_le_length (a := (47 : UInt8)) (l := b.data.toList); rw [size_data] at this; omega
  have tok : True := trivial
  have C1 := Lib.hid (fun W => split_grow a W (by omega))
  have C2 := Lib.hid (fun W => split_grow b W (by omega))
  go_enter Tryd.func24, Tryd.ntmps24
  go_wp2_with (first
    | (go_at_call 45; refine (compareL_calls _ _ _ _ _ _ _ HX.out HY.out (by omega) (by omega)).mono ?_; rintro e w3 ⟨rfl, rfl⟩)
    | (go_at_call 46; have _t := tok; with_reducible refine (C1.out _).mono ?_; rintro e w1 ⟨A1, rfl, h1, hb1, g1⟩; have H1 := Lib.hid h1; have G1 := Lib.hid g1; clear h1 hb1 g1 tok)
    | (go_at_call 46; with_reducible refine (C2.out _).mono ?_; rintro e w2 ⟨A2, rfl, h2, hb2, g2⟩; have HY := Lib.hid h2; have HX := Lib.hid (Kd.C_below H1.out hb2); have G2 := Lib.hid g2; clear h2 hb2 g2))
  go_ret
  obtain ⟨o1, e1⟩ := G1.out
  obtain ⟨o2, e2⟩ := G2.out
  exact ⟨rfl, o1 ++ o2, by rw [e2, e1, Go.Sort.grow_grow]⟩
/-- A path, short. -/
abbrev Pa := { s : ByteArray // s.size ≤ 1024 }
instance : Inhabited Pa := ⟨⟨emp, by decide⟩⟩
def encP (e : Pa) : Value := .string e.1
def cmpP (x y : Pa) : Int := compB x.1 y.1
theorem swoP : Go.Sort.SWO (ltOf cmpP) where
  irrefl x := by unfold ltOf cmpP; rw [compB_self]; rfl
  trans x y z h1 h2 := by
    unfold ltOf cmpP at *
    rw [decide_eq_true_eq] at *
    exact compB_trans h1 h2
  ntrans x y z h1 h2 := by
    unfold ltOf cmpP at *
    rw [decide_eq_false_iff_not] at *
    have := compB_ntrans (Int.not_lt.1 h1) (Int.not_lt.1 h2)
    omega
theorem cmpLaysP (g n : Nat) (w : World) : CmpLays1 Tryd.prog 24 #[] encP cmpP g 0 n w :=
  fun _ _ _ _ x y => (compare_grow x.1 y.1 _ x.2 y.2).mono fun e w' ⟨he, os, hw⟩ => ⟨he, 0, os, by rw [hw]; rfl⟩
/-- Rising paths. -/
def Rising (l : List ByteArray) : Prop := l.Pairwise (fun x y => 0 ≤ compB y x)
set_option maxHeartbeats 1000000 in
theorem sortS_at (base g cap : Nat) (l : List Pa) (W : World) (h : W.ownsRow base 9 1 (.slice (some ⟨g, 0, none⟩) l.length cap) l.length (l.map encP)) (hl : l.length < 4611686018427387904) :
    Calls Tryd.prog 53 #[.slice (some ⟨g, 0, none⟩) l.length cap, .func (.func 24) #[] #[]] W fun e w' => e = .returned (.tuple #[]) ∧ ∃ m : List Pa, l.Perm m ∧ Rising (m.map (·.1)) ∧ w'.ownsRow base 9 1 (.slice (some ⟨g, 0, none⟩) l.length cap) l.length (m.map encP) ∧ W.grownBy w' (some g) := by
  obtain ⟨hcl, hform⟩ := h
  obtain ⟨cur, hcur, hbase, hncap, hcapm, hcs, hct⟩ : ∃ cur, W.heap[g]? = some (.cells cur 9 (0, 0)) ∧ base ≤ g ∧ l.length ≤ cap ∧ cap ≤ maxLen ∧ cur.size = cap * 1 ∧ cur.toList.take (l.length * 1) = l.map encP := by
    rcases hform with ⟨h', _⟩ | ⟨g', cap', cur, h', hb, hh, h3, h4, h5, h6⟩
    · cases h'
    · injection h' with h1 _ h2
      injection h1 with h1
      injection h1 with h1
      subst h1 h2
      exact ⟨cur, hh, hb, h3, h4, h5, h6⟩
  rw [Nat.mul_one] at hcs hct
  have hgl : g < W.heap.size := (Array.getElem?_eq_some_iff.1 hcur).1
  have hat : ∀ j (hj : j < l.length), cur[j]? = some (encP l[j]) := fun j hj => by
    have h1 : (cur.toList.take l.length)[j]? = (l.map encP)[j]? := by rw [hct]
    rw [List.getElem?_take, if_pos hj, Array.getElem?_toList, List.getElem?_map, List.getElem?_eq_getElem hj] at h1
    exact h1
  have hH : Go.Sort.Holds encP W g 0 l.toArray := by
    intro j hj
    have hj' : j < l.length := by simpa using hj
    rw [Nat.zero_add, getElem!_pos l.toArray j hj]
    refine ⟨?_, by simp [World.frozen?, hcur]⟩
    have := hat j hj'
    simp [World.cell?, hcur, this]
  have eg : ∀ args w, (callFunc 24 args).run Tryd.prog w = .ok (.enter 24 args) w := enters_of Tryd.func24 (by kernel_rfl) rfl
  have HS := Any.slices_SortFunc Tryd.laysSortOne encP (fun _ => rfl) cmpP swoP 24 #[] g 0 cap l.toArray W eg (cmpLaysP g _ W) hH hgl (by simpa using hl)
  change Calls Tryd.prog 53 _ _ _ at HS
  simp only [List.size_toArray] at HS
  refine HS.mono ?_
  rintro e w' ⟨rfl, d', n, os, hperm, hsort, rfl⟩
  obtain ⟨hsz', _, hpm⟩ := hperm
  have hex : ∀ a : Array Pa, a.size = l.length → a.extract 0 l.length = a := fun a ha => by rw [← ha]; simp
  rw [hex d' (by simpa using hsz'), hex l.toArray (by simp)] at hpm
  have hd' : d'.size = l.length := by simpa using hsz'
  have hheap : (sortWorld encP W g 0 n d' os).heap = W.heap.modify g (Go.Sort.onCells (Go.Sort.putCells encP 0 d')) ++ os := rfl
  refine ⟨rfl, d'.toList, ?_, ?_, ?_, ⟨rfl, rfl, rfl, ?_, ?_⟩⟩
  · simpa using hpm.symm
  · unfold Rising
    rw [List.pairwise_iff_getElem]
    intro i j hi hj hij
    simp only [List.length_map, Array.length_toList] at hi hj
    have := hsort i j (Nat.zero_le _) hij (by omega)
    unfold ltOf cmpP at this
    rw [decide_eq_false_iff_not, getElem!_pos d' j hj, getElem!_pos d' i hi] at this
    simp only [List.getElem_map, Array.getElem_toList]
    omega
  · refine ⟨by simp; omega, .inr ⟨g, cap, Go.Sort.putCells encP 0 d' cur, rfl, hbase, ?_, hncap, hcapm, ?_, ?_⟩⟩
    · rw [hheap, Array.getElem?_append_left (by simp; exact hgl), Array.getElem?_modify, if_pos rfl, hcur]
      rfl
    · unfold Go.Sort.putCells; simp [hcs]
    · refine List.ext_getElem? fun i => ?_
      rw [Nat.mul_one, List.getElem?_take]
      by_cases hi : i < l.length
      · rw [if_pos hi, Array.getElem?_toList]
        unfold Go.Sort.putCells
        rw [Array.getElem?_mapIdx, Array.getElem?_eq_getElem (show i < cur.size by omega)]
        have h1 : 0 ≤ i ∧ i < 0 + d'.size := by omega
        simp only [Option.map_some, if_pos h1, Nat.sub_zero]
        rw [List.getElem?_map, Array.getElem?_toList, Array.getElem?_eq_getElem (show i < d'.size by omega), getElem!_pos d' i (by omega)]
        rfl
      · rw [if_neg hi, List.getElem?_eq_none (by simp; omega)]
  · rw [hheap]; simp
  · intro k hk hne
    rw [hheap, Array.getElem?_append_left (by simp; exact hk), Array.getElem?_modify, if_neg (fun e => hne (by rw [e]))]
end Go.Proofs.YtageofdcloneoaaDoor.Fs
set_option linter.unusedVariables false
set_option linter.unusedSimpArgs false
namespace Go.Proofs.YtageofdcloneoaaDoor.Fs
open Go.RowKit Go.BigFrame Go.Maps Go.Shelf Go.Proofs.YtageofdcloneoaaDoor.Reg Go.Proofs.YtageofdcloneoaaDoor.Rout Go.Proofs.YtageofdcloneoaaDoor.Node Go.Proofs.YtageofdcloneoaaDoor.Tree Go.Proofs.YtageofdcloneoaaDoor.Vfs Go.Proofs.YtageofdcloneoaaDoorW.PrintWords Go.Proofs.YtageofdcloneoaaDoorW.PrintLast Go.Proofs.YtageofdcloneoaaDoorW.PrintMore
theorem keys_facts {w : World} {b n : Nat} {D : DataW Value} (h : ownN w b n D) : (strKeys D).Nodup ∧ ∀ x, x ∈ strKeys D ↔ Maps.has D (.string x) = true := by
  obtain ⟨es, hD, hp, _⟩ := World.ownsMap.entries h key9
  obtain ⟨es', hD', hko⟩ := World.ownsMap.keysOf h
  obtain rfl : es = es' := by rw [hD] at hD'; simpa using hD'
  subst hD
  have hk : ∀ p ∈ es, ∃ x, p.1 = .string x := fun p hp => by
    obtain ⟨v, hv⟩ := hko p hp
    obtain ⟨s, _, hx, _⟩ := key_inv hv
    exact ⟨_, hx⟩
  refine ⟨?_, fun x => ?_⟩
  · show (es.map fun p => strOf p.1).Nodup
    refine List.pairwise_map.2 (hp.imp_of_mem fun {p q} hp' hq' hne e => hne ?_)
    obtain ⟨a, ha⟩ := hk p hp'
    obtain ⟨b, hb⟩ := hk q hq'
    rw [ha, hb] at e ⊢
    exact congrArg _ e
  · rw [has_eq, List.any_eq_true]
    show x ∈ es.map (fun p => strOf p.1) ↔ _
    rw [List.mem_map]
    constructor
    · rintro ⟨p, hp', rfl⟩
      obtain ⟨a, ha⟩ := hk p hp'
      exact ⟨p, hp', by rw [ha]; simp [Lit.sameKey, strOf]⟩
    · rintro ⟨p, hp', hs⟩
      obtain ⟨a, ha⟩ := hk p hp'
      rw [ha] at hs
      exact ⟨p, hp', by rw [ha]; simpa [Lit.sameKey, strOf] using hs⟩
/-- The paths that are there, rising, each once. -/
structure Paths (M : NMap) (ps : List ByteArray) : Prop where
  up : Rising ps
  once : ps.Nodup
  mem : ∀ q, q ∈ ps ↔ (M q).isSome = true
def ofL (x : List UInt8) : ByteArray := ⟨x.toArray⟩
theorem ofL_list (x : List UInt8) : (ofL x).data.toList = x := rfl
theorem collectP (base g b : Nat) (lv : Value) (s : St) (Bm : Nat) (W : World) (h : FsAt W base g b lv s) (hF : Fine s.M) (hown : ∀ p x, s.M p = some x → x.f1 = p) (hm : W.cell? ⟨Bm, 0, none⟩ = some (.map (some b))) :
    Calls Tryd.prog 52 #[.func (.func 54) #[] #[.pointer (some ⟨Bm, 0, none⟩)]] W fun e w' => ∃ (v : Value) (ps : List Pa), e = .returned v ∧ (ps.map (·.1)).Nodup ∧ (∀ q, q ∈ ps.map (·.1) ↔ (s.M q).isSome = true) ∧ ps.length ≤ 65536 ∧ w'.ownsRow W.heap.size 9 1 v ps.length (ps.map encP) ∧ Below W.heap.size W w' := by
  obtain ⟨D, h1, h2, h3⟩ := h.map
  have hcb := h.cntB
  have hhas := fun q : ByteArray => says_has h3 q
  obtain ⟨hnd, hmem⟩ := keys_facts h1
  refine (collect_calls b s.cnt D Bm W hm h1 (by omega)).mono fun e w' ⟨v, ss, he, hp, hrow, hb⟩ => ?_
  have hin : ∀ x ∈ ss, (ofL x).size ≤ 1024 := fun x hx => by
    have hk := (hmem x).1 (hp.subset hx)
    have h4 := hhas (ofL x)
    rw [ofL_list, hk] at h4
    obtain ⟨y, hy⟩ := Option.isSome_iff_exists.1 h4.symm
    rw [← hown _ y hy]
    exact hF.path _ y hy
  have hss : (ss.pmap (fun x hx => (⟨ofL x, hx⟩ : Pa)) hin).map (·.1) = ss.map ofL := by rw [List.map_pmap, List.pmap_eq_map]
  have hinj : ∀ x y : List UInt8, ofL x = ofL y → x = y := fun x y e => by rw [← ofL_list x, e, ofL_list]
  refine ⟨v, ss.pmap (fun x hx => (⟨ofL x, hx⟩ : Pa)) hin, he, ?_, fun q => ?_, ?_, ?_, hb⟩
  · rw [hss]
    exact List.Pairwise.map _ (fun x y hne e => hne (hinj x y e)) (hp.nodup_iff.2 hnd)
  · rw [hss, List.mem_map, ← hhas q]
    constructor
    · rintro ⟨x, hx, rfl⟩
      exact (hmem x).1 (hp.subset hx)
    · intro hq
      exact ⟨q.data.toList, hp.symm.subset ((hmem _).2 hq), rfl⟩
  · rw [List.length_pmap, hp.length_eq]
    have : (strKeys D).length = Maps.size D := by
      obtain ⟨es, rfl⟩ := h1.isMap
      simp [strKeys, Maps.size]
    omega
  · have e1 : (ss.pmap (fun x hx => (⟨ofL x, hx⟩ : Pa)) hin).map encP = ss.map encStr := by
      rw [List.map_pmap]
      exact (List.pmap_congr_left (g := fun a _ => encStr a) ss (fun a _ h1 h2 => rfl)).trans (List.pmap_eq_map (H := hin))
    rw [e1, List.length_pmap]
    exact hrow
set_option maxRecDepth 100000 in
set_option maxHeartbeats 4000000 in
theorem paths_calls (base g b : Nat) (lv : Value) (s : St) (Bm : Nat) (W : World) (h : FsAt W base g b lv s) (hF : Fine s.M) (hown : ∀ p x, s.M p = some x → x.f1 = p) (hm : W.cell? ⟨Bm, 0, none⟩ = some (.map (some b))) :
    Calls Tryd.prog 35 #[.func (.func 54) #[] #[.pointer (some ⟨Bm, 0, none⟩)], .func (.func 24) #[] #[]] W fun e w' => ∃ (v : Value) (ps : List ByteArray), e = .returned v ∧ Paths s.M ps ∧ ps.length ≤ 65536 ∧ Kd.string.R 9 w' W.heap.size (fun _ => True) v ps ∧ Below W.heap.size W w' := by
  have HCO := Lib.hid (collectP base g b lv s Bm W h hF hown hm)
  clear h hm
  go_enter Tryd.func35, Tryd.ntmps35
  go_upto_region 2 with (go_at_call 52; refine HCO.out.mono ?_; rintro e w1 ⟨v, ps, rfl, hn, hm, hl, hrow, hb⟩)
  have HSO := Lib.hid (show Calls Tryd.prog 53 #[v, .func (.func 24) #[] #[]] w1 fun e w' => e = .returned (.tuple #[]) ∧ ∃ m : List Pa, ps.Perm m ∧ Rising (m.map (·.1)) ∧ w'.ownsRow W.heap.size 9 1 v m.length (m.map encP) ∧ Below W.heap.size W w' from by
    by_cases h0 : ps.length = 0
    · obtain rfl : ps = [] := List.eq_nil_of_length_eq_zero h0
      have hv : ∃ A c, v = .slice A 0 c := by
        rcases hrow.2 with ⟨rfl, _⟩ | ⟨g', cap', cur, rfl, _⟩
        · exact ⟨_, _, rfl⟩
        · exact ⟨_, _, rfl⟩
      obtain ⟨A, c, rfl⟩ := hv
      have hN := AnyF.slices_SortFunc_none Tryd.laysSortS A c (.func (.func 24) #[] #[]) w1
      change Calls Tryd.prog 53 _ _ _ at hN
      refine hN.mono ?_
      rintro e w' ⟨rfl, rfl⟩
      exact ⟨rfl, [], .nil, List.Pairwise.nil, hrow, hb⟩
    · have hv : ∃ g' cap', v = .slice (some ⟨g', 0, none⟩) ps.length cap' ∧ W.heap.size ≤ g' := by
        rcases hrow.2 with ⟨_, h'⟩ | ⟨g', cap', cur, rfl, hg', _⟩
        · exact absurd h' h0
        · exact ⟨g', cap', rfl, hg'⟩
      obtain ⟨g', cap', rfl, hg'⟩ := hv
      refine (sortS_at W.heap.size g' cap' ps w1 hrow (by omega)).mono ?_
      rintro e w' ⟨rfl, m, hp, hr, ho, hg⟩
      exact ⟨rfl, m, hp, hr, by rw [← hp.length_eq]; exact ho, hb.grown hg hb.size (fun k e => by injection e with e; omega)⟩)
  have HN := Lib.hid hn
  have HM := Lib.hid hm
  have HL := Lib.hid hl
  clear hn hm hl hrow hb HCO
  go_wp2_with (go_at_call 53; refine HSO.out.mono ?_; rintro e w2 ⟨rfl, m, hp, hr, ho, hb2⟩)
  go_ret
  refine ⟨_, m.map (·.1), rfl, ⟨hr, (hp.map _).nodup_iff.1 HN.out, fun q => ?_⟩, by have := HL.out; have := hp.length_eq; simp; omega, ?_, hb2⟩
  · rw [← HM.out q]
    exact ⟨fun hq => (hp.map _).symm.subset hq, fun hq => (hp.map _).subset hq⟩
  · refine Kd.R_of_own ?_ (fun _ _ => trivial)
    rw [List.length_map]
    have e1 : encs Value.string (m.map (·.1)) = m.map encP := by
      unfold encs
      rw [List.map_map]
      rfl
    rw [e1]
    exact ho
end Go.Proofs.YtageofdcloneoaaDoor.Fs
set_option linter.unusedVariables false
set_option linter.unusedSimpArgs false
namespace Go.Proofs.YtageofdcloneoaaDoor.Fs
open Go.RowKit Go.BigFrame Go.Maps Go.Shelf Go.Proofs.YtageofdcloneoaaDoor.Reg Go.Proofs.YtageofdcloneoaaDoor.Rout Go.Proofs.YtageofdcloneoaaDoor.Node Go.Proofs.YtageofdcloneoaaDoor.Tree Go.Proofs.YtageofdcloneoaaDoor.Vfs Go.Proofs.YtageofdcloneoaaDoorW.PrintWords Go.Proofs.YtageofdcloneoaaDoorW.PrintLast Go.Proofs.YtageofdcloneoaaDoorW.PrintMore
attribute [local go_sem ↓] Go.wp_at_zero Go.wp_at_succ
theorem infoNd : (Tryd.prog.info? 33).map (fun i => (i.zero, i.size, i.bytes)) = some (some (.agg #[.int .i64 0, .string ⟨#[]⟩, .slice none 0 0, .int .i64 0, .int .i64 0]), 5, 64) := by kernel_rfl
/-- The nodes that are there, in the order of their paths. -/
def TreeOf (M : NMap) (l : List Nd) : Prop := ∃ ps, Paths M ps ∧ l.map some = ps.map M
def TreePost (M : NMap) (w : World) (e : Ending) (w' : World) : Prop := ∃ v l, e = .returned v ∧ kN.R 33 w' w.heap.size (fun _ => True) v l ∧ TreeOf M l ∧ l.length ≤ 65536 ∧ Below w.heap.size w w'
set_option maxRecDepth 100000 in
set_option maxHeartbeats 8000000 in
theorem tree_calls (base g b : Nat) (lv : Value) (s : St) (w : World) (h : FsAt w base g b lv s) (hF : Fine s.M) (hown : ∀ p x, s.M p = some x → x.f1 = p) :
    Calls Tryd.prog 14 #[.pointer (some ⟨g, 0, none⟩)] w (TreePost s.M w) := by
  have HW := Lib.hid h
  have HH0 := Lib.hid (fun W (hb : Below w.heap.size w W) => (h.below hb : FsAt W base g b lv s))
  have HN := Lib.hid (none_calls g b w h.c0)
  have c0 := h.c0
  have HK := Lib.hid (keys_calls b w)
  have HS := Lib.hid (show Calls Tryd.prog 35 #[.func (.func 54) #[] #[.pointer (some ⟨w.heap.size, 0, none⟩)], .func (.func 24) #[] #[]] (w.alloc (.cells #[.map (some b)] 54)) fun e w' => ∃ (A : Option Addr) (c : Nat) (ps : List ByteArray), e = .returned (.slice A ps.length c) ∧ Hid (Paths s.M ps) ∧ ps.length ≤ 65536 ∧ Hid (Kd.string.R 9 w' w.heap.size (fun _ => True) (.slice A ps.length c) ps) ∧ Hid (Below w.heap.size w w') from by
    refine (paths_calls base g b lv s w.heap.size _ (h.below (balloc (Below.refl _ _) _)) hF hown (by simp)).mono fun e w' ⟨v, ps, he, hP, hl, hR, hb⟩ => ?_
    obtain ⟨A, c, rfl, _, _⟩ := Kd.R_reads hR
    exact ⟨A, c, ps, he, Lib.hid hP, hl, Lib.hid (Kd.R_lower hR (by simp)), Lib.hid (bgo (balloc (Below.refl _ _) _) hb)⟩)
  clear h
  go_enter Tryd.func14, Tryd.ntmps14
  go_wp2_with (first | (go_at_call 26; refine HN.out.mono ?_; rintro e w' ⟨rfl, rfl⟩) | (go_at_call 36; refine HK.out.mono ?_; rintro e w' ⟨rfl, rfl⟩) | (go_at_call 35; refine HS.out.mono ?_; rintro e w1 ⟨A1, c1, ps, rfl, HP, hpl, HR1, HB1⟩))
  have hw1 := HB1.out.size
  go_loopw [3, 5, 6, 16] (fun v3 _ _ i wr => ∃ (k : Nat) (A3 : Option Addr) (c3 : Nat) (l : List Nd), i = .int .i64 k ∧ k ≤ ps.length ∧ v3 = .slice A3 l.length c3 ∧ l.length = k ∧ Hid (kN.R 33 wr w1.heap.size (fun _ => True) (.slice A3 l.length c3) l) ∧ Hid (l.map some = (ps.take k).map s.M) ∧ Hid (Below w1.heap.size w1 wr)) (fun _ _ _ i _ => ps.length - (intOf i).toNat)
  case atStart => exact ⟨0, none, 0, [], rfl, by omega, rfl, rfl, Lib.hid (Kd.R_nil _ _ _ _ _), Lib.hid rfl, Lib.hid (Below.refl _ _)⟩
  case round =>
    obtain ⟨k, A3, c3, l, rfl, hk, rfl, hlk0, HRL, HML, HBL⟩ := hrel
    by_cases hlt : k < ps.length
    · obtain ⟨ad, hA, hxa⟩ := Kd.at_string (show Kd.string.C wr A1 ps.length ps from by
        obtain ⟨_, _, he4, _, hC4⟩ := Kd.R_reads HR1.out
        injection he4 with ha4 _ hc4
        subst ha4
        exact Kd.C_below hC4 HBL.out) (k : Int) (by omega) (by omega)
      subst hA
      rw [Int.toNat_natCast] at hxa
      obtain ⟨htk, hmem, _⟩ := rd_take ps k hlt
      have hpres := (HP.out.mem _).1 hmem
      obtain ⟨x, hx⟩ := Option.isSome_iff_exists.1 hpres
      have HMN := Lib.hid (show (l ++ [x]).map some = (ps.take (k + 1)).map s.M by rw [htk, List.map_append, List.map_append, HML.out, List.map_singleton, List.map_singleton, hx])
      clear htk hmem hpres
      generalize rdOf ByteArray.empty ps (k : Int) = z at *
      have hzs : z.size ≤ 1024 := by rw [← hown z x hx]; exact hF.path z x hx
      have hds := hF.data z x hx
      have HFr := Lib.hid (HH0.out _ (bgo HB1.out HBL.out))
      obtain ⟨A2, e2, hR2, hlk⟩ := HFr.out.look1 z (by omega) x hx
      have HR2 := Lib.hid hR2
      have cg := HFr.out.c0
      have k0 : (0 : Int) ≤ (k : Int) := by omega
      have k1 : (k : Int) < ps.length := by omega
      have HBC := Lib.hid (show Calls Tryd.prog 20 #[.slice A2 x.f2.length e2] (wr.alloc (.cells #[.int .i64 x.f0, .string x.f1, .slice A2 x.f2.length e2, .int .i64 x.f3, .int .i64 x.f4] 33)) fun e w' => ∃ A4 c4, e = .returned (.slice A4 x.f2.length c4) ∧ Box5 wr.heap.size (.int .i64 x.f0) (.string x.f1) (.slice A2 x.f2.length e2) (.int .i64 x.f3) (.int .i64 x.f4) w' ∧ (∀ i, w'.frozen? ⟨wr.heap.size, i, none⟩ = false) ∧ wr.heap.size < w'.heap.size ∧ Hid ((Kd.int .u8).R 5 w' w1.heap.size (fun q => wr.heap.size < q) (.slice A4 x.f2.length c4) x.f2) ∧ Hid (Below wr.heap.size wr w') from by
        have hal := balloc (Below.refl wr.heap.size wr) (.cells #[.int .i64 x.f0, .string x.f1, .slice A2 x.f2.length e2, .int .i64 x.f3, .int .i64 x.f4] 33)
        obtain ⟨_, _, he4, _, hC4⟩ := Kd.R_reads HR2.out
        injection he4 with ha4 _ hc4
        subst ha4
        refine (bclone_calls A2 e2 x.f2 _ (Kd.C_below hC4 hal) (by omega)).mono fun e w' ⟨v, he, hR, hb2⟩ => ?_
        obtain ⟨A4, c4, rfl, _, _⟩ := Kd.R_reads hR
        have hk8 : w'.heap[wr.heap.size]? = some (.cells #[.int .i64 x.f0, .string x.f1, .slice A2 x.f2.length e2, .int .i64 x.f3, .int .i64 x.f4] 33 (0, 0)) := (hb2.block _ (by simp)).trans (heap_alloc_new _ _)
        have hwr := HBL.out.size
        exact ⟨A4, c4, he, ⟨by simp [World.cell?, hk8], by simp [World.cell?, hk8], by simp [World.cell?, hk8], by simp [World.cell?, hk8], by simp [World.cell?, hk8]⟩, fun i => frozen_of_row _ _ i _ _ hk8, (Array.getElem?_eq_some_iff.1 hk8).1, Lib.hid (Kd.R_mono (Kd.R_lower (Kd.R_bound hR) (by simp; omega)) (fun q hq => by have := hq.2.1; simp at this; omega)), Lib.hid (bgo hal hb2)⟩)
      clear hR2 hx
      go_upto_region 9 with (go_at_call 20; refine HBC.out.mono ?_; rintro e w3 ⟨A4, c4, rfl, ⟨i0, i1, i2, i3, i4⟩, hfz, hlt4, HR4, HB4⟩)
      have HR5 := Lib.hid (Kd.R_far (p := ⟨wr.heap.size, 2, none⟩) HR4.out (fun q hq => by show q ≠ wr.heap.size; omega) (.slice A4 x.f2.length c4))
      have HB5 := Lib.hid (show Below w1.heap.size w1 (w3.setCell ⟨wr.heap.size, 2, none⟩ (.slice A4 x.f2.length c4)) from (bgo HBL.out HB4.out).setCell (p := ⟨wr.heap.size, 2, none⟩) HBL.out.size _)
      have HRL5 := Lib.hid (show kN.R 33 (w3.setCell ⟨wr.heap.size, 2, none⟩ (.slice A4 x.f2.length c4)) w1.heap.size (fun q => q < wr.heap.size ∨ wr.heap.size < q) (.slice A3 l.length c3) l from
        Kd.R_far (p := ⟨wr.heap.size, 2, none⟩) (Kd.R_mono (Kd.R_below (Kd.R_bound HRL.out) HB4.out) (fun q hq => .inl hq.2.2.1)) (fun q hq => by show q ≠ wr.heap.size; omega) _)
      refine wp_world ?_
      intro w5 hw5
      rw [← hw5] at HR5 HB5 HRL5
      have j0 : w5.cell? ⟨wr.heap.size, 0, none⟩ = some (.int .i64 x.f0) := by rw [hw5]; go_simp
      have j1 : w5.cell? ⟨wr.heap.size, 1, none⟩ = some (.string x.f1) := by rw [hw5]; go_simp
      have j2 : w5.cell? ⟨wr.heap.size, 2, none⟩ = some (.slice A4 x.f2.length c4) := by rw [hw5]; go_simp
      have j3 : w5.cell? ⟨wr.heap.size, 3, none⟩ = some (.int .i64 x.f3) := by rw [hw5]; go_simp
      have j4 : w5.cell? ⟨wr.heap.size, 4, none⟩ = some (.int .i64 x.f4) := by rw [hw5]; go_simp
      have hlt5 : wr.heap.size < w5.heap.size := by rw [hw5]; simpa [World.setCell] using hlt4
      clear hw5 i0 i1 i2 i3 i4 hfz hlk cg HBC
      rw [hlk0] at HRL5
      have hwr := HBL.out.size
      have HMK := Lib.hid (fun W (hb : Below w5.heap.size w5 W) => show kN.M W w1.heap.size (fun q => wr.heap.size < q) x [.int .i64 x.f0, .string x.f1, .slice A4 x.f2.length c4, .int .i64 x.f3, .int .i64 x.f4] from kN_mkM W _ _ x (v2 := .slice A4 x.f2.length c4) (Kd.R_below HR5.out hb))
      have HOKP := Lib.hid (fun (q : Nat) (hq : wr.heap.size < q) => show (q < wr.heap.size ∨ wr.heap.size < q) ∧ some q ≠ (Value.slice A3 k c3).ownBlock from ⟨.inr hq, fun e => by
        have h := HRL.out
        rw [hlk0] at h
        obtain ⟨_, inner, ho, _⟩ := h
        have := own_lt ho q e.symm
        omega⟩)
      have HRA := Lib.hid (fun W (hb : Below w5.heap.size w5 W) => (Kd.R_below HRL5.out hb : kN.R 33 W w1.heap.size (fun q => q < wr.heap.size ∨ wr.heap.size < q) (.slice A3 k c3) l))
      have HBA := Lib.hid (fun W (hb : Below w5.heap.size w5 W) => (bgo HB5.out hb : Below w1.heap.size w1 W))
      have hsz5 := HB5.out.size
      have hlb : (l.length + 1) * 64 ≤ 140737488355328 := by omega
      go_upto_region 10 with (at_builtin; refine Kd.R_append kN (w0 := w1) w1.heap.size rfl (.tmp 30) (.tmp 32) 22 33 (.agg #[.int .i64 0, .string ⟨#[]⟩, .slice none 0 0, .int .i64 0, .int .i64 0]) 64 rfl Tryd.underlying22 infoNd rfl (show 0 < 5 by decide) (by omega) (.slice A3 k c3) l x [.int .i64 x.f0, .string x.f1, .slice A4 x.f2.length c4, .int .i64 x.f3, .int .i64 x.f4] (fun q => q < wr.heap.size ∨ wr.heap.size < q) (fun q => wr.heap.size < q) rfl rfl (HMK.out _ (Below.refl _ _)) HOKP.out (fun q hq => by omega) (HRA.out _ (Below.refl _ _)) (HBA.out _ (Below.refl _ _)) (by omega) hlb ?_; intro v6 w6 hR6 hb6 hg6 hat6; obtain ⟨A6, c6, rfl⟩ := Kd.R_slice hR6; have HR6 := Lib.hid hR6; have HB6 := Lib.hid hb6; clear hR6 hb6 hg6 hat6)
      have hl6 : (l ++ [x]).length = k + 1 := by rw [List.length_append, hlk0]; rfl
      generalize l ++ [x] = l6 at *
      have HR7 := Lib.hid (Kd.R_mono HR6.out (fun _ _ => trivial) (ok' := fun _ => True))
      clear HR6 HMK HOKP HRA HBA HRL5 HR5
      go_wp2
      go_roundw
      case rel => exact ⟨k + 1, A6, c6, l6, by go_num, by omega, by rw [hl6], hl6, HR7, HMN, HB6⟩
      case measure => simp [intOf]; omega
    · have hkl : k = ps.length := by omega
      have HT := Lib.hid (show TreeOf s.M l from ⟨ps, HP.out, by have := HML.out; rw [hkl, List.take_length] at this; exact this⟩)
      have k1 : ¬ (k : Int) < ps.length := by omega
      clear hkl
      go_wp2
      go_ret
      exact ⟨_, l, rfl, Kd.R_lower (by have h := HRL.out; rw [hlk0] at h; exact h) hw1, HT.out, by omega, bgo HB1.out HBL.out⟩
end Go.Proofs.YtageofdcloneoaaDoor.Fs
