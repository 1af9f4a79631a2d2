/- Spoil, SpoilW, ProjL, TreeO, ProjW put together. -/
import Derived.Test.YtoiffnoiliknnaaDoorMProj
import Derived.Test.YtoiffnoiliknnaaDoorMRef
import Derived.Test.YtoiffnoiliknnaaDoorPSamex1
import Derived.Test.YtoiffnoiliknnaaDoorPlentx1
import Derived.RegionTactic
import Derived.Test.YtoiffnoiliknnaaDoorPnamesx1
import Derived.Test.YtoiffnoiliknnaaDoorMTree
import Derived.Test.YtoiffnoiliknnaaDoorWSized
import Derived.ChangeArms
import Derived.ChangeSlices
import Derived.SizedLaws
import Derived.OpenShut
import Derived.DataElems
import Derived.Test.YtoiffnoiliknnaaDoorRows
import Derived.Deep.DeepLaidRun
import Derived.LaidLaws
set_option linter.unusedVariables false
set_option linter.unusedSimpArgs false
namespace Go.Proofs.YtoiffnoiliknnaaDoor.Tree
open Go.RowKit Go.BigFrame Go.Maps Go.Proofs.YtoiffnoiliknnaaDoor.Reg Go.Proofs.YtoiffnoiliknnaaDoor.Rout Go.Proofs.YtoiffnoiliknnaaDoor.Node Go.Proofs.YtoiffnoiliknnaaDoorW.PrintWords Go.Proofs.YtoiffnoiliknnaaDoorW.PrintLast Go.Proofs.YtoiffnoiliknnaaDoorW.PrintMore
/-! ### Same -/
def toS (x : Nd) : PSame.S35 := ⟨x.f0, x.f1, x.f2, x.f3, x.f4⟩
theorem toS_C {w : World} {A : Option Addr} {l : List Nd} (h : kN.C w A l.length l) : PSame.k35.C w A (l.map toS).length (l.map toS) := by
  obtain ⟨h1, h2, h3⟩ := h
  refine ⟨rfl, by rw [List.length_map]; exact h2, fun hp => ?_⟩
  obtain ⟨ad, hA, hc⟩ := h3 (by rw [List.length_map] at hp; exact hp)
  refine ⟨ad, hA, fun j p hj => ?_⟩
  rw [List.getElem?_map] at hj
  obtain ⟨x, hx, rfl⟩ := Option.map_eq_some_iff.1 hj
  obtain ⟨c, q1, q2, q3⟩ := hc j x hx
  exact ⟨c, q1, q2, q3⟩
theorem nums_inj (xs ys : List Int) (hx : ∀ b ∈ xs, 0 ≤ b ∧ b ≤ 255) (hy : ∀ b ∈ ys, 0 ≤ b ∧ b ≤ 255) : (strOfNums xs).toList = (strOfNums ys).toList ↔ xs = ys := by
  have hd : ∀ zs, (strOfNums zs).toList = Lib.bytesOf zs := fun zs => by
    rw [ByteArray.toList_eq]
    unfold strOfNums Lib.bytesOf
    simp
  rw [hd, hd]
  have h := bytes_eq xs ys hx hy
  constructor
  · intro e
    have e2 : (Lib.bytesOf xs == Lib.bytesOf ys) = true := by simpa using e
    rw [h] at e2
    simpa using e2
  · rintro rfl; rfl
theorem one_is (x y : Nd) (hx : Ok x) (hy : Ok y) : PSame.hamperref18_One.f x.f0 x.f1 x.f2 x.f3 x.f4 y.f0 y.f1 y.f2 y.f3 y.f4 = some (oneB x y) := by
  unfold PSame.hamperref18_One.f oneB
  by_cases h0 : x.f0 = y.f0
  · rw [if_pos h0]
    by_cases h1 : x.f1.toList = y.f1.toList
    · rw [if_pos h1]
      by_cases h2 : x.f2 = y.f2
      · rw [if_pos ((nums_inj _ _ hx.by_ hy.by_).2 h2)]
        by_cases h3 : x.f3 = y.f3
        · rw [if_pos h3]; simp [h0, h1, h2, h3]
        · rw [if_neg h3]; simp [h3]
      · rw [if_neg (fun h => h2 ((nums_inj _ _ hx.by_ hy.by_).1 h))]; simp [h2]
    · rw [if_neg h1]; simp [h1]
  · rw [if_neg h0]; simp [h0]
theorem rd_toS (l : List Nd) (i : Nat) (h1 : i < l.length) : PSame.rd_T35 (l.map toS) (i : Int) = toS (rdN l i) := by
  unfold PSame.rd_T35 rdN
  rw [Int.toNat_natCast, List.getD_eq_getElem?_getD, List.getD_eq_getElem?_getD, List.getElem?_map, List.getElem?_eq_getElem h1]
  rfl
theorem same_is (xs ys : List Nd) (hx : ∀ x ∈ xs, Ok x) (hy : ∀ y ∈ ys, Ok y) (hl : xs.length = ys.length) (lx : xs.length ≤ 140737488351232) : ∀ (n k i : Nat), xs.length - i = n → i ≤ xs.length → n + 1 ≤ k → PSame.hamperref18_Same.l0 k (xs.map toS) (ys.map toS) (i : Int) = some (sameB (xs.drop i) (ys.drop i))
  | 0, k + 1, i, hn, hi, hk => by
    unfold PSame.hamperref18_Same.l0
    rw [if_neg (by rw [List.length_map]; omega), List.drop_of_length_le (by omega), List.drop_of_length_le (by omega)]
    rfl
  | n + 1, k + 1, i, hn, hi, hk => by
    have h1 : i < xs.length := by omega
    have h2 : i < ys.length := by omega
    unfold PSame.hamperref18_Same.l0
    rw [if_pos (by rw [List.length_map]; omega), if_pos (by omega), if_pos (by rw [List.length_map]; omega), rd_toS _ _ h1, rd_toS _ _ h2, sameB_drop _ _ _ h1 h2]
    show ((PSame.hamperref18_One.f (rdN xs i).f0 (rdN xs i).f1 (rdN xs i).f2 (rdN xs i).f3 (rdN xs i).f4 (rdN ys i).f0 (rdN ys i).f1 (rdN ys i).f2 (rdN ys i).f3 (rdN ys i).f4).bind _) = _
    rw [one_is _ _ (hx _ (rdN_mem _ _ h1)) (hy _ (rdN_mem _ _ h2)), Option.bind_some, w64 (by omega) (by omega)]
    have ih := same_is xs ys hx hy hl lx n k (i + 1) (by omega) (by omega) (by omega)
    rw [show (((i + 1 : Nat)) : Int) = (i : Int) + 1 by omega] at ih
    rw [ih]
    cases oneB (rdN xs i) (rdN ys i) <;> simp
theorem refSame_calls (A B : Option Addr) (c d : Nat) (xs ys : List Nd) (w : World) (hA : kN.C w A xs.length xs) (hB : kN.C w B ys.length ys) (hc : xs.length ≤ c) (hd : ys.length ≤ d) (hx : ∀ x ∈ xs, Ok x) (hy : ∀ y ∈ ys, Ok y) (lx : xs.length ≤ 140737488351232) :
    Calls Tryd.prog 12 #[.slice A xs.length c, .slice B ys.length d] w fun e w' => e = .returned (.bool (sameB xs ys)) ∧ Below w.heap.size w w' := by
  have h := PSame.hamperref18_Same.calls (xs.length + 1) A c (xs.map toS) B d (ys.map toS) (sameB xs ys) w (toS_C hA) (by rw [List.length_map]; exact hc) (toS_C hB) (by rw [List.length_map]; exact hd) (by
    unfold PSame.hamperref18_Same.f
    rw [List.length_map, List.length_map]
    by_cases hl : xs.length = ys.length
    · rw [if_pos (by omega)]
      have := same_is xs ys hx hy hl lx xs.length (xs.length + 1) 0 (by omega) (by omega) (by omega)
      rw [List.drop_zero, List.drop_zero] at this
      exact this
    · rw [if_neg (by omega), sameB_len _ _ hl])
  rw [List.length_map, List.length_map] at h
  exact h
/-! ### lent -/
def toL (x : Nd) : Plent.S35 := ⟨x.f0, x.f1, x.f2, x.f3, x.f4⟩
theorem toL_C {w : World} {A : Option Addr} {l : List Nd} (h : kN.C w A l.length l) : Plent.k35.C w A (l.map toL).length (l.map toL) := by
  obtain ⟨h1, h2, h3⟩ := h
  refine ⟨rfl, by rw [List.length_map]; exact h2, fun hp => ?_⟩
  obtain ⟨ad, hA, hc⟩ := h3 (by rw [List.length_map] at hp; exact hp)
  refine ⟨ad, hA, fun j p hj => ?_⟩
  rw [List.getElem?_map] at hj
  obtain ⟨x, hx, rfl⟩ := Option.map_eq_some_iff.1 hj
  obtain ⟨c, q1, q2, q3⟩ := hc j x hx
  exact ⟨c, q1, q2, q3⟩
theorem ofL_C {w : World} {A : Option Addr} {l : List Nd} (h : Plent.k35.C w A (l.map toL).length (l.map toL)) : kN.C w A l.length l := by
  obtain ⟨h1, h2, h3⟩ := h
  rw [List.length_map] at h2 h3
  refine ⟨rfl, h2, fun hp => ?_⟩
  obtain ⟨ad, hA, hc⟩ := h3 hp
  refine ⟨ad, hA, fun j p hj => ?_⟩
  obtain ⟨c, q1, q2, q3⟩ := hc j (toL p) (by rw [List.getElem?_map, hj]; rfl)
  exact ⟨c, q1, q2, q3⟩
theorem rd_toL (l : List Nd) (i : Nat) (h1 : i < l.length) : Plent.rd_T35 (l.map toL) (i : Int) = toL (rdN l i) := by
  unfold Plent.rd_T35 rdN
  rw [Int.toNat_natCast, List.getD_eq_getElem?_getD, List.getD_eq_getElem?_getD, List.getElem?_map, List.getElem?_eq_getElem h1]
  rfl
theorem lent_is (l : List Nd) (hok : ∀ x ∈ l, Ok x) (hl : l.length * 64 ≤ 140737488351232) : ∀ (n k i : Nat) (acc : List Nd), l.length - i = n → i ≤ l.length → acc.length = i → n + 1 ≤ k → Plent.hamperlaw18_lent.l0 k (l.map toL) (acc.map toL) (i : Int) = some ((acc ++ l.drop i).map toL)
  | 0, k + 1, i, acc, hn, hi, ha, hk => by
    unfold Plent.hamperlaw18_lent.l0
    rw [if_neg (by rw [List.length_map]; omega), List.drop_of_length_le (by omega), List.append_nil]
  | n + 1, k + 1, i, acc, hn, hi, ha, hk => by
    have h1 : i < l.length := by omega
    have hds := (hok _ (rdN_mem l i h1)).ds
    unfold Plent.hamperlaw18_lent.l0
    rw [if_pos (by rw [List.length_map]; omega), if_pos (by omega), rd_toL _ _ h1, Option.bind_some, if_pos (by show (0 : Nat) + (rdN l i).f2.length < _; omega), if_pos (by rw [List.length_map]; omega), w64 (by omega) (by omega)]
    have ih := lent_is l hok hl n k (i + 1) (acc ++ [rdN l i]) (by omega) (by omega) (by rw [List.length_append, ha]; rfl) (by omega)
    rw [show (((i + 1 : Nat)) : Int) = (i : Int) + 1 by omega, List.map_append] at ih
    have e1 : l.drop i = rdN l i :: l.drop (i + 1) := by
      rw [List.drop_eq_getElem_cons h1]
      congr 1
      unfold rdN
      rw [Int.toNat_natCast, List.getD_eq_getElem?_getD, List.getElem?_eq_getElem h1]
      rfl
    rw [e1, show acc ++ rdN l i :: l.drop (i + 1) = (acc ++ [rdN l i]) ++ l.drop (i + 1) by simp]
    exact ih
theorem lawlent_calls (A : Option Addr) (c : Nat) (l : List Nd) (w : World) (hC : kN.C w A l.length l) (hc : l.length ≤ c) (hok : ∀ x ∈ l, Ok x) (hl : l.length * 64 ≤ 140737488351232) :
    Calls Tryd.prog 7 #[.slice A l.length c] w fun e w' => ∃ B d, e = .returned (.slice B l.length d) ∧ l.length ≤ d ∧ kN.C w' B l.length l ∧ Below w.heap.size w w' := by
  have h := Plent.hamperlaw18_lent.calls (l.length + 1) A c (l.map toL) (l.map toL) w (toL_C hC) (by rw [List.length_map]; exact hc) (by
    unfold Plent.hamperlaw18_lent.f
    exact lent_is l hok hl l.length (l.length + 1) 0 [] (by omega) (by omega) rfl (by omega))
  rw [List.length_map] at h
  refine h.mono ?_
  rintro e w' ⟨v, rfl, hS, hb⟩
  obtain ⟨B, d, rfl, hd, hC2⟩ := Kd.R_reads (Kd.S_R hS)
  rw [List.length_map] at hd ⊢
  exact ⟨B, d, rfl, hd, ofL_C (by rw [List.length_map] at hC2 ⊢; exact hC2), hb⟩
/-! ### what spoilt may write -/
/-- Blocks that are not ok stay. -/
structure Chg (ok : Nat → Prop) (w W : World) : Prop where
  os : W.os = w.os
  tape : W.tape = w.tape
  output : W.output = w.output
  size : w.heap.size ≤ W.heap.size
  block : ∀ q, q < w.heap.size → ¬ ok q → W.heap[q]? = w.heap[q]?
theorem Chg.refl (ok : Nat → Prop) (w : World) : Chg ok w w := ⟨rfl, rfl, rfl, Nat.le_refl _, fun _ _ _ => rfl⟩
theorem Chg.below {ok : Nat → Prop} {w W W1 : World} (h : Chg ok w W) (k : Below W.heap.size W W1) : Chg ok w W1 :=
  ⟨k.os.trans h.os, k.tape.trans h.tape, k.output.trans h.output, Nat.le_trans h.size k.size, fun q hq ho => (k.block q (Nat.lt_of_lt_of_le hq h.size)).trans (h.block q hq ho)⟩
theorem Chg.set {ok : Nat → Prop} {w W : World} (h : Chg ok w W) {p : Addr} (hp : ok p.block) (u : Value) : Chg ok w (W.setCell p u) :=
  ⟨h.os, h.tape, h.output, by have := h.size; simpa [World.setCell] using this, fun q hq ho => (Below.heap_setCell W p u q (fun e => ho (by rw [e]; exact hp))).trans (h.block q hq ho)⟩
theorem Chg.to_below {ok : Nat → Prop} {w W : World} (h : Chg ok w W) {B : Nat} (hB : B ≤ w.heap.size) (ho : ∀ q, q < B → ¬ ok q) : Below B w W :=
  ⟨h.os, h.tape, h.output, h.size, fun q hq => h.block q (by omega) (ho q hq)⟩
/-- n bytes that may be written. -/
def Fills (w : World) (ok : Nat → Prop) (A : Option Addr) (n : Nat) : Prop :=
  0 < n → ∃ ad, A = some ad ∧ ok ad.block ∧ ∀ i, i < n → (∃ z, w.cell? (ad.add i) = some (.int .u8 z)) ∧ w.frozen? (ad.add i) = false
/-- Nodes whose paths and bytes may be written. -/
def NRow (w : World) (ok : Nat → Prop) (A : Option Addr) (ns : List Nat) : Prop :=
  ∀ j n, ns[j]? = some n → ∃ ad s A2 c2, A = some ad ∧ ok ad.block ∧ w.cell? ⟨(ad.add (j * 5)).block, (ad.add (j * 5)).off + 1, none⟩ = some (.string s) ∧ w.frozen? ⟨(ad.add (j * 5)).block, (ad.add (j * 5)).off + 1, none⟩ = false ∧
    w.cell? ⟨(ad.add (j * 5)).block, (ad.add (j * 5)).off + 2, none⟩ = some (.slice A2 n c2) ∧ Fills w ok A2 n
def Alike1 (w : World) (p : Addr) (u : Value) : Prop := (∃ y z, w.cell? p = some (.int .u8 y) ∧ u = .int .u8 z) ∨ (∃ s t, w.cell? p = some (.string s) ∧ u = .string t)
theorem cell_u8 {w : World} {p q : Addr} {u : Value} (h : Alike1 w p u) {z : Int} (hq : w.cell? q = some (.int .u8 z)) : ∃ z', (w.setCell p u).cell? q = some (.int .u8 z') := by
  by_cases e : p = q
  · subst e
    rcases h with ⟨y, z', h1, rfl⟩ | ⟨s, t, h1, rfl⟩
    · exact ⟨z', World.cell?_setCell_same (h := h1) ..⟩
    · rw [h1] at hq; cases hq
  · exact ⟨z, (World.cell?_setCell_other (h := e) ..).trans hq⟩
theorem cell_str {w : World} {p q : Addr} {u : Value} (h : Alike1 w p u) {s : ByteArray} (hq : w.cell? q = some (.string s)) : ∃ s', (w.setCell p u).cell? q = some (.string s') := by
  by_cases e : p = q
  · subst e
    rcases h with ⟨y, z', h1, rfl⟩ | ⟨s', t, h1, rfl⟩
    · rw [h1] at hq; cases hq
    · exact ⟨t, World.cell?_setCell_same (h := h1) ..⟩
  · exact ⟨s, (World.cell?_setCell_other (h := e) ..).trans hq⟩
theorem cell_sl {w : World} {p q : Addr} {u : Value} (h : Alike1 w p u) {A : Option Addr} {n c : Nat} (hq : w.cell? q = some (.slice A n c)) : (w.setCell p u).cell? q = some (.slice A n c) := by
  by_cases e : p = q
  · subst e
    rcases h with ⟨y, z', h1, rfl⟩ | ⟨s', t, h1, rfl⟩
    · rw [h1] at hq; cases hq
    · rw [h1] at hq; cases hq
  · exact (World.cell?_setCell_other (h := e) ..).trans hq
theorem Fills.set {w : World} {ok : Nat → Prop} {A : Option Addr} {n : Nat} (h : Fills w ok A n) {p : Addr} {u : Value} (hu : Alike1 w p u) : Fills (w.setCell p u) ok A n := fun hn => by
  obtain ⟨ad, hA, ho, hc⟩ := h hn
  refine ⟨ad, hA, ho, fun i hi => ?_⟩
  obtain ⟨⟨z, h1⟩, h2⟩ := hc i hi
  exact ⟨cell_u8 hu h1, by rw [World.frozen?_setCell]; exact h2⟩
theorem NRow.set {w : World} {ok : Nat → Prop} {A : Option Addr} {ns : List Nat} (h : NRow w ok A ns) {p : Addr} {u : Value} (hu : Alike1 w p u) : NRow (w.setCell p u) ok A ns := fun j n hj => by
  obtain ⟨ad, s, A2, c2, hA, ho, h1, h2, h3, h4⟩ := h j n hj
  obtain ⟨s', h1'⟩ := cell_str hu h1
  exact ⟨ad, s', A2, c2, hA, ho, h1', by rw [World.frozen?_setCell]; exact h2, cell_sl hu h3, h4.set hu⟩
theorem Fills.below {w W : World} {ok : Nat → Prop} {A : Option Addr} {n : Nat} (h : Fills w ok A n) (hb : Below w.heap.size w W) : Fills W ok A n := fun hn => by
  obtain ⟨ad, hA, ho, hc⟩ := h hn
  refine ⟨ad, hA, ho, fun i hi => ?_⟩
  obtain ⟨⟨z, h1⟩, h2⟩ := hc i hi
  exact ⟨⟨z, bkeep hb h1⟩, (hb.frozen (World.block_lt_of_cell? w _ h1)).trans h2⟩
theorem NRow.below {w W : World} {ok : Nat → Prop} {A : Option Addr} {ns : List Nat} (h : NRow w ok A ns) (hb : Below w.heap.size w W) : NRow W ok A ns := fun j n hj => by
  obtain ⟨ad, s, A2, c2, hA, ho, h1, h2, h3, h4⟩ := h j n hj
  exact ⟨ad, s, A2, c2, hA, ho, bkeep hb h1, (hb.frozen (World.block_lt_of_cell? w _ h1)).trans h2, bkeep hb h3, h4.below hb⟩
/-- A row of the call's own may be written. -/
theorem fills_of {w : World} {base : Nat} {ok : Nat → Prop} {A : Option Addr} {n c : Nat} {xs : List Int} (h : (Kd.int .u8).R 5 w base ok (.slice A n c) xs) : Fills w ok A n := fun hn => by
  obtain ⟨hn1, _, hC⟩ := Kd.R_reads' h
  obtain ⟨g, cap, he, hg, hlt, cells, hh⟩ := Kd.R_form h (by omega)
  injection he with e1 e2 e3
  subst e1
  refine ⟨_, rfl, h.1 g rfl, fun i hi => ⟨?_, ?_⟩⟩
  · obtain ⟨ad2, hA2, hx2⟩ := Kd.at_int hC (i : Int) (by omega) (by omega)
    obtain rfl := Option.some.inj hA2
    rw [Int.toNat_natCast] at hx2
    exact ⟨_, hx2⟩
  · rw [add_plain]; simp [World.frozen?, hh]
theorem nrow_of {w : World} {base : Nat} {ok : Nat → Prop} {A : Option Addr} {n c : Nat} {m : List Nd} (h : kN.R 35 w base ok (.slice A n c) m) : NRow w ok A (m.map (fun x => x.f2.length)) := by
  intro j k hj
  rw [List.getElem?_map] at hj
  obtain ⟨x, hx, rfl⟩ := Option.map_eq_some_iff.1 hj
  have hlt := (List.getElem?_eq_some_iff.1 hx).1
  obtain ⟨g, cap, he, hg, hgl, _⟩ := Kd.R_form h (by omega)
  rw [he] at h
  injection he with e1 e2 e3
  subst e1
  obtain ⟨cs, hE, hcell, hfr⟩ := (GRow.of_made h).at_ j hlt
  obtain ⟨v2, rfl, hR2⟩ := kN_openM (hE x hx)
  obtain ⟨A2, c2, rfl, _, _⟩ := Kd.R_reads hR2
  have hadd : (⟨g, 0, none⟩ : Addr).add (j * 5) = ⟨g, j * 5, none⟩ := add_plain _ _
  refine ⟨⟨g, 0, none⟩, x.f1, A2, c2, rfl, h.1 g rfl, ?_, ?_, ?_, ?_⟩
  · rw [hadd]; exact hcell 1 _ rfl
  · rw [hadd]; exact hfr _
  · rw [hadd]; exact hcell 2 _ rfl
  · exact fun hn => by
      obtain ⟨ad, a1, a2, a3⟩ := fills_of hR2 hn
      exact ⟨ad, a1, a2.1, a3⟩
end Go.Proofs.YtoiffnoiliknnaaDoor.Tree
set_option linter.unusedVariables false
set_option linter.unusedSimpArgs false
namespace Go.Proofs.YtoiffnoiliknnaaDoor.Tree
open Go.RowKit Go.BigFrame Go.Maps Go.Proofs.YtoiffnoiliknnaaDoor.Reg Go.Proofs.YtoiffnoiliknnaaDoor.Rout Go.Proofs.YtoiffnoiliknnaaDoor.Node Go.Proofs.YtoiffnoiliknnaaDoorW.PrintWords Go.Proofs.YtoiffnoiliknnaaDoorW.PrintLast Go.Proofs.YtoiffnoiliknnaaDoorW.PrintMore
theorem add_block (a : Addr) (n : Nat) : (a.add n).block = a.block := by unfold Addr.add; split <;> rfl
set_option maxRecDepth 100000 in
set_option maxHeartbeats 16000000 in
theorem spoilt_calls (A B : Option Addr) (c d : Nat) (m : List Nd) (w : World) (ok : Nat → Prop) (hA : kN.C w A m.length m) (hB : kN.C w B m.length m) (hc : m.length ≤ c) (hd : m.length ≤ d) (hok : ∀ x ∈ m, Ok x) (lm : m.length ≤ 140737488351232) (hN : NRow w ok A (m.map (fun x => x.f2.length))) :
    Calls Tryd.prog 10 #[.slice A m.length c, .slice B m.length d] w fun e w' => e = .returned (.bool true) ∧ Chg ok w w' := by
  have HS := Lib.hid (refSame_calls A B c d m m w hA hB hc hd hok hok lm)
  rw [sameB_refl] at HS
  have HN := Lib.hid hN
  have HDS := Lib.hid (fun k (h : k < m.length) => (hok _ (rdN_mem m k h)).ds)
  clear hA hB hN hok
  go_enter Tryd.func10, Tryd.ntmps10
  go_wp2_with (go_at_call 12; refine HS.out.mono ?_; rintro e w1 ⟨rfl, hb1⟩)
  go_loopw [5] (fun i wr => ∃ k : Nat, i = .int .i64 k ∧ k ≤ m.length ∧ Hid (NRow wr ok A (m.map (fun x => x.f2.length))) ∧ Hid (Chg ok w wr)) (fun i _ => (m.length - intOf i).toNat)
  case atStart => exact ⟨0, rfl, by omega, Lib.hid (HN.out.below hb1), Lib.hid ((Chg.refl ok w).below hb1)⟩
  case round =>
    obtain ⟨k, rfl, hk, hNr, hCr⟩ := hrel
    by_cases hlt : k < m.length
    · have hgn : (m.map (fun x => x.f2.length))[k]? = some (rdN m k).f2.length := by
        rw [List.getElem?_map, List.getElem?_eq_getElem hlt]
        unfold rdN
        rw [Int.toNat_natCast, List.getD_eq_getElem?_getD, List.getElem?_eq_getElem hlt]
        rfl
      have HGN := Lib.hid hgn
      have hds := HDS.out k hlt
      clear hgn
      generalize (rdN m k).f2.length = n at *
      have k0 : (0 : Int) ≤ (k : Int) := by omega
      have k1 : (k : Int) < m.length := by omega
      have hA0 : ∃ ad, A = some ad := by
        obtain ⟨ad, _, _, _, e, _⟩ := hNr.out k n HGN.out
        exact ⟨ad, e⟩
      obtain ⟨ad, rfl⟩ := hA0
      go_wp2
      go_loopw [6] (fun i wr => ∃ q : Nat, i = .int .i64 q ∧ q ≤ n ∧ Hid (NRow wr ok (some ad) (m.map (fun x => x.f2.length))) ∧ Hid (Chg ok w wr)) (fun i _ => (n - intOf i).toNat)
      case atStart => exact ⟨0, rfl, by omega, hNr, hCr⟩
      case round =>
        clear hNr hCr
        obtain ⟨q, rfl, hq, hNr, hCr⟩ := hrel
        obtain ⟨ad', s, A2, c2, hA', ho, c1, f1, c2', hF⟩ := hNr.out k n HGN.out
        obtain rfl := Option.some.inj hA'
        by_cases hlq : q < n
        · obtain ⟨ad2, rfl, ho2, hcs⟩ := hF (by omega)
          obtain ⟨⟨z, hz⟩, hfz⟩ := hcs q hlq
          have q0 : (0 : Int) ≤ (q : Int) := by omega
          have q1 : (q : Int) < n := by omega
          have HO2 := Lib.hid ho2
          have HZ := Lib.hid hz
          clear hcs hF ho ho2 f1
          go_wp2
          go_region
          go_wp2
          go_roundw
          case rel => exact ⟨q + 1, by go_num, by omega, Lib.hid ((hNr.out.set (.inl ⟨_, _, HZ.out, rfl⟩)).below (bdrew (Below.refl _ _))), Lib.hid ((hCr.out.set (p := ad2.add q) (by rw [add_block]; exact HO2.out) _).below (bdrew (Below.refl _ _)))⟩
          case measure => simp [intOf]; omega
        · obtain rfl : q = n := by omega
          clear hF
          have HO := Lib.hid ho
          have HC1 := Lib.hid c1
          clear ho
          go_wp2
          go_roundw
          case rel => exact ⟨k + 1, by go_num, by omega, Lib.hid (hNr.out.set (.inr ⟨_, _, HC1.out, rfl⟩)), Lib.hid (hCr.out.set (p := ⟨(ad.add (k * 5)).block, (ad.add (k * 5)).off + 1, none⟩) (by show ok (ad.add (k * 5)).block; rw [add_block]; exact HO.out) _)⟩
          case measure => simp [intOf]; omega
    · clear HDS
      go_wp2
      go_ret
      exact ⟨rfl, hCr.out⟩
end Go.Proofs.YtoiffnoiliknnaaDoor.Tree
set_option linter.unusedVariables false
set_option linter.unusedSimpArgs false
namespace Go.Proofs.YtoiffnoiliknnaaDoor.Tree
open Go.RowKit Go.BigFrame Go.Maps Go.Proofs.YtoiffnoiliknnaaDoor.Reg Go.Proofs.YtoiffnoiliknnaaDoor.Rout Go.Proofs.YtoiffnoiliknnaaDoor.Node Go.Proofs.YtoiffnoiliknnaaDoorW.PrintWords Go.Proofs.YtoiffnoiliknnaaDoorW.PrintLast Go.Proofs.YtoiffnoiliknnaaDoorW.PrintMore
theorem projF_fine (l : List Nd) (fmt : Int) (hok : ∀ x ∈ l, Ok x) : (∀ x ∈ (projF l fmt).1, Ok x) ∧ (projF l fmt).1.length ≤ l.length := by
  have hn : ∀ n : Int, (∀ x ∈ (([] : List Nd), n).1, Ok x) ∧ (([] : List Nd), n).1.length ≤ l.length := fun n => ⟨fun x hx => absurd hx (by simp), by simp⟩
  unfold projF
  split
  · exact hn _
  split
  · exact hn _
  split
  · exact hn _
  split
  · exact hn _
  split
  · refine ⟨fun x hx => ?_, by simp⟩
    obtain ⟨z, hz, rfl⟩ := List.mem_map.1 hx
    exact (hok z hz).kept fmt
  · exact hn _
set_option maxHeartbeats 4000000 in
theorem fit_calls (A : Option Addr) (c : Nat) (l : List Nd) (fmt : Int) (w : World) (hC : kN.C w A l.length l) (hok : ∀ x ∈ l, Ok x) (hl : l.length * 64 ≤ 140737488355328) :
    Calls Tryd.prog 11 #[.slice A l.length c, .int .i64 fmt] w fun e w' => e = .returned (.int .i64 (projF l fmt).2) ∧ Below w.heap.size w w' := by
  have HP := Lib.hid (project_calls A c l fmt w hC hok hl)
  clear hC hok
  generalize projF l fmt = P at *
  go_enter Tryd.func11, Tryd.ntmps11
  go_wp2_with (go_at_call 8; refine HP.out.mono ?_; rintro e w1 ⟨v, rfl, hR, hb1⟩; obtain ⟨A1, c1, rfl, _, _⟩ := Kd.R_reads hR; clear hR)
  go_ret
  exact ⟨rfl, hb1⟩
/-- A row of the call's own: its blocks. -/
theorem own_from {w : World} {base : Nat} {α : Type} {d : Kd α} {e : Nat} {v : Value} {xs : List α} (h : d.R e w base (fun _ => True) v xs) : d.R e w base (fun q => base ≤ q ∧ q < w.heap.size) v xs :=
  Kd.R_mono (Kd.R_bound h) (fun _ hq => ⟨hq.2.1, hq.2.2.1⟩)
theorem below_any {w W : World} {B : Nat} (h : Below w.heap.size w W) (hB : B ≤ w.heap.size) : Below B w W := ⟨h.os, h.tape, h.output, h.size, fun q hq => h.block q (by omega)⟩
theorem chg_C {w0 w W : World} {ok : Nat → Prop} {A : Option Addr} {n : Nat} {l : List Nd} (hC : kN.C w0 A n l) (h0 : Below w0.heap.size w0 w) (h : Chg ok w W) (ho : ∀ q, ok q → w0.heap.size ≤ q) : kN.C W A n l ∧ Below w0.heap.size w0 W := by
  have hb : Below w0.heap.size w0 W := h0.trans (h.to_below h0.size (fun q hq k => by have := ho q k; omega))
  exact ⟨Kd.C_below hC hb, hb⟩
set_option maxRecDepth 100000 in
set_option maxHeartbeats 16000000 in
theorem projects_law (A : Option Addr) (c : Nat) (l : List Nd) (fmt : Int) (w : World) (hc : l.length ≤ c) (hC : kN.C w A l.length l) (hok : ∀ x ∈ l, Ok x) (hl : l.length * 64 ≤ 140737488351232) :
    Calls Tryd.prog 3 #[.slice A l.length c, .int .i64 fmt] w fun e w' => e = .returned (.bool true) ∧ Below w.heap.size w w' := by
  obtain ⟨hmok, hml⟩ := projF_fine l fmt hok
  have HL := Lib.hid (lawlent_calls A c l w hC hc hok hl)
  have HP := Lib.hid (fun B d W (h : kN.C W B l.length l) => project_calls B d l fmt W h hok (by omega))
  have HF := Lib.hid (fun B d W (h : kN.C W B l.length l) => fit_calls B d l fmt W h hok (by omega))
  have HRP := Lib.hid (fun W (h : Below w.heap.size w W) => refProject_calls A c l fmt w W hC h hok hc (by omega) (by omega))
  have HSP := Lib.hid (fun A1 B1 c1 d1 W ok (h1 : kN.C W A1 (projF l fmt).1.length (projF l fmt).1) (h2 : kN.C W B1 (projF l fmt).1.length (projF l fmt).1) (h3 : (projF l fmt).1.length ≤ c1) (h4 : (projF l fmt).1.length ≤ d1) (h5 : NRow W ok A1 ((projF l fmt).1.map (fun x => x.f2.length))) => spoilt_calls A1 B1 c1 d1 (projF l fmt).1 W ok h1 h2 h3 h4 hmok (by omega) h5)
  have HSM := Lib.hid (fun B d W (h1 : kN.C W B l.length l) (h2 : kN.C W A l.length l) (h3 : l.length ≤ d) => refSame_calls B A d c l l W h1 h2 h3 hc hok hok (by omega))
  rw [sameB_refl] at HSM
  have HNM := Lib.hid (fun W => Pnames.hamperlaw18_names.calls true W rfl)
  have HC := Lib.hid hC
  unfold ProjPost at HRP
  clear hC hok hmok hml
  generalize (projF l fmt).1 = m at *
  generalize (projF l fmt).2 = n at *
  have tok1 : True := trivial
  have tok2 : True := trivial
  go_enter Tryd.func3, Tryd.ntmps3
  go_wp2_with (first
    | (go_at_call 7; refine HL.out.mono ?_; rintro e w1 ⟨B, d, rfl, hd, hC1, hb1⟩; have HC1 := Lib.hid hC1; have HB1 := Lib.hid hb1; have HD := Lib.hid hd; clear hC1 hb1 hd HL)
    | (go_at_call 8; have _t := tok1; with_reducible refine (HP.out _ _ _ HC1.out).mono ?_; rintro e w2 ⟨vx, rfl, hRx, hb2⟩; have HRX := Lib.hid (own_from hRx); obtain ⟨A1, c1, rfl, hc1, _⟩ := Kd.R_reads hRx; have HB2 := Lib.hid hb2; have HC2 := Lib.hid (Kd.C_below HC1.out hb2); have HW2 := Lib.hid (bgo HB1.out hb2); have HCX := Lib.hid hc1; clear hRx hb2 tok1 hc1)
    | (go_at_call 8; with_reducible refine (HP.out _ _ _ HC2.out).mono ?_; rintro e w3 ⟨vy, rfl, hRy, hb3⟩; have HRY := Lib.hid (own_from hRy); obtain ⟨A2, c2, rfl, hc2, _⟩ := Kd.R_reads hRy; have HB3 := Lib.hid hb3; have HW3 := Lib.hid (bgo HW2.out hb3); have HCY := Lib.hid hc2; clear hRy hb3 hc2)
    | (go_at_call 9; with_reducible refine (HRP.out _ HW3.out).mono ?_; rintro e w4 ⟨vz, rfl, hRz, hb4⟩; have HRZ := Lib.hid (own_from hRz); obtain ⟨A3, c3, rfl, hc3, _⟩ := Kd.R_reads hRz; have HB4 := Lib.hid hb4; have HW4 := Lib.hid (bgo HW3.out hb4); have HCZ := Lib.hid hc3; clear hRz hb4 hc3)
    | (go_at_call 10; have _t := tok2; have HX4 := Lib.hid (Kd.R_below HRX.out (bgo HB3.out HB4.out)); have HZ4 := Lib.hid (fixed_C (Kd.R_reads' HRZ.out).2.2 HW4.out); with_reducible refine (HSP.out _ _ _ _ _ (fun q => w1.heap.size ≤ q ∧ q < w2.heap.size) (Kd.R_reads' HX4.out).2.2 HZ4.out HCX.out HCZ.out (nrow_of HX4.out)).mono ?_; rintro e w5 ⟨rfl, hg5⟩; have HG5 := Lib.hid hg5; clear hg5 tok2; have HY5 := Lib.hid (Kd.R_step (Kd.R_below HRY.out HB4.out) (w1 := w5) (fun q hq hlt => HG5.out.block q hlt (fun k => by omega))); have HZ5 := Lib.hid (Kd.R_step HRZ.out (w1 := w5) (fun q hq hlt => HG5.out.block q hlt (fun k => by have := HB3.out.size; omega))); have HW5 := Lib.hid (chg_C HC.out HW4.out HG5.out (fun q k => by have := HB1.out.size; omega)).2; have HC5 := Lib.hid (chg_C HC1.out (bgo HB2.out (bgo HB3.out HB4.out)) HG5.out (fun q k => k.1)).2; clear HX4 HZ4)
    | (go_at_call 10; with_reducible refine (HSP.out _ _ _ _ _ (fun q => w2.heap.size ≤ q ∧ q < w3.heap.size) (Kd.R_reads' HY5.out).2.2 (fixed_C (Kd.R_reads' HZ5.out).2.2 HW5.out) HCY.out HCZ.out (nrow_of HY5.out)).mono ?_; rintro e w6 ⟨rfl, hg6⟩; have HG6 := Lib.hid hg6; clear hg6; have HW6 := Lib.hid (chg_C HC.out HW5.out HG6.out (fun q k => by have := HW2.out.size; omega)).2; have HC6 := Lib.hid (chg_C HC1.out HC5.out HG6.out (fun q k => by have := HB2.out.size; omega)).1)
    | (go_at_call 11; with_reducible refine (HF.out _ _ _ HC6.out).mono ?_; rintro e w7 ⟨rfl, hb7⟩; have HC7 := Lib.hid (Kd.C_below HC6.out hb7); have HW7 := Lib.hid (bgo HW6.out hb7); clear hb7)
    | (go_at_call 12; with_reducible refine (HSM.out _ _ _ HC7.out (Kd.C_below HC.out HW7.out) HD.out).mono ?_; rintro e w8 ⟨rfl, hb8⟩; have HW8 := Lib.hid (bgo HW7.out hb8); clear hb8)
    | (go_at_call 13; refine (HNM.out _).mono ?_; rintro e w9 ⟨rfl, ⟨nd, rfl⟩⟩))
  go_ret
  exact ⟨rfl, bdrewN HW8.out _⟩
end Go.Proofs.YtoiffnoiliknnaaDoor.Tree
set_option linter.unusedVariables false
namespace Go.Proofs.YtoiffnoiliknnaaDoor.Tree
open Go.RowKit Go.ChangeShapes Go.WideShapes Go.Proofs.YtoiffnoiliknnaaDoor.Node Go.Proofs.YtoiffnoiliknnaaDoorW.PrintWords
theorem weights_all {H : Type} {P : Program} {e : TypeId} : ∀ {ds : List (DataW H)} {d : DataW H}, d ∈ ds → ∀ n ∈ d.weights P e, n ∈ DataW.weightsAll P e ds
  | d0 :: ds, d, hd, n, hn => by
    simp only [DataW.weightsAll, List.mem_append]
    rcases List.mem_cons.1 hd with rfl | h
    · exact .inl hn
    · exact .inr (weights_all h n hn)
theorem wf_u8 {n : Int} (h : (Lit.int .u8 n).wf = true) : 0 ≤ n ∧ n ≤ 255 := by
  simp only [Lit.wf, Bool.and_eq_true, decide_eq_true_eq] at h
  have h1 : IntKind.min .u8 = 0 := rfl
  have h2 : IntKind.max .u8 = 255 := rfl
  rw [h1, h2] at h
  exact h
section
variable {H : Type} {enc : TypeId × Value → H} {W : World} {fuel : Nat}
/-- Bytes that are read. -/
theorem open_data {cs : List Value} {x : DataW H × List MemPlace} (h : DataW.trod enc Tryd.prog W 0 (fun _ => true) true fuel 33 cs = some x) (hs : ∀ n ∈ x.1.weights Tryd.prog 33, n ≤ reachBytes) :
    ∃ (A : Option Addr) (c : Nat) (l : List Int), cs = [.slice A l.length c] ∧ l.length ≤ c ∧ (Kd.int .u8).C W A l.length l ∧ (∀ b ∈ l, 0 ≤ b ∧ b ≤ 255) ∧ l.length ≤ 140737488351232 := by
  rcases open_ints Tryd.underlying33 Tryd.underlying5 (by kernel_rfl) h with ⟨rfl, _⟩ | ⟨a, len, cap, zs, rfl, _, hl, hm, hz, hx, hcell, hw⟩
  · exact ⟨none, 0, [], rfl, Nat.le_refl _, ⟨rfl, by simp, fun h => absurd h (by simp)⟩, by simp, by simp⟩
  · rw [if_pos rfl] at hz
    have hlen : (zs.take len).length = len := by rw [List.length_take]; omega
    refine ⟨some a, cap, zs.take len, by rw [hlen], by omega, ⟨rfl, by rw [hlen]; have : maxLen = 9223372036854775807 := rfl; omega, fun _ => ⟨a, rfl, fun j p hp => ⟨[.int .u8 p], rfl, rfl, fun i u hu => ?_⟩⟩⟩, ?_, ?_⟩
    · have hj : j < len := by
        have := (List.getElem?_eq_some_iff.1 hp).1
        omega
      obtain ⟨rfl, rfl⟩ : i = 0 ∧ u = .int .u8 p := by
        cases i with
        | zero => exact ⟨rfl, (Option.some.inj hu).symm⟩
        | succ i => simp at hu
      have := hcell j (by omega)
      rw [List.getElem?_take_of_lt hj] at hp
      rw [show j * Kd.sz (Kd.int .u8) + 0 = j from by show j * 1 + 0 = j; omega, this, List.getD_eq_getElem?_getD, hp]
      rfl
    · intro b hb
      exact wf_u8 (hw b (List.mem_of_mem_take hb))
    · rw [hlen]
      obtain ⟨hx, _⟩ := Prod.mk.inj hx
      have hb : Tryd.prog.bytesOf 5 = 1 := by kernel_rfl
      have := hs ((((lits (H := H) .u8 (zs.take len)).length + (lits (H := H) .u8 (zs.drop len)).length)) * Tryd.prog.bytesOf 5) (by rw [show x.1 = _ from hx]; simp [DataW.weights, Tryd.underlying33])
      rw [hb] at this
      simp [lits] at this
      have hr : reachBytes = 140737488351232 := rfl
      omega
set_option maxRecDepth 100000 in
theorem open_node {cs : List Value} {x : DataW H × List MemPlace} (h : DataW.trod enc Tryd.prog W 0 (fun _ => true) true fuel 35 cs = some x) (hs : ∀ n ∈ x.1.weights Tryd.prog 35, n ≤ reachBytes) :
    ∃ y : Nd, kN.K W y cs ∧ Ok y := by
  obtain ⟨xs, m, rfl, rfl, hlen, hxs, hf⟩ := DataW.trod_struct Tryd.underlying35 h
  have hcells : Tryd.prog.cellsOf 35 = 5 := by kernel_rfl
  rw [hcells] at hlen
  obtain ⟨e0, e1, e2, e3, e4, rfl⟩ : ∃ e0 e1 e2 e3 e4, cs = [e0, e1, e2, e3, e4] := by
    match cs, hlen with
    | [a, b, c, d, e], _ => exact ⟨_, _, _, _, _, rfl⟩
  obtain ⟨x0, x1, x2, x3, x4, rfl⟩ : ∃ e0 e1 e2 e3 e4, xs = [e0, e1, e2, e3, e4] := by
    match xs, hxs with
    | [a, b, c, d, e], _ => exact ⟨_, _, _, _, _, rfl⟩
  have o1 : Tryd.prog.cellsOf 3 = 1 := by kernel_rfl
  have o2 : Tryd.prog.cellsOf 9 = 1 := by kernel_rfl
  have o3 : Tryd.prog.cellsOf 33 = 1 := by kernel_rfl
  have h0 : DataW.trod enc Tryd.prog W 0 (fun _ => true) true m 3 (List.take (Tryd.prog.cellsOf 3) (List.drop 0 [e0, e1, e2, e3, e4])) = some x0 := hf 0 _ rfl
  have h1 : DataW.trod enc Tryd.prog W 0 (fun _ => true) true m 9 (List.take (Tryd.prog.cellsOf 9) (List.drop 1 [e0, e1, e2, e3, e4])) = some x1 := hf 1 _ rfl
  have h2 : DataW.trod enc Tryd.prog W 0 (fun _ => true) true m 33 (List.take (Tryd.prog.cellsOf 33) (List.drop 2 [e0, e1, e2, e3, e4])) = some x2 := hf 2 _ rfl
  have h3 : DataW.trod enc Tryd.prog W 0 (fun _ => true) true m 3 (List.take (Tryd.prog.cellsOf 3) (List.drop 3 [e0, e1, e2, e3, e4])) = some x3 := hf 3 _ rfl
  have h4 : DataW.trod enc Tryd.prog W 0 (fun _ => true) true m 3 (List.take (Tryd.prog.cellsOf 3) (List.drop 4 [e0, e1, e2, e3, e4])) = some x4 := hf 4 _ rfl
  rw [o1] at h0 h3 h4
  rw [o2] at h1
  rw [o3] at h2
  obtain ⟨n0, r0, _, _⟩ := DataW.trod_int Tryd.underlying3 h0
  obtain ⟨n3, r3, _, _⟩ := DataW.trod_int Tryd.underlying3 h3
  obtain ⟨n4, r4, _, _⟩ := DataW.trod_int Tryd.underlying3 h4
  obtain ⟨s1, r1, q1, _⟩ := DataW.trod_string Tryd.underlying9 h1
  have hw : ∀ n ∈ DataW.weightsEach Tryd.prog [3, 9, 33, 3, 3] [x0.1, x1.1, x2.1, x3.1, x4.1], n ≤ reachBytes := by
    intro n hn
    refine hs n ?_
    simp only [DataW.weights, Tryd.underlying35]
    exact hn
  obtain ⟨A, c, l, r2, lc, hC, hb, hl⟩ := open_data h2 (fun n hn => hw n (DataW.weights_mem_each (j := 2) rfl rfl n hn))
  have hz := hw s1.data.toList.length (DataW.weights_mem_each (j := 1) rfl rfl _ (by rw [q1]; simp [DataW.weights]))
  obtain rfl : e0 = .int .i64 n0 := (List.cons.inj r0).1
  obtain rfl : e1 = .string s1 := (List.cons.inj r1).1
  obtain rfl : e2 = .slice A l.length c := (List.cons.inj r2).1
  obtain rfl : e3 = .int .i64 n3 := (List.cons.inj r3).1
  obtain rfl : e4 = .int .i64 n4 := (List.cons.inj r4).1
  refine ⟨⟨n0, s1, l, n3, n4⟩, kN_mk W ⟨n0, s1, l, n3, n4⟩ lc hC, hb, ?_, hl⟩
  rw [Array.length_toList] at hz
  exact hz
end
set_option maxRecDepth 100000 in
theorem open_nodes {H : Type} {enc : TypeId × Value → H} {W : World} {a : Option Addr} {len cap : Nat} {d : DataW H} {p : List MemPlace} (h : DataW.Trod enc Tryd.prog W 0 (fun _ => true) true 22 (.slice a len cap) d p) (hs : ∀ n ∈ d.weights Tryd.prog 22, n ≤ reachBytes) :
    ∃ l : List Nd, len = l.length ∧ l.length ≤ cap ∧ kN.C W a l.length l ∧ (∀ x ∈ l, Ok x) ∧ l.length * 64 ≤ 140737488351232 := by
  obtain ⟨fuel, hf⟩ := h
  rcases DataW.trod_slice Tryd.underlying22 hf with ⟨hcs, _⟩ | ⟨x, l, c, elems, rest, n, _, hcs, hx, _, hl, hm, hlen, hel, _, _⟩
  · simp [Value.cells] at hcs
    obtain ⟨rfl, rfl, rfl⟩ := hcs
    exact ⟨[], rfl, Nat.le_refl _, ⟨rfl, by simp, fun h => absurd h (by simp)⟩, by simp, by simp⟩
  · simp [Value.cells] at hcs
    obtain ⟨rfl, rfl, rfl⟩ := hcs
    obtain ⟨rfl, _⟩ := Prod.mk.inj hx
    have hcells : Tryd.prog.cellsOf 35 = 5 := by kernel_rfl
    have hb : Tryd.prog.bytesOf 35 = 64 := by kernel_rfl
    rw [hcells] at hel
    have hw : ∀ n ∈ (((elems.map (·.1)).length + (rest.map (·.1)).length) * Tryd.prog.bytesOf 35 :: (DataW.weightsAll Tryd.prog 35 (elems.map (·.1)) ++ DataW.weightsAll Tryd.prog 35 (rest.map (·.1)))), n ≤ reachBytes := by
      intro n hn
      refine hs n ?_
      simp only [DataW.weights, Tryd.underlying22]
      exact hn
    have hsz := hw _ (List.mem_cons_self)
    rw [hb] at hsz
    have each : ∀ i, i < elems.length → ∃ y : Nd, (∃ cs : List Value, W.cells? 0 (x.add (i * 5)) 5 = some cs ∧ kN.K W y cs) ∧ Ok y := by
      intro i hi
      have he := hel i (by omega)
      rw [List.getElem?_eq_getElem hi] at he
      obtain ⟨cs, hc, ht⟩ := Option.bind_eq_some_iff.1 he
      obtain ⟨y, h1, h2⟩ := open_node ht (fun m hm => hw m (by
        refine List.mem_cons_of_mem _ (List.mem_append_left _ (weights_all (d := elems[i].1) (List.mem_map_of_mem (List.getElem_mem hi)) m hm))))
      exact ⟨y, ⟨cs, hc, h1⟩, h2⟩
    obtain ⟨f, hfs⟩ : ∃ f : Nat → Nd, ∀ i, i < elems.length → (∃ cs : List Value, W.cells? 0 (x.add (i * 5)) 5 = some cs ∧ kN.K W (f i) cs) ∧ Ok (f i) := by
      refine ⟨fun i => if h : i < elems.length then Classical.choose (each i h) else zN, fun i hi => ?_⟩
      dsimp only
      rw [dif_pos hi]
      exact Classical.choose_spec (each i hi)
    refine ⟨(List.range elems.length).map f, by simp [hlen], by simp; omega, ⟨rfl, ?_, fun _ => ⟨x, rfl, fun j p hp => ?_⟩⟩, ?_, ?_⟩
    · simp
      have : maxLen = 9223372036854775807 := rfl
      omega
    · have hj : j < elems.length := by
        have := (List.getElem?_eq_some_iff.1 hp).1
        simpa using this
      obtain rfl : f j = p := by
        rw [List.getElem?_map, List.getElem?_range hj] at hp
        exact Option.some.inj hp
      obtain ⟨⟨cs, h1, h2⟩, _⟩ := hfs j hj
      obtain ⟨_, h4, h5⟩ := World.cells?_some h1
      refine ⟨cs, h4, h2, fun i u hu => ?_⟩
      have hi : i < 5 := by
        have := (List.getElem?_eq_some_iff.1 hu).1
        omega
      have := h5 i hi
      rw [hu] at this
      rwa [Addr.add_add] at this
    · intro y hy
      obtain ⟨i, hi, rfl⟩ := List.mem_map.1 hy
      exact (hfs i (List.mem_range.1 hi)).2
    · simp at hsz ⊢
      have hr : reachBytes = 140737488351232 := rfl
      omega
end Go.Proofs.YtoiffnoiliknnaaDoor.Tree
set_option linter.unusedVariables false
namespace Go.Proofs.YtoiffnoiliknnaaDoor.Tree
open Go.RowKit Go.Proofs.YtoiffnoiliknnaaDoor.Node
abbrev list2 : List (String × DataW Unit) := [("unicode/utf8.acceptRanges", Rows.laid_unicode_utf8_acceptRanges), ("unicode/utf8.first", Rows.laid_unicode_utf8_first)]
def ints (k : IntKind) (zs : List Int) : Array Value := (zs.map fun z => Value.int k z).toArray
def setTo (v : Array Value) : Obj → Obj
  | .cells _ t frozen => .cells v t frozen
  | o => o
def firstZ : List Int := List.map Int.ofNat Go.Pinned.utf8FirstZ
def acceptZ : List Int := [128, 191, 160, 191, 128, 159, 144, 191, 128, 143, 0, 0, 0, 0, 0, 0, 0, 0, 0, 0, 0, 0, 0, 0, 0, 0, 0, 0, 0, 0, 0, 0]
noncomputable def world2 (os : Os) : World :=
  let w0 := World.holding Tryd.prog os ⟨#[], #[], []⟩
  { w0 with heap := (w0.heap.modify 1 (setTo (ints .u8 firstZ))).modify 2 (setTo (ints .u8 acceptZ)) }
theorem world2_met (os : Os) (args : Array Value) : laidMet Tryd.prog list2 ((world2 os).forCall (fun _ _ => 0) ⟨#[], args, []⟩).memory :=
  laidMet_of_run3 8 (by kernel_rfl) (by kernel_rfl) (by kernel_rfl)
theorem projects_walk (A : Option Addr) (c : Nat) (l : List Nd) (fmt : Int) (w : World) (hc : l.length ≤ c) (hC : kN.C w A l.length l) (hok : ∀ x ∈ l, Ok x) (hl : l.length * 64 ≤ 140737488351232) (_ : (Lit.int .i64 fmt).wf = true) (_ : laidMet Tryd.prog list2 w) :
    Calls Tryd.prog 3 #[.slice A l.length c, .int .i64 fmt] w fun e w' => e = .returned (.bool true) ∧ Below w.heap.size w w' :=
  projects_law A c l fmt w hc hC hok hl
end Go.Proofs.YtoiffnoiliknnaaDoor.Tree
