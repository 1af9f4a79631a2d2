/- (*FS).way walked. -/
import Derived.Test.YtfnncfgdlinmcaaDoorVfsM
import Derived.Deep.RegionHeld3
import Derived.Deep.DrawnRows
import Derived.WalkMore
set_option linter.unusedVariables false
set_option linter.unusedSimpArgs false
namespace Go.Proofs.YtfnncfgdlinmcaaDoor.Vfs
open Go.RowKit Go.BigFrame Go.Maps Go.Proofs.YtfnncfgdlinmcaaDoor.Reg Go.Proofs.YtfnncfgdlinmcaaDoor.Rout Go.Proofs.YtfnncfgdlinmcaaDoor.Node Go.Proofs.YtfnncfgdlinmcaaDoor.Tree Go.Proofs.YtfnncfgdlinmcaaDoorW.PrintWords Go.Proofs.YtfnncfgdlinmcaaDoorW.PrintLast Go.Proofs.YtfnncfgdlinmcaaDoorW.PrintMore
attribute [local go_sem ↓] Go.wp_at_zero Go.wp_at_succ
set_option maxRecDepth 10000 in
/-- What a lookup finds, in every world above. -/
theorem MapAt.look_all {w : World} {base b n : Nat} {ok : Nat → Prop} {M : NMap} (h : MapAt w base b n ok M) (p : ByteArray) (hp : p.size ≤ 140737488351232) (x : Nd) (hx : M p = some x) :
    ∃ A2 c2, x.f2.length ≤ c2 ∧ ∀ W, Below w.heap.size w W → (Kd.int .u8).C W A2 x.f2.length x.f2 ∧ (Instr.lookup 63 (.map (some b)) (.string p) true).run Tryd.prog W = .ok (.tuple #[.agg #[.int .i64 x.f0, .string x.f1, .slice A2 x.f2.length c2, .int .i64 x.f3, .int .i64 x.f4], .bool true]) W := by
  obtain ⟨D, h1, hq⟩ := h
  obtain ⟨g1, cs, g2, g3⟩ := (hq p).2 x hx
  obtain ⟨A2, c2, rfl, l2, d2⟩ := kN_open (kN.K_of_M g3)
  refine ⟨A2, c2, l2, fun W hW => ⟨Kd.C_below d2 hW, ?_⟩⟩
  obtain ⟨v, ps, hrun, hv⟩ := (h1.kept (row := none) (grownBy_of_below hW) (by simp)).look_ok (z := zeroNode) (zd := .held zeroNode) (zp := []) key9 Tryd.underlying63 (zeroN W) rfl (Go.WideMaps.keyOf_string_mk (s := p) Tryd.underlying9 (by unfold maxLen; omega))
  unfold rawR at hv
  simp only [Option.some.injEq, Prod.mk.injEq] at hv
  rw [g2] at hv
  rw [hrun, g1, show v = Value.agg _ from DataW.held.inj hv.1]
theorem toList_nil (a : ByteArray) (h : a.size = 0) : a.toList = [] := by
  rw [toList_data]; exact List.eq_nil_of_length_eq_zero (by rw [size_data]; exact h)
theorem toList_ne (a : ByteArray) (h : ¬ a.size = 0) : a.toList.isEmpty = false := by
  rw [toList_data]
  cases hl : a.data.toList with
  | nil => have := size_data a; rw [hl] at this; simp at this; omega
  | cons _ _ => rfl
theorem under_calls (a b : ByteArray) (w : World) (ha : a.size ≤ 140737488351232) (hb : b.size ≤ 140737488351232) :
    Calls Tryd.prog 32 #[.string a, .string b] w fun e w' => e = .returned (.string (underB a b)) ∧ w = w' := by
  by_cases h : a.size = 0
  · have h1 := toList_nil a h
    have HU := Lib.hid (show underB a b = b by unfold underB; rw [if_pos h])
    clear h
    go_enter Tryd.func32, Tryd.ntmps32
    go_wp2
    go_ret
    rw [HU.out]
    exact ⟨rfl, rfl⟩
  · have h1 := toList_ne a h
    have HU := Lib.hid (show underB a b = a ++ ⟨#[47]⟩ ++ b by unfold underB; rw [if_neg h]; rfl)
    clear h
    go_enter Tryd.func32, Tryd.ntmps32
    go_wp2
    go_ret
    rw [HU.out]
    exact ⟨rfl, rfl⟩
theorem hasPrefix_abs (s : ByteArray) : Lib.hasPrefix s.data.toList (⟨#[47]⟩ : ByteArray).data.toList = absB s := by
  unfold Lib.hasPrefix absB
  show List.isPrefixOf [47] s.data.toList = _
  cases s.data.toList with
  | nil => rfl
  | cons c r => simp [List.isPrefixOf, Bool.beq_comm]
theorem prefix_calls (s : ByteArray) (w : World) : Calls Tryd.prog 48 #[.string s, .string ⟨#[47]⟩] w fun e w' => e = .returned (.bool (absB s)) ∧ w = w' :=
  (Tryd.strings_HasPrefix s ⟨#[47]⟩ w).mono fun e w' ⟨h1, h2⟩ => ⟨by rw [h1, hasPrefix_abs], h2.symm⟩
/-- strings.Split: a row of its own. -/
theorem split_row (s : ByteArray) (w : World) (hs : s.size < 4294967281) :
    Calls Tryd.prog 30 #[.string s, .string ⟨#[47]⟩] w fun e w' => ∃ v, e = .returned v ∧ Kd.string.R 9 w' w.heap.size (fun _ => True) v (pcs s) ∧ Below w.heap.size w w' := by
  have hl : (pcs s).length ≤ 9223372036854775807 := by have := pcs_le s; omega
  refine (split_calls s w hs).mono fun e w' ⟨he, hw⟩ => ⟨_, he, ?_, ?_⟩
  · rw [hw]
    have hown := own_lit_of (enc := Value.string) w w.heap.size 9 (pcs s) (Nat.le_refl _) hl
    exact Kd.R_of_own hown (fun _ _ => trivial)
  · rw [hw]; exact balloc (Below.refl _ _) _
theorem infoS : (Tryd.prog.info? 9).map (fun i => (i.zero, i.size, i.bytes)) = some (some (.string ⟨#[]⟩), 1, 16) := by kernel_rfl
/-- How far the way has still to go. -/
def muV : Value → Value → Nat
  | .int _ f, .slice _ n _ => (17 - f.toNat) * 1100 + n
  | _, _ => 0
theorem muV_mk (k : IntKind) (fl : Nat) (A : Option Addr) (t : List ByteArray) (c : Nat) : muV (.int k fl) (.slice A t.length c) = mu fl t := by show (17 - (fl : Int).toNat) * 1100 + t.length = _; unfold mu; rw [Int.toNat_natCast]
/-- What is asked of a map of nodes. -/
structure Fine (M : NMap) : Prop where
  small : Small M
  path : ∀ p x, M p = some x → x.f1.size ≤ 1024
  kind : ∀ p x, M p = some x → x.f0 = 1 ∨ x.f0 = 2 ∨ x.f0 = 3
  data : ∀ p x, M p = some x → x.f2.length ≤ 268435456
structure WayAt (M : NMap) (ps : List ByteArray) (w wr : World) (a : ByteArray) (fl : Nat) (t : List ByteArray) (A : Option Addr) (c : Nat) : Prop where
  cap : t.length ≤ c
  few : fl ≤ 16
  at_ : a.size ≤ 1024
  piece : ∀ p ∈ t, p.size ≤ 1024
  low : mu fl t ≤ mu 0 ps
  row : Kd.string.C wr A t.length t
  below : Below w.heap.size w wr
  goes : wayN M (mu fl t + 1) a fl t = Vfs.way M ps
theorem WayAt.len {M : NMap} {ps : List ByteArray} {w wr : World} {a : ByteArray} {fl : Nat} {t : List ByteArray} {A : Option Addr} {c : Nat} (h : WayAt M ps w wr a fl t A c) (hps : ps.length ≤ 1100) : t.length ≤ 20000 := by
  have := h.low
  unfold mu at this
  omega
theorem len_of {fl fl' : Nat} {t t' ps : List ByteArray} (h1 : mu fl' t' < mu fl t) (h2 : mu fl t ≤ mu 0 ps) (h3 : ps.length ≤ 1100) : t'.length ≤ 20000 := by
  have e : mu 0 ps = 18700 + ps.length := rfl
  have k : t'.length ≤ mu fl' t' := Nat.le_add_left _ _
  omega
theorem WayAt.next {M : NMap} {ps : List ByteArray} {w wr w' : World} {a b : ByteArray} {fl f : Nat} {p : ByteArray} {r t : List ByteArray} {A A' : Option Addr} {c c' : Nat} (h : WayAt M ps w wr a fl (p :: r) A c) (hM : Small M) (hs : wayS M a fl p r = .inl (b, f, t))
    (hb : b.size ≤ 1024) (hp : ∀ x ∈ t, x.size ≤ 1024) (hc : t.length ≤ c') (hrow : Kd.string.C w' A' t.length t) (hbel : Below w.heap.size w w') : WayAt M ps w w' b f t A' c' := by
  obtain ⟨h1, h2⟩ := wayS_less M hM a fl p r b f t h.few hs
  refine ⟨hc, h1, hb, hp, by have := h.low; omega, hrow, hbel, ?_⟩
  rw [← h.goes, wayN_cons, hs]
  exact wayN_enough M hM _ _ _ _ _ h1 (by omega) (by omega)
theorem WayAt.stop {M : NMap} {ps : List ByteArray} {w wr : World} {a : ByteArray} {fl : Nat} {p : ByteArray} {r : List ByteArray} {A : Option Addr} {c : Nat} {e : Int} (h : WayAt M ps w wr a fl (p :: r) A c) (hs : wayS M a fl p r = .inr e) : way M ps = (emp, e) := by
  rw [← h.goes, wayN_cons, hs]
/-- The ways of a step. -/
theorem wayS_stay (M : NMap) (a : ByteArray) (fl : Nat) (p : ByteArray) (r : List ByteArray) (h : p.toList = [] ∨ p.toList = [46]) : wayS M a fl p r = .inl (a, fl, r) := by
  rw [toList_data] at h; unfold wayS; rw [if_pos h]
theorem wayS_up (M : NMap) (a : ByteArray) (fl : Nat) (p : ByteArray) (r : List ByteArray) (h : p.toList = [46, 46]) : wayS M a fl p r = .inl ((parB a).1, fl, r) := by
  rw [toList_data] at h; unfold wayS; rw [if_neg (by rw [h]; simp), if_pos h]
theorem wayS_in (M : NMap) (a : ByteArray) (fl : Nat) (p : ByteArray) (r : List ByteArray) (h1 : ¬ p.toList = []) (h2 : ¬ p.toList = [46]) (h3 : ¬ p.toList = [46, 46]) : wayS M a fl p r = match M (underB a p) with
    | none => .inr 31
    | some n => if n.f0 = 2 then .inr 33 else if n.f0 = 1 then .inl (n.f1, fl, r) else if 16 < fl + 1 then .inr 34
      else .inl (if absB (strOfNums n.f2) = true then emp else a, fl + 1, pcs (strOfNums n.f2) ++ r) := by
  rw [toList_data] at h1 h2 h3; unfold wayS; rw [if_neg (fun h => h.elim h1 h2), if_neg h3]; cases M (underB a p) <;> rfl
theorem parB_le (a : ByteArray) (h : a.size ≤ 1024) : (parB a).1.size ≤ 1024 := Nat.le_trans (parB_size a) h
theorem pcs_size (s p : ByteArray) (h : p ∈ pcs s) : p.size ≤ s.size := by
  unfold pcs at h
  obtain ⟨l, hl, rfl⟩ := List.mem_map.1 h
  rw [size_toB, ← size_data]
  generalize s.data.toList = m at hl
  clear h
  induction m generalizing l with
  | nil => simp [cut] at hl; subst hl; simp
  | cons c m ih =>
    by_cases hc : c = 47
    · simp only [cut, if_pos hc, List.mem_cons] at hl
      rcases hl with rfl | hl
      · simp
      · have := ih l hl; simp; omega
    · simp only [cut, if_neg hc] at hl
      cases hm : cut m with
      | nil => exact absurd hm (cut_ne m)
      | cons q qs =>
        rw [hm] at hl ih
        simp only [List.mem_cons] at hl
        rcases hl with rfl | hl
        · have := ih q (by simp); simp; omega
        · have := ih l (by simp [hl]); simp; omega
set_option maxRecDepth 100000 in
set_option maxHeartbeats 8000000 in
theorem way_calls (g base b n : Nat) (ok : Nat → Prop) (M : NMap) (q c : Nat) (ps : List ByteArray) (w : World) (hg : w.cell? ⟨g, 0, none⟩ = some (.map (some b))) (hM : MapAt w base b n ok M) (hF : Fine M) (hC : Kd.string.C w (some ⟨q, 0, none⟩) ps.length ps) (hc : ps.length ≤ c) (hps : ps.length ≤ 1100) (hpp : ∀ p ∈ ps, p.size ≤ 1024) :
    Calls Tryd.prog 31 #[.pointer (some ⟨g, 0, none⟩), .slice (some ⟨q, 0, none⟩) ps.length c] w fun e w' => e = .returned (.tuple #[.string (way M ps).1, .int .i64 (way M ps).2]) ∧ Below w.heap.size w w' := by
  have HCL := Lib.hid (show Calls Tryd.prog 47 #[.slice (some ⟨q, 0, none⟩) ps.length c] w fun e w' => ∃ A c, e = .returned (.slice A ps.length c) ∧ ps.length ≤ c ∧ Kd.string.C w' A ps.length ps ∧ Below w.heap.size w w' from by
    refine (Tryd.slices_Clone_string q 0 ps.length c ps w (Nat.le_refl _) (by omega) (fun j hj => ?_)).mono fun e w' ⟨v, he, hown, _, hb⟩ => ?_
    · obtain ⟨ad, hA, hx⟩ := Kd.at_string hC (j : Int) (by omega) (by omega)
      obtain rfl := Option.some.inj hA
      rw [Int.toNat_natCast, add_plain] at hx
      rw [Nat.zero_add, hx]
      unfold rdOf
      rw [Int.toNat_natCast]
    · rw [List.take_length] at hown
      have hR : Kd.string.R 9 w' w.heap.size (fun _ => True) v ps := Kd.R_of_own hown (fun _ _ => trivial)
      obtain ⟨A, c, h1, h2, h3⟩ := Kd.R_reads hR
      exact ⟨A, c, by rw [he, h1], h2, h3, hb⟩)
  have HM := Lib.hid hM
  have HF := Lib.hid hF
  clear hM hF hC
  obtain ⟨i9, hi9, hz9⟩ := info_parts infoS
  have HI := Lib.hid (And.intro hi9 hz9)
  have HP := Lib.hid hps
  clear hi9 hz9
  go_enter Tryd.func31, Tryd.ntmps31
  go_wp2
  go_step3
  go_wp2_with (go_at_call 47; refine HCL.out.mono ?_; rintro e w1 ⟨A1, c1, rfl, hc1, hC1, hb1⟩)
  have HW1 := Lib.hid (show WayAt M ps w w1 emp 0 ps A1 c1 from ⟨hc1, by omega, by decide, hpp, Nat.le_refl _, hC1, hb1, rfl⟩)
  clear hC1 hb1
  go_step3
  go_wp2
  clear HCL hps hpp hc
  go_loopw [4, 5, 6, 7, 8, 9, 10, 11, 12, 24, 27, 45, 48, 52] (fun _ _ av fv tv _ _ _ _ _ _ _ _ _ wr => ∃ (a : ByteArray) (fl : Nat) (t : List ByteArray) (A : Option Addr) (c : Nat), av = .string a ∧ fv = .int .i64 fl ∧ tv = .slice A t.length c ∧ Hid (WayAt M ps w wr a fl t A c) ∧ t.length ≤ 20000) (fun _ _ _ fv tv _ _ _ _ _ _ _ _ _ _ => muV fv tv)
  case atStart => exact ⟨emp, 0, ps, A1, c1, rfl, rfl, rfl, HW1, by have := HP.out; omega⟩
  case round =>
    obtain ⟨a, fl, t, A, c, rfl, rfl, rfl, HW, hlen⟩ := hrel
    cases t with
    | nil =>
      have HR := Lib.hid (show way M ps = (a, 0) from HW.out.goes.symm)
      have HB := Lib.hid HW.out.below
      clear HW
      go_wp2
      (try simp only [Exit.noGoto_ret])
      go_ret2
      rw [HR.out]
      exact ⟨rfl, HB.out⟩
    | cons p r =>
      obtain ⟨ad, hA, hx⟩ := Kd.at_string HW.out.row 0 (by omega) (by simp)
      subst hA
      have hx : wr.cell? ad = some (.string p) := by simpa [Addr.add, rdOf] using hx
      have HD := Lib.hid (show Kd.string.C wr (if c = 1 then some ad else some ⟨ad.block, ad.off + 1, none⟩) r.length r from Kd.C_drop (m := 1) HW.out.row (by simp) HW.out.cap)
      have hcr : r.length ≤ c - 1 := by have := HW.out.cap; simp at this; omega
      have hpr := Lib.hid HW.out.piece
      have hasz := HW.out.at_
      have hpsz := hpr.out p (by simp)
      have HBL := Lib.hid HW.out.below
      go_upto_region 6 with (fail)
      generalize (if c = 1 then some ad else some (⟨ad.block, ad.off + 1, none⟩ : Addr)) = A3 at *
      by_cases h1 : p.toList = []
      · have h1b : p.toList.isEmpty = true := by rw [h1]; rfl
        have HN := Lib.hid (HW.out.next HF.out.small (wayS_stay M a fl p r (.inl h1)) hasz (fun x hx => hpr.out x (by simp [hx])) hcr HD.out HBL.out)
        have hm := Lib.hid (wayS_less M HF.out.small a fl p r a fl r HW.out.few (wayS_stay M a fl p r (.inl h1)))
        clear h1
        go_wp2
        go_roundw
        case rel => exact ⟨a, fl, r, A3, c - 1, rfl, rfl, rfl, HN, by simp at hlen; omega⟩
        case measure => rw [muV_mk, muV_mk]; exact hm.out.2
      have h1b : p.toList.isEmpty = false := by cases hl : p.toList with
        | nil => exact absurd hl h1
        | cons _ _ => rfl
      by_cases h2 : p.toList = [46]
      · have h2b : (p.toList == [46]) = true := beq_iff_eq.mpr h2
        have HN := Lib.hid (HW.out.next HF.out.small (wayS_stay M a fl p r (.inr h2)) hasz (fun x hx => hpr.out x (by simp [hx])) hcr HD.out HBL.out)
        have hm := Lib.hid (wayS_less M HF.out.small a fl p r a fl r HW.out.few (wayS_stay M a fl p r (.inr h2)))
        clear h1 h2
        go_wp2
        go_roundw
        case rel => exact ⟨a, fl, r, A3, c - 1, rfl, rfl, rfl, HN, by simp at hlen; omega⟩
        case measure => rw [muV_mk, muV_mk]; exact hm.out.2
      have h2b : (p.toList == [46]) = false := beq_eq_false_iff_ne.mpr h2
      by_cases h3 : p.toList = [46, 46]
      · have h3b : (p.toList == [46, 46]) = true := beq_iff_eq.mpr h3
        have HN := Lib.hid (fun w' hr hb => HW.out.next (w' := w') (A' := A3) (c' := c - 1) HF.out.small (wayS_up M a fl p r h3) (parB_le a hasz) (fun x hx => hpr.out x (by simp [hx])) hcr hr hb)
        have hm := Lib.hid (wayS_less M HF.out.small a fl p r (parB a).1 fl r HW.out.few (wayS_up M a fl p r h3))
        have HPC := Lib.hid (parent_calls a wr (by omega))
        clear h1 h2 h3
        go_wp2_with (go_at_call 17; refine HPC.out.mono ?_; rintro e w2 ⟨rfl, hb2⟩)
        go_roundw
        case rel => exact ⟨(parB a).1, fl, r, A3, c - 1, rfl, rfl, rfl, Lib.hid (HN.out _ (Kd.C_below HD.out hb2) (bgo HBL.out hb2)), by simp at hlen; omega⟩
        case measure => rw [muV_mk, muV_mk]; exact hm.out.2
      have h3b : (p.toList == [46, 46]) = false := beq_eq_false_iff_ne.mpr h3
      have HIN := Lib.hid (wayS_in M a fl p r h1 h2 h3)
      clear h1 h2 h3
      have hus : (underB a p).size ≤ 140737488351232 := by
        unfold underB
        split
        · omega
        · rw [ByteArray.size_append, ByteArray.size_append, show slash.size = 1 from rfl]; omega
      have HU := Lib.hid (fun W => under_calls a p W (by omega) (by omega))
      have HLK := Lib.hid (fun W (h : Below wr.heap.size wr W) => (HM.out.below (bgo HBL.out h)).look (underB a p) hus)
      have hgr := bkeep HBL.out hg
      generalize underB a p = u at *
      go_upto_region 11 with (fail)
      cases hn : M u with
      | none =>
        have HL := Lib.hid (fun W h => (HLK.out W h).1 hn)
        rw [hn] at HIN
        have HR := Lib.hid (HW.out.stop HIN.out)
        have hlk := HL.out wr (Below.refl _ _)
        clear HIN HLK hn
        go_region_held3 (fun w' => w'.cell? ⟨g, 0, none⟩ = some (.map (some b)) ∧ (Instr.lookup 63 (.map (some b)) (.string u) true).run Tryd.prog w' = .ok (.tuple #[.agg #[.int .i64 0, .string ⟨#[]⟩, .slice none 0 0, .int .i64 0, .int .i64 0], .bool false]) w') ((refine ⟨?_, HL.out _ ?_⟩; go_keep; repeat (first | with_reducible exact Below.refl _ _ | with_reducible refine bdrew ?_ | with_reducible refine balloc ?_ _ | with_reducible refine Below.setCell ?_ (by simp) _))) ((go_at_call 32; refine (HU.out _).mono ?_; rintro e w' ⟨rfl, rfl⟩))
        all_goals
          go_wp2
          (try simp only [Exit.inBlock, Exit.then, Exit.noGoto_ret])
          go_ret2
          rw [HR.out]
          exact ⟨rfl, bdrew (bgo HBL.out (balloc (Below.refl _ _) _))⟩
      | some x =>
        obtain ⟨A2, c2, l2, hL⟩ := (HM.out.below HBL.out).look_all u hus x hn
        have HL := Lib.hid hL
        have hfp := HF.out.path u x hn
        have hfs := Lib.hid (HF.out.small u x hn)
        rw [hn] at HIN
        have hlk := (HL.out wr (Below.refl _ _)).2
        clear HLK hL
        rcases HF.out.kind u x hn with hk | hk | hk
        · have HN := Lib.hid (fun w' hr hb => HW.out.next (w' := w') (A' := A3) (c' := c - 1) HF.out.small (by rw [HIN.out]; dsimp only; rw [if_neg (show ¬ x.f0 = 2 by omega), if_pos hk]) hfp (fun x hx => hpr.out x (by simp [hx])) hcr hr hb)
          have hm := Lib.hid (wayS_less M HF.out.small a fl p r x.f1 fl r HW.out.few (by rw [HIN.out]; dsimp only; rw [if_neg (show ¬ x.f0 = 2 by omega), if_pos hk]))
          rw [hk] at HL hlk
          clear HIN hn hk
          go_region_held3 (fun w' => w'.cell? ⟨g, 0, none⟩ = some (.map (some b)) ∧ (Instr.lookup 63 (.map (some b)) (.string u) true).run Tryd.prog w' = .ok (.tuple #[.agg #[.int .i64 1, .string x.f1, .slice A2 x.f2.length c2, .int .i64 x.f3, .int .i64 x.f4], .bool true]) w') ((refine ⟨?_, (HL.out _ ?_).2⟩; go_keep; repeat (first | with_reducible exact Below.refl _ _ | with_reducible refine bdrew ?_ | with_reducible refine balloc ?_ _ | with_reducible refine Below.setCell ?_ (by simp) _))) ((go_at_call 32; refine (HU.out _).mono ?_; rintro e w' ⟨rfl, rfl⟩))
          all_goals
            go_wp2
            go_roundw
            case rel => exact ⟨x.f1, fl, r, A3, c - 1, rfl, rfl, rfl, Lib.hid (HN.out _ (Kd.C_below HD.out (bdrew (balloc (Below.refl _ _) _))) (bgo HBL.out (bdrew (balloc (Below.refl _ _) _)))), by simp at hlen; omega⟩
            case measure => rw [muV_mk, muV_mk]; exact hm.out.2
        · have HR := Lib.hid (HW.out.stop (e := 33) (by rw [HIN.out]; dsimp only; rw [if_pos hk]))
          rw [hk] at HL hlk
          clear HIN hn hk
          go_region_held3 (fun w' => w'.cell? ⟨g, 0, none⟩ = some (.map (some b)) ∧ (Instr.lookup 63 (.map (some b)) (.string u) true).run Tryd.prog w' = .ok (.tuple #[.agg #[.int .i64 2, .string x.f1, .slice A2 x.f2.length c2, .int .i64 x.f3, .int .i64 x.f4], .bool true]) w') ((refine ⟨?_, (HL.out _ ?_).2⟩; go_keep; repeat (first | with_reducible exact Below.refl _ _ | with_reducible refine bdrew ?_ | with_reducible refine balloc ?_ _ | with_reducible refine Below.setCell ?_ (by simp) _))) ((go_at_call 32; refine (HU.out _).mono ?_; rintro e w' ⟨rfl, rfl⟩))
          all_goals
            go_wp2
            (try simp only [Exit.inBlock, Exit.then, Exit.noGoto_ret])
            go_ret2
            rw [HR.out]
            exact ⟨rfl, bdrew (bgo HBL.out (balloc (Below.refl _ _) _))⟩
        · rw [hk] at HL hlk
          have hsz := hfs.out (by omega) (by omega)
          have hlk2 := Lib.hid hlk
          by_cases h16 : 16 < fl + 1
          · have HR := Lib.hid (HW.out.stop (e := 34) (by rw [HIN.out]; dsimp only; rw [if_neg (show ¬ x.f0 = 2 by omega), if_neg (show ¬ x.f0 = 1 by omega), if_pos h16]))
            have h16b : (16 : Int) < (fl : Int) + 1 := by omega
            have hfew := HW.out.few
            clear HIN hn hk
            go_region_held3 (fun w' => w'.cell? ⟨g, 0, none⟩ = some (.map (some b)) ∧ (Instr.lookup 63 (.map (some b)) (.string u) true).run Tryd.prog w' = .ok (.tuple #[.agg #[.int .i64 3, .string x.f1, .slice A2 x.f2.length c2, .int .i64 x.f3, .int .i64 x.f4], .bool true]) w') ((refine ⟨?_, (HL.out _ ?_).2⟩; go_keep; repeat (first | with_reducible exact Below.refl _ _ | with_reducible refine bdrew ?_ | with_reducible refine balloc ?_ _ | with_reducible refine Below.setCell ?_ (by simp) _))) ((go_at_call 32; refine (HU.out _).mono ?_; rintro e w' ⟨rfl, rfl⟩))
            all_goals
              go_wp2
              (try simp only [Exit.inBlock, Exit.then, Exit.noGoto_ret])
              go_ret2
              rw [HR.out]
              exact ⟨rfl, bdrew (bgo HBL.out (balloc (Below.refl _ _) _))⟩
          · have HST := Lib.hid (show wayS M a fl p r = .inl (if absB (strOfNums x.f2) = true then emp else a, fl + 1, pcs (strOfNums x.f2) ++ r) by rw [HIN.out]; dsimp only; rw [if_neg (show ¬ x.f0 = 2 by omega), if_neg (show ¬ x.f0 = 1 by omega), if_neg h16])
            have hm := Lib.hid (wayS_less M HF.out.small a fl p r _ _ _ HW.out.few HST.out)
            have h16b : ¬ (16 : Int) < (fl : Int) + 1 := by omega
            have htz : (strOfNums x.f2).size ≤ 1024 := by rw [strOfNums_size]; exact hsz
            have HCV := Lib.hid (fun W (h : Below wr.heap.size wr W) => Kd.C_string (P := Tryd.prog) (w := W) (src := 22) (dst := 9) (c := c2) Tryd.underlying22 Tryd.underlying5 Tryd.underlying9 (HL.out W h).1)
            clear HIN hn hk
            go_region_held3 (fun w' => w'.cell? ⟨g, 0, none⟩ = some (.map (some b)) ∧ (Instr.lookup 63 (.map (some b)) (.string u) true).run Tryd.prog w' = .ok (.tuple #[.agg #[.int .i64 3, .string x.f1, .slice A2 x.f2.length c2, .int .i64 x.f3, .int .i64 x.f4], .bool true]) w') ((refine ⟨?_, (HL.out _ ?_).2⟩; go_keep; repeat (first | with_reducible exact Below.refl _ _ | with_reducible refine bdrew ?_ | with_reducible refine balloc ?_ _ | with_reducible refine Below.setCell ?_ (by simp) _))) ((go_at_call 32; refine (HU.out _).mono ?_; rintro e w' ⟨rfl, rfl⟩))
            all_goals
              have hcv := HCV.out _ (bdrew (balloc (Below.refl wr.heap.size wr) (.cells #[.int .i64 3, .string x.f1, .slice A2 x.f2.length c2, .int .i64 x.f3, .int .i64 x.f4] 45)))
              go_upto_region 22 with (fail)
              have hfewb := HW.out.few
              have HB2 := Lib.hid (bdrew (balloc (Below.refl wr.heap.size wr) (.cells #[.int .i64 3, .string x.f1, .slice A2 x.f2.length c2, .int .i64 x.f3, .int .i64 x.f4] 45)))
              clear hcv hlk
              have HPX := Lib.hid (fun W => prefix_calls (strOfNums x.f2) W)
              have HSP := Lib.hid (fun W => split_row (strOfNums x.f2) W (by omega))
              have hln := pcs_le (strOfNums x.f2)
              have hpz := Lib.hid (fun y (hy : y ∈ pcs (strOfNums x.f2)) => pcs_size _ y hy)
              revert HB2
              generalize World.drew _ = W2
              intro HB2
              generalize strOfNums x.f2 = tx at *
              cases hab : absB tx
              · skip
                rw [hab] at HPX
                rw [hab, if_neg (by simp)] at HST
                go_wp2_with (first
                  | (go_at_call 48; refine (HPX.out _).mono ?_; rintro e w' ⟨rfl, rfl⟩)
                  | (go_at_call 30; refine (HSP.out _).mono ?_; rintro e w3 ⟨v, rfl, hR3, hb3⟩; obtain ⟨A4, c4, rfl, hc4, _⟩ := Kd.R_reads hR3; have HR3 := Lib.hid hR3; have HB3 := Lib.hid hb3; have HD3 := Lib.hid (Kd.C_below HD.out (bgo HB2.out hb3)); clear hR3 hb3)
                  | (at_builtin; refine Kd.R_append_row Value.string ByteArray.empty (h1 := fun _ => rfl) (w0 := W2) W2.heap.size rfl (.tmp 68) (.tmp 69) 35 9 (.string ⟨#[]⟩) 16 rfl Tryd.underlying35 infoS rfl (by omega) _ (pcs tx) r A3 r.length (c - 1) (fun _ => True) rfl rfl (fun _ _ => trivial) HR3.out HD3.out HB3.out HB3.out.size (by simp at hlen; omega) ?_; intro v5 w5 hR5 hb5 hg5 hat5; obtain ⟨t5, ht5⟩ : ∃ t5, pcs tx ++ r = t5 := ⟨_, rfl⟩; rw [ht5] at hR5; obtain ⟨A5, c5, rfl, hc5, hC5⟩ := Kd.R_reads (d := Kd.string) hR5; have HT5 := Lib.hid ht5; have HC5 := Lib.hid hC5; have HB5 := Lib.hid (bgo HBL.out (bgo HB2.out hb5)); clear ht5 hR5 hC5 hb5 hg5 hat5))
                go_roundw
                case rel => exact ⟨a, fl + 1, t5, A5, c5, rfl, by go_num, rfl, Lib.hid (HW.out.next HF.out.small (by rw [← HT5.out]; exact HST.out) hasz (fun y hy => by
                  rw [← HT5.out] at hy
                  rcases List.mem_append.1 hy with h | h
                  · have := hpz.out y h; omega
                  · exact hpr.out y (by simp [h])) hc5 HC5.out HB5.out), by have h1 := hm.out.2; rw [HT5.out] at h1; exact len_of h1 HW.out.low HP.out⟩
                case measure => have h1 := hm.out.2; rw [HT5.out] at h1; rw [show ((fl : Int) + 1) = ((fl + 1 : Nat) : Int) by omega, muV_mk, muV_mk]; exact h1
              · skip
                rw [hab] at HPX
                rw [hab, if_pos rfl] at HST
                go_wp2_with (first
                  | (go_at_call 48; refine (HPX.out _).mono ?_; rintro e w' ⟨rfl, rfl⟩)
                  | (go_at_call 30; refine (HSP.out _).mono ?_; rintro e w3 ⟨v, rfl, hR3, hb3⟩; obtain ⟨A4, c4, rfl, hc4, _⟩ := Kd.R_reads hR3; have HR3 := Lib.hid hR3; have HB3 := Lib.hid hb3; have HD3 := Lib.hid (Kd.C_below HD.out (bgo HB2.out hb3)); clear hR3 hb3)
                  | (at_builtin; refine Kd.R_append_row Value.string ByteArray.empty (h1 := fun _ => rfl) (w0 := W2) W2.heap.size rfl (.tmp 68) (.tmp 69) 35 9 (.string ⟨#[]⟩) 16 rfl Tryd.underlying35 infoS rfl (by omega) _ (pcs tx) r A3 r.length (c - 1) (fun _ => True) rfl rfl (fun _ _ => trivial) HR3.out HD3.out HB3.out HB3.out.size (by simp at hlen; omega) ?_; intro v5 w5 hR5 hb5 hg5 hat5; obtain ⟨t5, ht5⟩ : ∃ t5, pcs tx ++ r = t5 := ⟨_, rfl⟩; rw [ht5] at hR5; obtain ⟨A5, c5, rfl, hc5, hC5⟩ := Kd.R_reads (d := Kd.string) hR5; have HT5 := Lib.hid ht5; have HC5 := Lib.hid hC5; have HB5 := Lib.hid (bgo HBL.out (bgo HB2.out hb5)); clear ht5 hR5 hC5 hb5 hg5 hat5))
                go_roundw
                case rel => exact ⟨emp, fl + 1, t5, A5, c5, rfl, by go_num, rfl, Lib.hid (HW.out.next HF.out.small (by rw [← HT5.out]; exact HST.out) (by decide) (fun y hy => by
                  rw [← HT5.out] at hy
                  rcases List.mem_append.1 hy with h | h
                  · have := hpz.out y h; omega
                  · exact hpr.out y (by simp [h])) hc5 HC5.out HB5.out), by have h1 := hm.out.2; rw [HT5.out] at h1; exact len_of h1 HW.out.low HP.out⟩
                case measure => have h1 := hm.out.2; rw [HT5.out] at h1; rw [show ((fl : Int) + 1) = ((fl + 1 : Nat) : Int) by omega, muV_mk, muV_mk]; exact h1
end Go.Proofs.YtfnncfgdlinmcaaDoor.Vfs
