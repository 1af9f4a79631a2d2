/- FsQ, FsZ put together. -/
import Derived.Test.YtageofdcloneoaaDoorMFsW
set_option linter.unusedVariables false
set_option linter.unusedSimpArgs false
namespace Go.Proofs.YtageofdcloneoaaDoor.Fs
open Go.RowKit Go.BigFrame Go.Maps Go.Proofs.YtageofdcloneoaaDoor.Reg Go.Proofs.YtageofdcloneoaaDoor.Rout Go.Proofs.YtageofdcloneoaaDoor.Node Go.Proofs.YtageofdcloneoaaDoor.Tree Go.Proofs.YtageofdcloneoaaDoor.Vfs Go.Proofs.YtageofdcloneoaaDoorW.PrintWords Go.Proofs.YtageofdcloneoaaDoorW.PrintLast Go.Proofs.YtageofdcloneoaaDoorW.PrintMore
attribute [local go_sem ↓] Go.wp_at_zero Go.wp_at_succ
theorem in_size {a q : ByteArray} (h : inB a q) : a.size ≤ q.size := by
  rcases h with rfl | h
  · exact Nat.le_refl _
  · have := below_size h; omega
set_option maxRecDepth 100000 in
set_option maxHeartbeats 4000000 in
theorem bad_calls (q1 q2 : Nat) (p old s : ByteArray) (w : World) (h1 : w.cell? ⟨q1, 0, none⟩ = some (.string p)) (h2 : w.cell? ⟨q2, 0, none⟩ = some (.string old)) (hs : old.size ≤ s.size) (hp : p.size + s.size ≤ 140737488351232) :
    Calls Tryd.prog 34 #[.string s, .pointer (some ⟨q1, 0, none⟩), .pointer (some ⟨q2, 0, none⟩)] w fun e w' => e = .returned (.bool (!validB (turnB old p s))) ∧ Below w.heap.size w w' := by
  have ht : (turnB old p s).size ≤ 140737488351232 := by
    unfold turnB
    rw [ByteArray.size_append, ByteArray.size_extract]
    omega
  have HV := Lib.hid (fun W (hb : Below w.heap.size w W) => show Calls Tryd.prog 21 #[.string (p ++ s.extract old.size s.size)] W fun e w' => e = .returned (.bool (validB (turnB old p s))) ∧ Hid (Below w.heap.size w w') ∧ w'.cell? ⟨q1, 0, none⟩ = some (.string p) ∧ w'.cell? ⟨q2, 0, none⟩ = some (.string old) from
    (valid_calls (turnB old p s) W (by omega)).mono fun e w' ⟨he, hb2⟩ => ⟨he, Lib.hid (bgo hb hb2), bkeep (bgo hb hb2) h1, bkeep (bgo hb hb2) h2⟩)
  have HB := Lib.hid (Below.refl w.heap.size w)
  have hs1 : (old.size : Int) ≤ (s.size : Int) := by omega
  have hsum : ¬ 9223372036854775807 < p.size + (s.size - old.size) := by omega
  have hsum2 : (p.size + (s.size - old.size) : Nat) ≤ 9223372036854775807 := by omega
  have hi0 : (0 : Int) ≤ (old.size : Int) := by omega
  generalize validB (turnB old p s) = bv at *
  go_enter Tryd.func34, Tryd.ntmps34
  go_upto_region 1 with fail
  go_region_held3 (fun w' => w'.cell? ⟨q1, 0, none⟩ = some (.string p) ∧ w'.cell? ⟨q2, 0, none⟩ = some (.string old)) (go_keep) ((go_at_call 21; refine (HV.out _ (by first | exact HB.out | exact bdrew HB.out)).mono ?_; rintro e w1 ⟨rfl, HB1, k1, k2⟩))
  all_goals
    go_wp2
    go_ret
    exact ⟨rfl, HB1.out⟩
/-- Has one of the paths a bad new name? -/
def anyBad (old p : ByteArray) (ss : List ByteArray) : Bool := ss.any (fun s => !validB (turnB old p s))
theorem bad_at (old p : ByteArray) (ss : List ByteArray) (k : Nat) (h : k < ss.length) (hb : validB (turnB old p (rdOf ByteArray.empty ss (k : Int))) = false) : anyBad old p ss = true := by
  unfold anyBad
  rw [List.any_eq_true]
  refine ⟨rdOf ByteArray.empty ss (k : Int), ?_, by rw [hb]; rfl⟩
  unfold rdOf
  rw [Int.toNat_natCast, List.getD_eq_getElem?_getD, List.getElem?_eq_getElem h]
  exact List.getElem_mem h
theorem bad_none (old p : ByteArray) (ss : List ByteArray) (h : ∀ k : Nat, k < ss.length → validB (turnB old p (rdOf ByteArray.empty ss (k : Int))) = true) : anyBad old p ss = false := by
  unfold anyBad
  rw [List.any_eq_false]
  intro x hx
  obtain ⟨k, hk, rfl⟩ := List.getElem_of_mem hx
  have h1 := h k hk
  unfold rdOf at h1
  rw [Int.toNat_natCast, List.getD_eq_getElem?_getD, List.getElem?_eq_getElem hk] at h1
  simp at h1
  simp [h1]
set_option maxRecDepth 100000 in
set_option maxHeartbeats 4000000 in
theorem indexBad_calls (q1 q2 : Nat) (p old : ByteArray) (A : Option Addr) (c : Nat) (ss : List ByteArray) (w : World) (h1 : w.cell? ⟨q1, 0, none⟩ = some (.string p)) (h2 : w.cell? ⟨q2, 0, none⟩ = some (.string old)) (hC : Kd.string.C w A ss.length ss) (hl : ss.length ≤ 65536) (hs : ∀ s ∈ ss, old.size ≤ s.size ∧ p.size + s.size ≤ 140737488351232) :
    Calls Tryd.prog 51 #[.slice A ss.length c, .func (.func 34) #[] #[.pointer (some ⟨q1, 0, none⟩), .pointer (some ⟨q2, 0, none⟩)]] w fun e w' => ∃ i : Int, e = .returned (.int .i64 i) ∧ Hid (decide (0 ≤ i) = anyBad old p ss) ∧ Hid (Below w.heap.size w w') := by
  have HC := Lib.hid (fun W (hb : Below w.heap.size w W) => Kd.C_below hC hb)
  have HB := Lib.hid (fun W (hb : Below w.heap.size w W) (s : ByteArray) (hx : s ∈ ss) => (bad_calls q1 q2 p old s W (bkeep hb h1) (bkeep hb h2) (hs s hx).1 (hs s hx).2).mono fun e w' ⟨he, hb2⟩ => (⟨he, Lib.hid (bgo hb hb2)⟩ : e = Ending.returned (.bool (!validB (turnB old p s))) ∧ Hid (Below w.heap.size w w')))
  have HBA := Lib.hid (bad_at old p ss)
  have HBN := Lib.hid (bad_none old p ss)
  have HR0 := Lib.hid (Below.refl w.heap.size w)
  have HMEM := Lib.hid (fun (k : Nat) (hk : k < ss.length) => show rdOf ByteArray.empty ss (k : Int) ∈ ss by
    unfold rdOf
    rw [Int.toNat_natCast, List.getD_eq_getElem?_getD, List.getElem?_eq_getElem hk]
    exact List.getElem_mem hk)
  clear hC h1 h2 hs
  go_enter Tryd.func51, Tryd.ntmps51
  go_wp2
  go_loopw [8] (fun j wr => ∃ k : Nat, Hid (∀ i : Nat, i < k → validB (turnB old p (rdOf ByteArray.empty ss (i : Int))) = true) ∧ k ≤ ss.length ∧ j = .int .i64 k ∧ Hid (Below w.heap.size w wr)) (fun j _ => ss.length - (intOf j).toNat)
  case atStart => exact ⟨0, Lib.hid (fun i hi => by omega), by omega, rfl, HR0⟩
  case round =>
    obtain ⟨k, hk, hkl, rfl, HBr⟩ := hrel
    by_cases hkk : k < ss.length
    · obtain ⟨ad, hA, hx⟩ := Kd.at_string (HC.out _ HBr.out) (k : Int) (by omega) (by omega)
      subst hA
      rw [Int.toNat_natCast] at hx
      have HCL := Lib.hid (HB.out _ HBr.out _ (HMEM.out k hkk))
      have HBK := Lib.hid (HBA.out k hkk)
      have HK2 := Lib.hid (fun (hz : validB (turnB old p (rdOf ByteArray.empty ss (k : Int))) = true) (i : Nat) (hi : i < k + 1) => show validB (turnB old p (rdOf ByteArray.empty ss (i : Int))) = true from by
        by_cases hik : i = k
        · rw [hik]; exact hz
        · exact hk.out i (by omega))
      generalize rdOf ByteArray.empty ss (k : Int) = z at *
      have hk0 : (0 : Int) ≤ (k : Int) := by omega
      cases hz : validB (turnB old p z)
      · have HI2 := Lib.hid (HBK.out hz)
        rw [hz] at HCL
        clear hz HBK HK2
        go_wp2_with fail
        refine HCL.out.mono ?_
        rintro e w2 ⟨rfl, HB2⟩
        go_wp2
        go_ret
        exact ⟨(k : Int), rfl, Lib.hid (by rw [HI2.out]; simp), HB2⟩
      · have HK3 := Lib.hid (HK2.out hz)
        rw [hz] at HCL
        clear hz HBK HK2
        go_wp2_with fail
        refine HCL.out.mono ?_
        rintro e w2 ⟨rfl, HB2⟩
        go_wp2
        go_roundw
        case rel => exact ⟨k + 1, HK3, by omega, by go_num, HB2⟩
        case measure => simp [intOf]; omega
    · have HE := Lib.hid (HBN.out (fun i hi => hk.out i (by omega)))
      go_wp2
      go_ret
      exact ⟨-1, rfl, Lib.hid (by rw [HE.out]; rfl), HBr⟩
set_option maxRecDepth 100000 in
set_option maxHeartbeats 4000000 in
theorem anyBad_calls (q1 q2 : Nat) (p old : ByteArray) (A : Option Addr) (c : Nat) (ss : List ByteArray) (w : World) (h1 : w.cell? ⟨q1, 0, none⟩ = some (.string p)) (h2 : w.cell? ⟨q2, 0, none⟩ = some (.string old)) (hC : Kd.string.C w A ss.length ss) (hl : ss.length ≤ 65536) (hs : ∀ s ∈ ss, old.size ≤ s.size ∧ p.size + s.size ≤ 140737488351232) :
    Calls Tryd.prog 33 #[.slice A ss.length c, .func (.func 34) #[] #[.pointer (some ⟨q1, 0, none⟩), .pointer (some ⟨q2, 0, none⟩)]] w fun e w' => e = .returned (.bool (anyBad old p ss)) ∧ Hid (Below w.heap.size w w') := by
  have HI := Lib.hid (indexBad_calls q1 q2 p old A c ss w h1 h2 hC hl hs)
  clear hC hs
  go_enter Tryd.func33, Tryd.ntmps33
  go_wp2_with (go_at_call 51; refine HI.out.mono ?_; rintro e w2 ⟨i, rfl, hi, HB2⟩)
  go_ret
  exact ⟨by rw [← hi.out]; simp, HB2⟩
end Go.Proofs.YtageofdcloneoaaDoor.Fs
set_option linter.unusedVariables false
set_option linter.unusedSimpArgs false
namespace Go.Proofs.YtageofdcloneoaaDoor.Fs
open Go.RowKit Go.BigFrame Go.Maps Go.Proofs.YtageofdcloneoaaDoor.Reg Go.Proofs.YtageofdcloneoaaDoor.Rout Go.Proofs.YtageofdcloneoaaDoor.Node Go.Proofs.YtageofdcloneoaaDoor.Tree Go.Proofs.YtageofdcloneoaaDoor.Vfs Go.Proofs.YtageofdcloneoaaDoorW.PrintWords Go.Proofs.YtageofdcloneoaaDoorW.PrintLast Go.Proofs.YtageofdcloneoaaDoorW.PrintMore
attribute [local go_sem ↓] Go.wp_at_zero Go.wp_at_succ
theorem FsAt.look1 {w : World} {base g b : Nat} {lv : Value} {s : St} (h : FsAt w base g b lv s) (p : ByteArray) (hp : p.size ≤ 140737488351232) (x : Nd) (hx : s.M p = some x) :
    ∃ A2 c2, (Kd.int .u8).R 5 w base (fun _ => True) (.slice A2 x.f2.length c2) x.f2 ∧ (Instr.lookup 54 (.map (some b)) (.string p) false).run Tryd.prog w = .ok (.agg #[.int .i64 x.f0, .string x.f1, .slice A2 x.f2.length c2, .int .i64 x.f3, .int .i64 x.f4]) w := by
  obtain ⟨D, h1, _, hq⟩ := h.map
  obtain ⟨g1, cs, g2, g3⟩ := (hq p).2 x hx
  obtain ⟨v2, rfl, d2⟩ := kN_openM g3
  obtain ⟨A2, c2, rfl, l2, _⟩ := Kd.R_reads d2
  refine ⟨A2, c2, d2, ?_⟩
  obtain ⟨v, ps, hrun, hv⟩ := h1.lookup (z := zeroNode) (zd := .held zeroNode) (zp := []) key9 Tryd.underlying54 (zeroN w) rfl (Go.WideMaps.keyOf_string_mk (s := p) Tryd.underlying9 (by unfold maxLen; omega))
  unfold rawR at hv
  simp only [Option.some.injEq, Prod.mk.injEq] at hv
  rw [g2] at hv
  rw [hrun, show v = Value.agg _ from DataW.held.inj hv.1]
theorem realT_small (M : NMap) (hM : Fine M) (s : ByteArray) (hv : validB s = true) : (realT M s).1.size ≤ 4096 := by
  have h5 := valid_size s hv
  have h6 : (realF M s).1.size ≤ 4096 := by
    unfold realF
    split
    · exact (by decide : emp.size ≤ 4096)
    split
    · exact (by decide : emp.size ≤ 4096)
    split
    · have h3 := way_size M hM (pcs s).dropLast
      have h4 : ((pcs s).getLastD emp).size ≤ s.size := by
        rw [← List.dropLast_concat_getLast (pcs_ne s), List.getLastD_concat]
        exact pcs_size _ _ (List.getLast_mem _)
      unfold underB
      dsimp only
      split
      · omega
      · rw [ByteArray.size_append, ByteArray.size_append, show slash.size = 1 from rfl]; omega
    · exact (by decide : emp.size ≤ 4096)
  unfold realT
  split
  · exact (by decide : emp.size ≤ 4096)
  split
  · exact h6
  · exact (by decide : emp.size ≤ 4096)
/-- Real, shortly told. -/
theorem realS_calls (base g b : Nat) (lv : Value) (s : St) (path : ByteArray) (w : World) (hF : Fine s.M) (hps : path.size ≤ 140737488351232) (W : World) (hb : Below w.heap.size w W) (h : FsAt W base g b lv s) :
    Calls Tryd.prog 28 #[.pointer (some ⟨g, 0, none⟩), .string path] W fun e w' => ∃ (k0 : Int) (t1 : ByteArray) (A : Option Addr) (n c : Nat) (m tm : Int), e = .returned (.tuple #[.string (realT s.M path).1, .agg #[.int .i64 k0, .string t1, .slice A n c, .int .i64 m, .int .i64 tm], .bool (realT s.M path).2.1.isSome, .int .i64 (realT s.M path).2.2]) ∧ Hid (Below W.heap.size W w') := by
  refine (realM_calls g base b s.cnt _ s.M path W h.c0 h.mapAt hF hps).mono fun e w' ⟨V, he, hV, hb2⟩ => ?_
  obtain ⟨k0, t1, A, n, c, m, tm, rfl⟩ := hV.form
  exact ⟨k0, t1, A, n, c, m, tm, he, Lib.hid hb2⟩
/-- Under way: some of the paths are moved. -/
structure RenAt (w9 wr : World) (base g b : Nat) (lv : Value) (s9 : St) (M : NMap) (old p : ByteArray) (done : List ByteArray) (N : NMap) : Prop where
  fs : FsAt wr base g b lv { s9 with M := N }
  mv : Moved M old p done N
  mod : Mod (fun i => i = b) w9 wr
theorem alloc_alloc (w : World) (o p : Obj) : ((w.alloc o).alloc p).heap[w.heap.size]? = some o := by
  show ((w.heap.push o).push p)[w.heap.size]? = some o
  rw [Array.getElem?_push, if_neg (by rw [Array.size_push]; omega), Array.getElem?_push, if_pos rfl]
theorem take_mem {ss : List ByteArray} {k : Nat} : ∀ s ∈ ss.take k, s ∈ ss := fun _ h => List.mem_of_mem_take h
theorem rd_take (ss : List ByteArray) (k : Nat) (h : k < ss.length) : ss.take (k + 1) = ss.take k ++ [rdOf ByteArray.empty ss (k : Int)] ∧ rdOf ByteArray.empty ss (k : Int) ∈ ss ∧ (ss.Nodup → rdOf ByteArray.empty ss (k : Int) ∉ ss.take k) := by
  have e : rdOf ByteArray.empty ss (k : Int) = ss[k] := by
    unfold rdOf
    rw [Int.toNat_natCast, List.getD_eq_getElem?_getD, List.getElem?_eq_getElem h]
    rfl
  rw [e]
  refine ⟨by rw [List.take_add_one, List.getElem?_eq_getElem h]; rfl, List.getElem_mem h, fun hn hm => ?_⟩
  obtain ⟨i, hi, he⟩ := List.getElem_of_mem hm
  rw [List.getElem_take] at he
  have hik : i < k := by rw [List.length_take] at hi; omega
  have := (List.getElem_inj (h₀ := by omega) (h₁ := h) hn).1 he
  omega
set_option maxRecDepth 100000 in
set_option maxHeartbeats 8000000 in
open Classical in
theorem rename_calls (base g b : Nat) (lv : Value) (s : St) (from_ to_ : ByteArray) (w : World) (h : FsAt w base g b lv s) (hp1 : from_.size ≤ 140737488351232) (hp2 : to_.size ≤ 140737488351232) (hF : Fine s.M) (hown : ∀ p x, s.M p = some x → x.f1 = p) (hU : Up s.M) (hlog : (s.log.length + 1) * 64 ≤ 140737488355328) :
    Calls Tryd.prog 12 #[.pointer (some ⟨g, 0, none⟩), .string from_, .string to_] w (OpPost base g b lv w (s.exec (renameP s.M s.cnt s.room from_ to_))) := by
  have HW := Lib.hid h
  have HH0 := Lib.hid (fun W (hb : Below w.heap.size w W) => (h.below hb : FsAt W base g b lv s))
  have HN := Lib.hid (none_calls g b w h.c0)
  have HVA := Lib.hid (valid_calls from_ w (by omega))
  have HVB := Lib.hid (fun W (hb : Below w.heap.size w W) => (valid_calls to_ W (by omega)).mono fun e w' ⟨he, hb2⟩ => (⟨he, Lib.hid (bgo hb hb2)⟩ : e = Ending.returned (.bool (validB to_)) ∧ Hid (Below w.heap.size w w')))
  have HPO := Lib.hid (fun (W : World) (hb : Below w.heap.size w W) (e : Int) (he : renameP s.M s.cnt s.room from_ to_ = .inl e) => show OpPost base g b lv w (s.exec (renameP s.M s.cnt s.room from_ to_)) (.returned (.int .i64 e)) W by
    rw [he]
    exact ⟨lv, rfl, HH0.out W hb, Mod.of_below hb, .inl rfl⟩)
  have HMP := Lib.hid (show renameP s.M s.cnt s.room from_ to_ = if validB from_ = false ∨ validB to_ = false then .inl 20 else
    if (realT s.M from_).2.2 ≠ 0 then .inl (realT s.M from_).2.2 else if (realT s.M from_).2.1.isSome = false then .inl 31 else
    if (realT s.M to_).2.2 ≠ 0 then .inl (realT s.M to_).2.2 else if (realT s.M to_).2.1.isSome = true then .inl 30 else
    if belowB (realT s.M from_).1 (realT s.M to_).1 = true then .inl 2 else
    if ∃ q, (s.M q).isSome = true ∧ inB (realT s.M from_).1 q ∧ validB (turnB (realT s.M from_).1 (realT s.M to_).1 q) = false then .inl 20 else
    .inr (⟨5, (realT s.M from_).1, (realT s.M to_).1, []⟩, moveM s.M (realT s.M from_).1 (realT s.M to_).1, s.cnt, s.room) from rfl)
  clear h
  cases hva : validB from_
  · rw [hva] at HVA
    have HR := Lib.hid (fun W hb => HPO.out W hb 20 (by rw [HMP.out, if_pos (.inl hva)]))
    clear hva HMP
    go_enter Tryd.func12, Tryd.ntmps12
    go_wp2_with (first | (go_at_call 26; refine HN.out.mono ?_; rintro e w' ⟨rfl, rfl⟩) | (go_at_call 21; refine HVA.out.mono ?_; rintro e w1 ⟨rfl, HB1⟩))
    go_ret
    exact HR.out _ HB1
  rw [hva] at HVA
  cases hvb : validB to_
  · rw [hvb] at HVB
    have HR := Lib.hid (fun W hb => HPO.out W hb 20 (by rw [HMP.out, if_pos (.inr hvb)]))
    have HVBU := Lib.hid (HVB.out)
    clear hva hvb HMP
    go_enter Tryd.func12, Tryd.ntmps12
    go_wp2_with (first | (go_at_call 26; refine HN.out.mono ?_; rintro e w' ⟨rfl, rfl⟩) | (go_at_call 21; refine (HVB.out _ HB1).mono ?_; rintro e w2 ⟨rfl, HB2⟩) | (go_at_call 21; refine HVA.out.mono ?_; rintro e w1 ⟨rfl, HB1⟩))
    go_ret
    exact HR.out _ HB2.out
  rw [hvb] at HVB
  have hps := realT_small s.M hF from_ hva
  have hpt := realT_small s.M hF to_ hvb
  have HRA := Lib.hid (fun W (hb : Below w.heap.size w W) => realS_calls base g b lv s from_ w hF hp1 W hb (HH0.out W hb))
  have HRB := Lib.hid (fun W (hb : Below w.heap.size w W) => realS_calls base g b lv s to_ w hF hp2 W hb (HH0.out W hb))
  have HTA := Lib.hid (realT_M s.M from_)
  have HTB := Lib.hid (realT_M s.M to_)
  have HMQ := Lib.hid (HMP.out.trans (if_neg (by rw [hva, hvb]; simp)))
  clear hva hvb HMP
  generalize realT s.M from_ = TA at *
  generalize realT s.M to_ = TB at *
  obtain ⟨old, oa, ea⟩ := TA
  obtain ⟨p, ob, eb⟩ := TB
  dsimp only at HRA HRB HMQ hps hpt HTA HTB
  go_enter Tryd.func12, Tryd.ntmps12
  go_upto_region 6 with (first | (go_at_call 26; refine HN.out.mono ?_; rintro e w' ⟨rfl, rfl⟩) | (go_at_call 21; refine (HVB.out _ HB1).mono ?_; rintro e w2 ⟨rfl, HB2⟩) | (go_at_call 21; refine HVA.out.mono ?_; rintro e w1 ⟨rfl, HB1⟩) | (go_at_call 28; refine (HRA.out _ HB2.out).mono ?_; rintro e w3 ⟨k0, t1, A4, n4, c4, m4, tm4, rfl, HB3⟩))
  clear HN HVA HVB HRA
  have HB3w := Lib.hid (bgo HB2.out HB3.out)
  refine wp_world ?_
  intro w4 hw4
  have o4 : w4.cell? ⟨w3.heap.size, 0, none⟩ = some (.string old) := by rw [hw4]; simp
  have of4 : w4.frozen? ⟨w3.heap.size, 0, none⟩ = false := by rw [hw4]; simp
  have HS4 := Lib.hid (show w4.heap.size = w3.heap.size + 2 by rw [hw4]; simp)
  have HO4 := Lib.hid (show w4.heap[w3.heap.size]? = some (.cells #[.string old] 9 (0, 0)) by rw [hw4]; exact alloc_alloc _ _ _)
  have HB4 := Lib.hid (show Below w.heap.size w w4 by rw [hw4]; exact balloc (balloc HB3w.out _) _)
  have hq3 : w.heap.size ≤ w3.heap.size := HB3w.out.size
  clear hw4 HB3 HB2
  by_cases hea : ea = 0
  case neg =>
    have hea1 : (ea != 0) = true := by simpa using hea
    have HR := Lib.hid (fun W hb => HPO.out W hb ea (by rw [HMQ.out, if_pos hea]))
    clear hea
    go_wp2
    go_ret
    exact HR.out _ HB4.out
  subst hea
  cases oa with
  | none =>
    have HR := Lib.hid (fun W hb => HPO.out W hb 31 (by rw [HMQ.out]; rfl))
    go_wp2
    go_ret
    exact HR.out _ HB4.out
  | some xo =>
    have HXO := Lib.hid (show s.M old = some xo from (HTA.out rfl).symm)
    have HMR := Lib.hid (HMQ.out.trans ((if_neg (by simp)).trans (if_neg (by simp))))
    clear HMQ HTA
    have HRC := Lib.hid (HRB.out _ HB4.out)
    clear HRB
    go_upto_region 11 with (go_at_call 28; refine HRC.out.mono ?_; rintro e w5 ⟨k5, t5, A5, n5, c5, m5, tm5, rfl, HB5⟩)
    have h45 := HB5.out.size
    have hq5 : w3.heap.size < w5.heap.size := by have := HS4.out; omega
    refine wp_world ?_
    intro w6 hw6
    have hb6 : Below w4.heap.size w4 w6 := by rw [hw6]; exact balloc (balloc HB5.out _) _
    have p6 : w6.cell? ⟨w5.heap.size, 0, none⟩ = some (.string p) := by rw [hw6]; simp
    have o6 : w6.cell? ⟨w3.heap.size, 0, none⟩ = some (.string old) := (hb6.cell (p := ⟨w3.heap.size, 0, none⟩) (by have := HS4.out; show w3.heap.size < w4.heap.size; omega)).trans o4
    have HO6 := Lib.hid ((hb6.block w3.heap.size (by have := HS4.out; omega)).trans HO4.out)
    have HP6 := Lib.hid (show w6.heap[w5.heap.size]? = some (.cells #[.string p] 9 (0, 0)) by rw [hw6]; exact alloc_alloc _ _ _)
    have HB6 := Lib.hid (bgo HB4.out hb6)
    clear hw6 hb6 o4 of4 HO4 HS4 HB5 HRC
    by_cases heb : eb = 0
    case neg =>
      have heb1 : (eb != 0) = true := by simpa using heb
      have HR := Lib.hid (fun W hb => HPO.out W hb eb (by rw [HMR.out, if_pos heb]))
      clear heb
      go_wp2
      go_ret
      exact HR.out _ HB6.out
    subst heb
    cases ob with
    | some xp =>
      have HR := Lib.hid (fun W hb => HPO.out W hb 30 (by rw [HMR.out]; rfl))
      go_wp2
      go_ret
      exact HR.out _ HB6.out
    | none =>
      have HXP := Lib.hid (show s.M p = none from (HTB.out rfl).symm)
      have HMS := Lib.hid (HMR.out.trans ((if_neg (by simp)).trans (if_neg (by simp))))
      clear HMR HTB
      have HPX := Lib.hid (prefixLit_calls p old w6)
      cases hbl : belowB old p
      case true =>
        rw [hbl] at HPX
        have HR := Lib.hid (fun W hb => HPO.out W hb 2 (by rw [HMS.out, if_pos hbl]))
        clear hbl
        go_wp2_with (go_at_call 31; refine HPX.out.mono ?_; rintro e w' ⟨rfl, rfl⟩)
        go_ret
        exact HR.out _ HB6.out
      rw [hbl] at HPX
      have HMT := Lib.hid (HMS.out.trans (if_neg (by rw [hbl]; simp)))
      clear hbl HMS
      have HWI := Lib.hid (show Calls Tryd.prog 32 #[.pointer (some ⟨g, 0, none⟩), .string old] w6 fun e w' => ∃ (A7 : Option Addr) (c7 : Nat) (ss : List ByteArray), e = .returned (.slice A7 ss.length c7) ∧ Hid (Kd.string.R 9 w' w.heap.size (fun _ => True) (.slice A7 ss.length c7) ss) ∧ Hid (Inside s.M old ss) ∧ ss.length ≤ 65536 ∧ Hid (Below w6.heap.size w6 w') from by
        refine (within_calls base g b lv s old w6 (HH0.out _ HB6.out) (by omega)).mono fun e w' ⟨v, ss, he, hR, hI, hl, hb⟩ => ?_
        obtain ⟨A7, c7, rfl, _, _⟩ := Kd.R_reads hR
        exact ⟨A7, c7, ss, he, Lib.hid (Kd.R_lower hR HB6.out.size), Lib.hid hI, hl, Lib.hid hb⟩)
      go_upto_region 18 with (first | (go_at_call 31; refine HPX.out.mono ?_; rintro e w' ⟨rfl, rfl⟩) | (go_at_call 32; refine HWI.out.mono ?_; rintro e w7 ⟨A7, c7, ss, rfl, HR7, HI7, hl7, HB7⟩))
      have hl63 := HB6.out.size
      have p7 := bkeep HB7.out p6
      have o7 := bkeep HB7.out o6
      have HO7 := Lib.hid ((HB7.out.block w3.heap.size (Array.getElem?_eq_some_iff.1 HO6.out).1).trans HO6.out)
      have HP7 := Lib.hid ((HB7.out.block w5.heap.size (Array.getElem?_eq_some_iff.1 HP6.out).1).trans HP6.out)
      have HB7w := Lib.hid (bgo HB6.out HB7.out)
      have HSZ := Lib.hid (fun (t : ByteArray) (ht : t ∈ ss) => show old.size ≤ t.size ∧ t.size ≤ 1024 from by
        obtain ⟨hm, hi⟩ := (HI7.out.2 t).1 ht
        obtain ⟨y, hy⟩ := Option.isSome_iff_exists.1 hm
        refine ⟨in_size hi, ?_⟩
        rw [← hown t y hy]
        exact hF.path t y hy)
      have HC7 := Lib.hid (show Kd.string.C w7 A7 ss.length ss from by
        obtain ⟨_, _, he4, _, hC4⟩ := Kd.R_reads HR7.out
        injection he4 with ha4 _ hc4
        subst ha4
        exact hC4)
      have HAB := Lib.hid (anyBad_calls w5.heap.size w3.heap.size p old A7 c7 ss w7 p7 o7 HC7.out hl7 (fun t ht => by have := HSZ.out t ht; omega))
      have HAI := Lib.hid (show anyBad old p ss = true ↔ ∃ q, (s.M q).isSome = true ∧ inB old q ∧ validB (turnB old p q) = false by
        unfold anyBad
        rw [List.any_eq_true]
        constructor
        · rintro ⟨q, hq, hv⟩
          obtain ⟨h1, h2⟩ := (HI7.out.2 q).1 hq
          exact ⟨q, h1, h2, by simpa using hv⟩
        · rintro ⟨q, h1, h2, hv⟩
          exact ⟨q, (HI7.out.2 q).2 ⟨h1, h2⟩, by rw [hv]; rfl⟩)
      clear p6 o6 HO6 HP6 HWI HPX
      cases hab : anyBad old p ss
      case true =>
        rw [hab] at HAB
        have HR := Lib.hid (fun W hb => HPO.out W hb 20 (by rw [HMT.out, if_pos (HAI.out.1 hab)]))
        clear hab
        go_wp2_with (go_at_call 33; refine HAB.out.mono ?_; rintro e w8 ⟨rfl, HB8⟩)
        go_ret
        exact HR.out _ (bgo HB7w.out HB8.out)
      rw [hab] at HAB
      have HMV := Lib.hid (HMT.out.trans (if_neg (fun e => by rw [HAI.out.2 e] at hab; cases hab)))
      clear hab HMT HAI
      have hgw : base ≤ w.heap.size := by have := HW.out.gb; have := HW.out.glt; omega
      have HCH := Lib.hid (fun W (hb : Below w.heap.size w W) => show Calls Tryd.prog 29 #[.pointer (some ⟨g, 0, none⟩), .agg #[.int .i64 5, .string old, .string p, .slice none 0 0]] W (OpPost base g b lv W (s.change ⟨5, old, p, []⟩)) from change_calls base w.heap.size g b lv (.slice none 0 0) (fun _ => True) s ⟨5, old, p, []⟩ W (HH0.out W hb) hgw (Kd.R_nil _ _ _ _ _) hlog)
      have HEX := Lib.hid (show s.exec (renameP s.M s.cnt s.room from_ to_) = if (s.change ⟨5, old, p, []⟩).2 = 0 then ({ (s.change ⟨5, old, p, []⟩).1 with M := moveM s.M old p, cnt := s.cnt, room := s.room }, 0) else s.change ⟨5, old, p, []⟩ by rw [HMV.out]; rfl)
      have HCS := Lib.hid (change_same s ⟨5, old, p, []⟩)
      clear HMV hgw
      generalize s.change ⟨5, old, p, []⟩ = SC at *
      obtain ⟨s9, e9⟩ := SC
      dsimp only at HCH HEX HCS
      have HAC := Lib.hid (show Calls Tryd.prog 33 #[.slice A7 ss.length c7, .func (.func 34) #[] #[.pointer (some ⟨w5.heap.size, 0, none⟩), .pointer (some ⟨w3.heap.size, 0, none⟩)]] w7 fun e w' => e = .returned (.bool false) ∧ Hid (Below w7.heap.size w7 w') ∧ w'.cell? ⟨w5.heap.size, 0, none⟩ = some (.string p) ∧ w'.cell? ⟨w3.heap.size, 0, none⟩ = some (.string old) from HAB.out.mono fun e w' ⟨he, hb⟩ => ⟨he, hb, bkeep hb.out p7, bkeep hb.out o7⟩)
      clear HAB
      go_upto_region 21 with (first | (go_at_call 33; refine HAC.out.mono ?_; rintro e w8 ⟨rfl, HB8, p8, o8⟩) | (go_at_call 29; refine (HCH.out _ (bgo HB7w.out HB8.out)).mono ?_; rintro e w9 ⟨lv9, rfl, H9, hm9, hat9⟩))
      have HM9 := Lib.hid ((Mod.of_below (S := ownS g b lv) (bgo HB7w.out HB8.out)).then_ hm9 (fun i _ e => e))
      have HAT := Lib.hid (show lv9.ownBlock = lv.ownBlock ∨ ∃ q, lv9.ownBlock = some q ∧ w.heap.size ≤ q by
        have := HB7w.out.size
        have := HB8.out.size
        rcases hat9 with e | ⟨q, e, hq⟩
        · exact .inl e
        · exact .inr ⟨q, e, by omega⟩)
      by_cases he9 : e9 = 0
      case neg =>
        have he91 : (e9 != 0) = true := by simpa using he9
        have HEY := Lib.hid (HEX.out.trans (if_neg he9))
        clear he9 HEX
        go_wp2
        go_ret
        rw [HEY.out]
        exact ⟨lv9, rfl, H9, HM9.out, HAT.out⟩
      have HEY := Lib.hid (HEX.out.trans (if_pos he9))
      subst he9
      have hno : ∀ q, w.heap.size ≤ q → q < w.heap.size + 0 ∨ ¬ ownS g b lv q := fun q hq => .inr (fun e => by
        rcases e with e | e | e
        · have := HW.out.glt; omega
        · have := HW.out.blt; omega
        · have := (HW.out.logT _ e).1; omega)
      have hkeep : ∀ (q : Nat) (o : Obj), w.heap.size ≤ q → w7.heap[q]? = some o → w9.heap[q]? = some o := fun q o hq ho => by
        have h8 := (HB8.out.block q (Array.getElem?_eq_some_iff.1 ho).1).trans ho
        rcases hno q hq with h | h
        · omega
        · exact (hm9.block q (Array.getElem?_eq_some_iff.1 h8).1 h).trans h8
      have HO9 := Lib.hid (hkeep w3.heap.size _ (by omega) HO7.out)
      have HP9 := Lib.hid (hkeep w5.heap.size _ (by omega) HP7.out)
      have HR9 := Lib.hid ((HH0.out _ (bgo HB7w.out HB8.out)).rowKept hm9 (Kd.R_below HR7.out HB8.out) (by decide) (by decide))
      have HF9 := Lib.hid (show FsAt w9 base g b lv9 { s9 with M := s.M } by rw [← HCS.out.1]; exact H9)
      have hgb3 : b < w3.heap.size := by have := HW.out.blt; omega
      have hgb5 : b < w5.heap.size := by omega
      have HLP := Lib.hid (fun (N : NMap) (hm : Moved s.M old p ss N) => hm.all HI7.out hU HXP.out)
      have HDN := Lib.hid (fun (k : Nat) (hk : k < ss.length) => rd_take ss k hk)
      clear hno hkeep HO7 HP7 H9 hm9 hat9 HAC p7 o7 p8 o8 HEX HCH HC7
      go_wp2
      go_loopw [16, 17, 80] (fun _ _ i wr => ∃ k : Nat, ∃ N : NMap, i = .int .i64 k ∧ k ≤ ss.length ∧ Hid (RenAt w9 wr base g b lv9 s9 s.M old p (ss.take k) N)) (fun _ _ i _ => ss.length - (intOf i).toNat)
      case atStart => exact ⟨0, s.M, rfl, by omega, Lib.hid ⟨HF9.out, by rw [List.take_zero]; exact Moved.start, Mod.refl _ _⟩⟩
      case round =>
        obtain ⟨k, N, rfl, hk, HRA⟩ := hrel
        by_cases hlt : k < ss.length
        · obtain ⟨htk, hmem, hnot⟩ := HDN.out k hlt
          obtain ⟨ad, hA, hxa⟩ := Kd.at_string (show Kd.string.C wr A7 ss.length ss from by
            have h := R_mod HR9.out HRA.out.mod (fun q hq t cells hc => by
              subst hq
              obtain ⟨D0, ⟨es, clock, h1, _⟩, _⟩ := HF9.out.map
              rw [h1] at hc; cases hc)
            obtain ⟨_, _, he4, _, hC4⟩ := Kd.R_reads h
            injection he4 with ha4 _ hc4
            subst ha4
            exact hC4) (k : Int) (by omega) (by omega)
          subst hA
          rw [Int.toNat_natCast] at hxa
          have hnd := hnot HI7.out.1
          have hsz1 := HSZ.out _ hmem
          have hpres := (HI7.out.2 _).1 hmem
          obtain ⟨x, hx⟩ := Option.isSome_iff_exists.1 hpres.1
          have hN := HRA.out.mv.at_ HI7.out hU HXP.out take_mem hmem hnd
          have HFR := Lib.hid (HRA.out.mv.free HI7.out hU HXP.out take_mem hmem hnd)
          have HST := Lib.hid (HRA.out.mv.step HI7.out hU HXP.out take_mem hmem hnd hx)
          rw [← htk] at HST
          rw [hx] at hN
          clear hnd hpres htk hmem hnot
          generalize rdOf ByteArray.empty ss (k : Int) = z at *
          obtain ⟨A1, e1, hR1, hlk⟩ := HRA.out.fs.look1 z (by omega) x hN
          have HR1 := Lib.hid hR1
          have HN := Lib.hid hN
          have cg := HRA.out.fs.c0
          have k0 : (0 : Int) ≤ (k : Int) := by omega
          have k1 : (k : Int) < ss.length := by omega
          have zs1 : (old.size : Int) ≤ (z.size : Int) := by omega
          have zs2 : ¬ 9223372036854775807 < p.size + (z.size - old.size) := by omega
          have zs3 : (p.size + (z.size - old.size) : Nat) ≤ 9223372036854775807 := by omega
          have zi0 : (0 : Int) ≤ (old.size : Int) := by omega
          clear hR1 hN
          go_upto_region 27 with fail
          refine wp_world ?_
          intro w1 hw1
          have hbl1 : Below wr.heap.size wr w1 := by rw [hw1]; exact balloc (Below.refl _ _) _
          have HK1 := Lib.hid (show w1.heap[wr.heap.size]? = some (.cells #[.int .i64 x.f0, .string x.f1, .slice A1 x.f2.length e1, .int .i64 x.f3, .int .i64 x.f4] 33 (0, 0)) by rw [hw1]; exact heap_alloc_new _ _)
          have HF1 := Lib.hid (HRA.out.fs.below hbl1)
          have HM1 := Lib.hid (HRA.out.mod.then_ (Mod.of_below (S := fun i => i = b) hbl1) (fun i _ e => e))
          have HR1b := Lib.hid (Kd.R_below HR1.out hbl1)
          have hbr : b < wr.heap.size := HRA.out.fs.blt
          have cg1 := HF1.out.c0
          obtain ⟨D, hown1, hsz1d, hsays1⟩ := HF1.out.map
          have HSY := Lib.hid hsays1
          have HSD := Lib.hid hsz1d
          have HOW := Lib.hid hown1
          clear hw1 hbl1 hsays1 hsz1d HR1
          go_upto_region 28 with (at_delete; refine wpList_delete_own _ rfl _ _ 54 9 rfl 33 key9 Tryd.underlying54 _ b s9.cnt D rfl hown1 _ _ rfl (Go.WideMaps.keyOf_string_mk Tryd.underlying9 (by unfold maxLen; omega)) ?_; intro w10 hown10 hgr10)
          have hc1 : 1 ≤ s9.cnt := by
            have h1 := says_has HSY.out z
            rw [show ({ s9 with M := N } : St).M z = some x from HN.out] at h1
            have h2 := Maps.size_del (k := .string z.data.toList) (HOW.out.tidy key9)
            rw [h1, HSD.out] at h2
            simp at h2
            omega
          obtain ⟨hF2, hM2⟩ := HF1.out.delNode HOW.out HSD.out HSY.out z hown10 hgr10.grown (s9.cnt - 1) (by rw [show ({ s9 with M := N } : St).M z = some x from HN.out]; simp; omega)
          have hk2 := (hM2.block wr.heap.size (Array.getElem?_eq_some_iff.1 HK1.out).1 (by omega)).trans HK1.out
          have HF2 := Lib.hid (show FsAt w10 base g b lv9 { s9 with M := delM N z, cnt := s9.cnt - 1 } from hF2)
          have HK2 := Lib.hid hk2
          have HM2 := Lib.hid (HM1.out.trans hM2)
          have HR2 := Lib.hid (R_mod HR1b.out hM2 (fun q hq t cells hc => by
              subst hq
              exact absurd hc (by
                obtain ⟨D0, ⟨es, clock, h1, _⟩, _⟩ := HF1.out.map
                rw [h1]; intro e; cases e)))
          have hbx3 := (HM2.out.block w3.heap.size (Array.getElem?_eq_some_iff.1 HO9.out).1 (by omega)).trans HO9.out
          have hbx5 := (HM2.out.block w5.heap.size (Array.getElem?_eq_some_iff.1 HP9.out).1 (by omega)).trans HP9.out
          have c3 : w10.cell? ⟨w3.heap.size, 0, none⟩ = some (.string old) := by simp [World.cell?, hbx3]
          have c5 : w10.cell? ⟨w5.heap.size, 0, none⟩ = some (.string p) := by simp [World.cell?, hbx5]
          have x0 : w10.cell? ⟨wr.heap.size, 0, none⟩ = some (.int .i64 x.f0) := by simp [World.cell?, hk2]
          have x1 : w10.cell? ⟨wr.heap.size, 1, none⟩ = some (.string x.f1) := by simp [World.cell?, hk2]
          have x2 : w10.cell? ⟨wr.heap.size, 2, none⟩ = some (.slice A1 x.f2.length e1) := by simp [World.cell?, hk2]
          have x3 : w10.cell? ⟨wr.heap.size, 3, none⟩ = some (.int .i64 x.f3) := by simp [World.cell?, hk2]
          have x4 : w10.cell? ⟨wr.heap.size, 4, none⟩ = some (.int .i64 x.f4) := by simp [World.cell?, hk2]
          have xf : ∀ i, w10.frozen? ⟨wr.heap.size, i, none⟩ = false := fun i => frozen_of_row _ _ i _ _ hk2
          clear hF2 hM2 hk2 hbx3 hbx5 hown10 hgr10 hown1 cg1 cg hlk HR1b
          obtain ⟨nz, hnz⟩ : ∃ nz, p ++ z.extract old.size z.size = nz := ⟨_, rfl⟩
          have HNZ := Lib.hid (show turnB old p z = nz from hnz)
          have hnzs : nz.size ≤ 140737488351232 := by rw [← hnz, ByteArray.size_append, ByteArray.size_extract]; omega
          clear hnz
          go_still_tail 7, (by kernel_rfl)
          go_upto_region 29 with fail
          have HF3 := Lib.hid (HF2.out.far ⟨_, HK2.out⟩ 1 (.string nz)).drew
          have HM3 := Lib.hid (HM2.out.then_ (S' := fun q => w9.heap.size ≤ q) (Mod.of_setCell (S := fun q => w9.heap.size ≤ q) w10 ⟨wr.heap.size, 1, none⟩ (.string nz) HRA.out.mod.size) (fun i hi e => by omega)).drew
          have HR3 := Lib.hid (R_mod (S := fun q => q = wr.heap.size) HR2.out (Mod.of_setCell (S := fun q => q = wr.heap.size) w10 ⟨wr.heap.size, 1, none⟩ (.string nz) rfl).drew (fun q hq t cells hc => by
            subst hq
            rw [HK2.out] at hc
            cases hc
            decide))
          rw [show p ++ z.extract old.size z.size = nz from HNZ.out]
          refine wp_world ?_
          intro w11 hw11
          rw [← hw11] at HF3 HM3 HR3
          have y0 : w11.cell? ⟨wr.heap.size, 0, none⟩ = some (.int .i64 x.f0) := by rw [hw11]; go_simp
          have y1 : w11.cell? ⟨wr.heap.size, 1, none⟩ = some (.string nz) := by rw [hw11]; go_simp
          have y2 : w11.cell? ⟨wr.heap.size, 2, none⟩ = some (.slice A1 x.f2.length e1) := by rw [hw11]; go_simp
          have y3 : w11.cell? ⟨wr.heap.size, 3, none⟩ = some (.int .i64 x.f3) := by rw [hw11]; go_simp
          have y4 : w11.cell? ⟨wr.heap.size, 4, none⟩ = some (.int .i64 x.f4) := by rw [hw11]; go_simp
          have yg := HF3.out.c0
          clear hw11 x0 x1 x2 x3 x4 xf c3 c5
          obtain ⟨D3, hown3, hsz3, hsays3⟩ := HF3.out.map
          have HSY3 := Lib.hid hsays3
          have HSZ3 := Lib.hid hsz3
          have HOW3 := Lib.hid hown3
          have hcb3 : s9.cnt - 1 < 65536 := by have := HF2.out.cntB; have := HF1.out.cntB; dsimp only at *; omega
          clear hsays3 hsz3
          go_still_tail 7, (by kernel_rfl)
          go_wp2_with (at_mapUpdate; refine wpList_mapUpdate_own _ rfl _ _ _ 54 rfl 9 33 key9 Tryd.underlying54 _ b (s9.cnt - 1) D3 rfl hown3 (by unfold maxLen; omega) _ (.agg #[.int .i64 x.f0, .string nz, .slice A1 x.f2.length e1, .int .i64 x.f3, .int .i64 x.f4]) _ rfl rfl (Go.WideMaps.keyOf_string_mk Tryd.underlying9 (by unfold maxLen; omega)) _ [] rfl ?_; intro w12 hown12 hgr12)
          have hfree : delM N z nz = none := by
            unfold delM
            split
            · rfl
            · rw [← HNZ.out]; exact HFR.out
          obtain ⟨hF4, hM4⟩ := HF3.out.putNode HOW3.out HSZ3.out HSY3.out (renN x nz) _ hown12 hgr12 rfl (kN_mkM w11 base _ (renN x nz) HR3.out) s9.cnt (by
            show s9.cnt = if (delM N z nz).isSome = true then s9.cnt - 1 else s9.cnt - 1 + 1
            rw [hfree]
            simp
            omega) (by have := HF1.out.cntB; exact this)
          have HF4 := Lib.hid (show FsAt w12 base g b lv9 { s9 with M := putM (delM N z) (renN x nz) } from hF4)
          have HM4 := Lib.hid (HM3.out.trans hM4)
          clear hF4 hM4 hown12 hgr12 hown3 y0 y1 y2 y3 y4 yg
          rw [HNZ.out] at HST
          go_roundw
          case rel => exact ⟨k + 1, _, by go_num, by omega, Lib.hid ⟨HF4.out, HST.out, HM4.out⟩⟩
          case measure => simp [intOf]; omega
        · have hkl : k = ss.length := by omega
          have HM := Lib.hid (HLP.out N (by have h := HRA.out.mv; rw [hkl, List.take_length] at h; exact h))
          have HZ := Lib.hid (show FsAt wr base g b lv9 { s9 with M := moveM s.M old p, cnt := s.cnt, room := s.room } by rw [← HM.out, ← HCS.out.2.1, ← HCS.out.2.2]; exact HRA.out.fs)
          have k1 : ¬ (k : Int) < ss.length := by omega
          clear hkl
          go_wp2
          go_ret
          rw [HEY.out]
          exact ⟨lv9, rfl, HZ.out, HM9.out.then_ HRA.out.mod (fun i _ e => .inr (.inl e)), HAT.out⟩
end Go.Proofs.YtageofdcloneoaaDoor.Fs
