/- route.name walked. -/
import Derived.Test.YtfnncfgdlinmcaaDoorRoutP
import Derived.Test.YtfnncfgdlinmcaaDoorReg
import Derived.Test.YtfnncfgdlinmcaaDoorProg
import Derived.Lib.Hide
set_option linter.unusedVariables false
set_option linter.unusedSimpArgs false
namespace Go.Proofs.YtfnncfgdlinmcaaDoor.Rout
open Go.RowKit Go.BigFrame Go.Proofs.YtfnncfgdlinmcaaDoor.Reg
theorem below_iter (w : World) (s : ByteArray) (pos : Nat) : Below w.heap.size w (w.iter s pos) := balloc (Below.refl _ _) _
def plainB (s : ByteArray) : Bool := s.data.toList.all (fun c => c != 47 && c != 0)
theorem ret_bool {a b : Bool} (h : a = b) : Ending.returned (.bool a) = .returned (.bool b) := by rw [h]
set_option maxHeartbeats 2000000 in
theorem name_long (s : ByteArray) (w : World) (h1 : 1 ≤ s.size) (h2 : s.size ≤ 255) (h3 : (s.toList == [46]) = false) (h4 : (s.toList == [46, 46]) = false) :
    Calls Tryd.prog 34 #[.string s] w fun e w' => e = .returned (.bool (plainB s)) ∧ Below w.heap.size w w' := by
  go_enter Tryd.func34, Tryd.ntmps34
  go_wp2
  go_loopw [4] (fun _ w' => ∃ pos : Nat, w' = w.iter s pos ∧ Hid (clean s pos)) (fun _ w' => s.size - w'.iterPos w.heap.size)
  case atStart => exact ⟨0, rfl, Lib.hid (fun i c hi => by omega)⟩
  case round =>
    obtain ⟨pos, rfl, hc⟩ := hrel
    by_cases hp : pos < s.size
    · have hnx : ∀ ty, (Instr.next (.pointer (some ⟨w.heap.size, 0, none⟩)) true ty).run Tryd.prog (w.iter s pos) = _ := fun ty => run_next_any w s pos ty hp
      have hwd := width_pos s pos hp
      have hd := Lib.hid (show (Utf8.decode s pos).1 = 47 ∨ (Utf8.decode s pos).1 = 0 → plainB s = false from dirty_at s pos hp)
      have hs := Lib.hid (clean_step s pos hp hc.out)
      generalize (Utf8.decode s pos).1 = r at *
      generalize (Utf8.decode s pos).2 = n at *
      by_cases hr : r = 47
      · have HE := Lib.hid (hd.out (.inl hr))
        clear hd
        subst hr
        go_wp2
        go_ret
        exact ⟨ret_bool HE.out.symm, below_iter _ _ _⟩
      · by_cases hr2 : r = 0
        · have HE := Lib.hid (hd.out (.inr hr2))
          clear hd
          subst hr2
          go_wp2
          go_ret
          exact ⟨ret_bool HE.out.symm, below_iter _ _ _⟩
        · have hn1 : ((r : Int) == 47) = false := beq_eq_false_iff_ne.mpr (by omega)
          have hn2 : ((r : Int) == 0) = false := beq_eq_false_iff_ne.mpr (by omega)
          have hcl := Lib.hid (hs.out hr hr2)
          clear hs hd
          go_wp2
          go_roundw
          case rel => exact ⟨pos + n, rfl, hcl⟩
          case measure => simp; omega
    · have hnx : ∀ ty, (Instr.next (.pointer (some ⟨w.heap.size, 0, none⟩)) true ty).run Tryd.prog (w.iter s pos) = _ := fun ty => run_next_end w s pos ty hp
      go_wp2
      go_ret
      exact ⟨ret_bool (show plainB s = true from clean_all s pos (by omega) hc.out).symm, below_iter _ _ _⟩
theorem toList_data (s : ByteArray) : s.toList = s.data.toList := Lib.toList_data s
theorem name_calls (s : ByteArray) (w : World) (hs : s.size ≤ 140737488355328) :
    Calls Tryd.prog 34 #[.string s] w fun e w' => e = .returned (.bool (nameB s)) ∧ Below w.heap.size w w' := by
  by_cases h1 : s.size < 1
  · have e : nameB s = false := by unfold nameB; simp; omega
    rw [e]
    go_enter Tryd.func34, Tryd.ntmps34
    go_wp2
    go_ret
    exact ⟨rfl, Below.refl _ _⟩
  by_cases h2 : 255 < s.size
  · have e : nameB s = false := by unfold nameB; simp; omega
    rw [e]
    go_enter Tryd.func34, Tryd.ntmps34
    go_wp2
    go_ret
    exact ⟨rfl, Below.refl _ _⟩
  cases h3 : (s.toList == [46])
  · cases h4 : (s.toList == [46, 46])
    · have e : nameB s = s.data.toList.all (fun c => c != 47 && c != 0) := by
        rw [toList_data] at h3 h4
        unfold nameB
        rw [decide_eq_true (show 1 ≤ s.size by omega), decide_eq_true (show s.size ≤ 255 by omega), bne, bne, h3, h4]
        simp
      rw [e]
      exact name_long s w (by omega) (by omega) h3 h4
    · have e : nameB s = false := by rw [toList_data] at h4; unfold nameB; rw [bne, bne, h4]; simp
      rw [e]
      go_enter Tryd.func34, Tryd.ntmps34
      go_wp2
      go_ret
      exact ⟨rfl, Below.refl _ _⟩
  · have e : nameB s = false := by rw [toList_data] at h3; unfold nameB; rw [bne, bne, h3]; simp
    rw [e]
    go_enter Tryd.func34, Tryd.ntmps34
    go_wp2
    go_ret
    exact ⟨rfl, Below.refl _ _⟩
end Go.Proofs.YtfnncfgdlinmcaaDoor.Rout
