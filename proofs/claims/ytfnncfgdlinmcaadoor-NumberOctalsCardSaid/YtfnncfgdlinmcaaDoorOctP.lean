/- number.PutOctal walked; hamperref02.PutOctal answers alike. -/
import Derived.Test.YtfnncfgdlinmcaaDoorOctF
import Derived.Test.YtfnncfgdlinmcaaDoorOctR
import Derived.Test.YtfnncfgdlinmcaaDoorPPutOctalx1
set_option linter.unusedVariables false
set_option linter.unusedSimpArgs false
namespace Go.Proofs.YtfnncfgdlinmcaaDoor.Oct
open Go.RowKit Go.BigFrame Go.Proofs.YtfnncfgdlinmcaaDoor.Reg Go.Proofs.YtfnncfgdlinmcaaDoorW.PrintWords Go.Proofs.YtfnncfgdlinmcaaDoorW.PrintLast Go.Proofs.YtfnncfgdlinmcaaDoorW.PrintMore
/-! ### plain -/
theorem octF_dig : ∀ (f n : Nat), ∀ b ∈ octF f n, 48 ≤ b ∧ b ≤ 55
  | 0, n, b, h => absurd h (by simp [octF])
  | f + 1, n, b, h => by
    rw [octF_step] at h
    split at h
    · obtain rfl := List.mem_singleton.1 h
      omega
    · rcases List.mem_append.1 h with h | h
      · exact octF_dig f _ b h
      · obtain rfl := List.mem_singleton.1 h
        omega
theorem octF_pos (f n : Nat) : 1 ≤ (octF (f + 1) n).length ∧ (octF (f + 1) n).length ≤ f + 1 := by
  induction f generalizing n with
  | zero =>
    rw [octF_step]
    split
    · simp
    · simp [octF]
  | succ f ih =>
    rw [octF_step]
    split
    · simp
    · have := ih (n / 8)
      rw [List.length_append, List.length_singleton]
      omega
theorem bytes_back (xs : List Int) (h : ∀ b ∈ xs, 0 ≤ b ∧ b ≤ 255) : bytesOf (strOfNums xs) = xs := by
  unfold bytesOf
  rw [strOfNums_data, List.map_map]
  conv => rhs; rw [← List.map_id xs]
  refine List.map_congr_left (fun b hb => ?_)
  have := h b hb
  show ((UInt8.ofNat b.toNat).toNat : Int) = b
  simp
  omega
def digs (v : Int) : List Int := octF 21 v.toNat
def octP (v n : Int) : List Int × Int :=
  if n < 2 ∨ 64 < n ∨ v < 0 then ([], 2) else if n - 1 < (digs v).length then ([], 3) else (List.replicate (n.toNat - 1 - (digs v).length) 48 ++ digs v ++ [0], 0)
/-! ### the walk -/
def OctPost (v n : Int) (w : World) (e : Ending) (w' : World) : Prop := ∃ x, e = .returned (.tuple #[x, .int .i64 (octP v n).2]) ∧ (Kd.int .u8).R 5 w' w.heap.size (fun _ => True) x (octP v n).1 ∧ Below w.heap.size w w'
theorem opost_none {v n k : Int} {w w' : World} (h : octP v n = ([], k)) (hb : Below w.heap.size w w') : OctPost v n w (.returned (.tuple #[.slice none 0 0, .int .i64 k])) w' := by
  unfold OctPost
  rw [h]
  exact ⟨_, rfl, Kd.R_nil _ _ _ _ _, hb⟩
set_option maxRecDepth 100000 in
set_option maxHeartbeats 4000000 in
theorem putOctal_calls (v n : Int) (hv : v ≤ 9223372036854775807) (w : World) (h : Tz w) :
    Calls Tryd.prog 6 #[.int .i64 v, .int .i64 n] w (OctPost v n w) := by
  by_cases ho : n < 2 ∨ 64 < n ∨ v < 0
  · have hE := Lib.hid (show octP v n = ([], 2) by unfold octP; rw [if_pos ho])
    clear h
    by_cases h1 : n < 2
    · clear ho
      go_enter Tryd.func6, Tryd.ntmps6
      go_wp2
      go_ret2
      exact opost_none hE.out (Below.refl _ _)
    by_cases h2 : 64 < n
    · clear ho
      go_enter Tryd.func6, Tryd.ntmps6
      go_wp2
      go_ret2
      exact opost_none hE.out (Below.refl _ _)
    have h3 : v < 0 := by omega
    clear ho
    go_enter Tryd.func6, Tryd.ntmps6
    go_wp2
    go_ret2
    exact opost_none hE.out (Below.refl _ _)
  have HP := Lib.hid (show octP v n = if n - 1 < (digs v).length then ([], 3) else (List.replicate (n.toNat - 1 - (digs v).length) 48 ++ digs v ++ [0], 0) by unfold octP; rw [if_neg ho])
  have HF := Lib.hid (show Calls Tryd.prog 19 #[.int .i64 v, .int .i64 8] w _ from formatInt_calls v (by omega) (by omega) w h)
  have hdb := bytes_back (digs v) (fun b hb => by have := octF_dig 21 v.toNat b hb; omega)
  have hlen := octF_pos 20 v.toNat
  have hsz := strOfNums_size (digs v)
  have hd : digs v = octF 21 v.toNat := rfl
  rw [← hd] at HF hlen
  clear h hd
  generalize digs v = D at *
  have HSZ := Lib.hid hsz
  have HDB := Lib.hid hdb
  clear hsz hdb
  have hn2 : 2 ≤ n := by omega
  have hn64 : n ≤ 64 := by omega
  have hv0 : 0 ≤ v := by omega
  clear ho
  go_enter Tryd.func6, Tryd.ntmps6
  go_upto_region 4 with (go_at_call 19; refine HF.out.mono ?_; rintro e w1 ⟨rfl, hb1⟩; have HB1 := Lib.hid hb1; clear hb1)
  generalize strOfNums D = s at *
  by_cases hbig : n - 1 < (D.length : Int)
  · have hE := Lib.hid (show octP v n = ([], 3) by rw [HP.out, if_pos hbig])
    have hb2 : n - 1 < (s.size : Int) := by have := HSZ.out; omega
    clear hbig HP
    go_wp2
    go_ret2
    exact opost_none hE.out HB1.out
  · have hE := Lib.hid (show octP v n = (List.replicate (n.toNat - 1 - D.length) 48 ++ D ++ [0], 0) by rw [HP.out, if_neg hbig])
    have hb2 : ¬ n - 1 < (s.size : Int) := by have := HSZ.out; omega
    clear hbig HP
    obtain ⟨m, hm⟩ : ∃ m : Nat, n - 1 - (s.size : Int) = (m : Int) := ⟨(n - 1 - (s.size : Int)).toNat, by have := HSZ.out; omega⟩
    have HM := Lib.hid (show n.toNat - 1 - D.length = m by have := HSZ.out; omega)
    have hm64 : m ≤ 62 := by have := HSZ.out; omega
    have HR := Lib.hid (repeat_calls ⟨w1.heap.size, 0, none⟩ 1 m 48 (by omega) (w1.alloc (.cells #[.int .u8 48] 5)) (by simp))
    have HBA := Lib.hid (show Below w.heap.size w (w1.alloc (.cells #[.int .u8 48] 5)) from balloc HB1.out _)
    have HDL := Lib.hid hlen
    clear hlen
    go_upto_region 7 with (go_at_call 20; with_reducible refine HR.out.mono ?_; rintro e w2 ⟨x, rfl, hR2, hb2⟩; have HR2 := Lib.hid (Kd.R_lower hR2 HBA.out.size); have HB2 := Lib.hid (bgo HBA.out hb2); clear hR2 hb2)
    have HO2 := Lib.hid (show w2.ownsRow w.heap.size 5 1 x (List.replicate m (48 : Int)).length (nums .u8 (List.replicate m 48)) from Kd.own_of_R HR2.out)
    clear HR HR2
    go_wp2_with (first
      | (at_builtin; refine print_append_str w.heap.size rfl (.tmp 32) (.tmp 33) 22 9 5 rfl Tryd.underlying22 Tryd.underlying9 info5 x (List.replicate m 48) s rfl rfl HO2.out HB2.out HB2.out.size (by have := HSZ.out; have := HDL.out; rw [List.length_replicate]; omega) ?_; intro x3 w3 hown3 hb3 hg3; have HR3 := Lib.hid (show (Kd.int .u8).R 5 w3 w.heap.size (fun _ => True) x3 (List.replicate m 48 ++ bytesOf s) from Kd.R_of_own hown3 (fun _ _ => trivial)); have HB3 := Lib.hid hb3; clear hown3 hb3 hg3)
      | (at_builtin; refine Kd.R_append (Kd.int .u8) (w0 := w) w.heap.size rfl (.tmp 34) (.tmp 35) 22 5 (.int .u8 0) 1 rfl Tryd.underlying22 info5 rfl (show 0 < 1 by decide) (by omega) x3 (List.replicate m 48 ++ bytesOf s) (0 : Int) [.int .u8 0] (fun _ => True) (fun _ => False) rfl rfl rfl (fun _ h => h.elim) (fun _ _ => trivial) HR3.out HB3.out HB3.out.size (by have := HDB.out; have := HDL.out; rw [HDB.out, List.length_append, List.length_replicate]; omega) ?_; intro x4 w4 hR4 hb4 hg4 hat4; have HR4 := Lib.hid hR4; have HB4 := Lib.hid hb4; clear hR4 hb4 hg4 hat4))
    go_ret2
    refine ⟨_, by rw [hE.out]; rfl, ?_, HB4.out⟩
    rw [hE.out, HM.out]
    have h := HR4.out
    rw [HDB.out] at h
    exact h
end Go.Proofs.YtfnncfgdlinmcaaDoor.Oct
