/- FsX, FsO put together. -/
import Derived.Test.YtageofdcloneoaaDoorMFsZ
import Derived.Test.YtageofdcloneoaaDoorMFsP
set_option linter.unusedVariables false
set_option linter.unusedSimpArgs false
namespace Go.Proofs.YtageofdcloneoaaDoor.Fs
open Go.RowKit Go.BigFrame Go.Maps Go.Proofs.YtageofdcloneoaaDoor.Reg Go.Proofs.YtageofdcloneoaaDoor.Rout Go.Proofs.YtageofdcloneoaaDoor.Node Go.Proofs.YtageofdcloneoaaDoor.Tree Go.Proofs.YtageofdcloneoaaDoor.Vfs Go.Proofs.YtageofdcloneoaaDoorW.PrintWords Go.Proofs.YtageofdcloneoaaDoorW.PrintLast Go.Proofs.YtageofdcloneoaaDoorW.PrintMore
attribute [local go_sem ↓] Go.wp_at_zero Go.wp_at_succ
/-- Behind a call: the state, and what else was touched. -/
def After (base g b : Nat) (lv : Value) (w : World) (s : St) (w' : World) : Prop := ∃ lv', FsAt w' base g b lv' s ∧ Mod (ownS g b lv) w w' ∧ (lv'.ownBlock = lv.ownBlock ∨ ∃ q, lv'.ownBlock = some q ∧ w.heap.size ≤ q)
theorem After.of_op {base g b : Nat} {lv : Value} {w W w' : World} {r : St × Int} {e : Ending} (h : OpPost base g b lv W r e w') (hb : Below w.heap.size w W) : (∃ n : Int, e = .returned (.int .i64 n)) ∧ Hid (After base g b lv w r.1 w') := by
  obtain ⟨lv', he, hF, hM, ho⟩ := h
  refine ⟨⟨_, he⟩, Lib.hid ⟨lv', hF, (Mod.of_below hb).then_ hM (fun i _ e => e), ho.imp id (fun ⟨q, e, hq⟩ => ⟨q, e, Nat.le_trans hb.size hq⟩)⟩⟩
/-- An act, as it is handed over. -/
def actV (a : Ac) (A2 : Option Addr) (c2 : Nat) (A3 : Option Addr) (c3 : Nat) : Array Value := #[.int .i64 a.kind, .int .i64 a.node.f0, .string a.node.f1, .slice A2 a.node.f2.length c2, .int .i64 a.node.f3, .int .i64 a.node.f4, .string a.dest, .slice A3 a.bytes.length c3, .int .i64 a.n, .bool a.ever, .string a.asked]
set_option maxRecDepth 100000 in
set_option maxHeartbeats 8000000 in
theorem call_make (base g b : Nat) (lv : Value) (s : St) (a : Ac) (A2 : Option Addr) (c2 : Nat) (A3 : Option Addr) (c3 : Nat) (w : World) (hk : a.kind = 0)
    (HO : ∀ W, Below w.heap.size w W → Calls Tryd.prog 10 #[.pointer (some ⟨g, 0, none⟩), .agg #[.int .i64 a.node.f0, .string a.node.f1, .slice A2 a.node.f2.length c2, .int .i64 a.node.f3, .int .i64 a.node.f4]] W (OpPost base g b lv W (s.exec (makeP s.M s.cnt s.room a.node)))) :
    Calls Tryd.prog 8 #[.pointer (some ⟨g, 0, none⟩), .agg #[.int .i64 a.kind, .int .i64 a.node.f0, .string a.node.f1, .slice A2 a.node.f2.length c2, .int .i64 a.node.f3, .int .i64 a.node.f4, .string a.dest, .slice A3 a.bytes.length c3, .int .i64 a.n, .bool a.ever, .string a.asked]] w fun e w' => e = .returned (.tuple #[]) ∧ Hid (After base g b lv w (s.call a) w') := by
  have HE := Lib.hid (show s.call a = (s.exec (makeP s.M s.cnt s.room a.node)).1 by unfold St.call planOf; rw [if_pos hk])
  have HO2 := Lib.hid (fun W hb => (HO W hb).mono fun e w' h => After.of_op h hb)
  rw [hk]
  clear HO hk
  go_enter Tryd.func8, Tryd.ntmps8
  go_wp2_with (go_at_call 10; refine (HO2.out _ (balloc (Below.refl _ _) _)).mono ?_; rintro e w1 ⟨⟨n, rfl⟩, HA⟩)
  exact bodyPost_end (v := .tuple #[]) (by simp [results, Tryd.results8, go_sem]) rfl ⟨rfl, by rw [HE.out]; exact HA⟩
set_option maxRecDepth 100000 in
set_option maxHeartbeats 8000000 in
theorem call_write (base g b : Nat) (lv : Value) (s : St) (a : Ac) (A2 : Option Addr) (c2 : Nat) (A3 : Option Addr) (c3 : Nat) (w : World) (hk : a.kind = 1)
    (HO : ∀ W, Below w.heap.size w W → Calls Tryd.prog 11 #[.pointer (some ⟨g, 0, none⟩), .string a.node.f1, .slice A3 a.bytes.length c3] W (OpPost base g b lv W (s.exec (writeP s.M s.cnt s.room a.node.f1 a.bytes)))) :
    Calls Tryd.prog 8 #[.pointer (some ⟨g, 0, none⟩), .agg #[.int .i64 a.kind, .int .i64 a.node.f0, .string a.node.f1, .slice A2 a.node.f2.length c2, .int .i64 a.node.f3, .int .i64 a.node.f4, .string a.dest, .slice A3 a.bytes.length c3, .int .i64 a.n, .bool a.ever, .string a.asked]] w fun e w' => e = .returned (.tuple #[]) ∧ Hid (After base g b lv w (s.call a) w') := by
  have HE := Lib.hid (show s.call a = (s.exec (writeP s.M s.cnt s.room a.node.f1 a.bytes)).1 by unfold St.call planOf; rw [if_neg (by rw [hk]; decide), if_pos hk])
  have HO2 := Lib.hid (fun W hb => (HO W hb).mono fun e w' h => After.of_op h hb)
  rw [hk]
  clear HO hk
  go_enter Tryd.func8, Tryd.ntmps8
  go_wp2_with (go_at_call 11; refine (HO2.out _ (balloc (Below.refl _ _) _)).mono ?_; rintro e w1 ⟨⟨n, rfl⟩, HA⟩)
  exact bodyPost_end (v := .tuple #[]) (by simp [results, Tryd.results8, go_sem]) rfl ⟨rfl, by rw [HE.out]; exact HA⟩
set_option maxRecDepth 100000 in
set_option maxHeartbeats 8000000 in
theorem call_rename (base g b : Nat) (lv : Value) (s : St) (a : Ac) (A2 : Option Addr) (c2 : Nat) (A3 : Option Addr) (c3 : Nat) (w : World) (hk : a.kind = 2)
    (HO : ∀ W, Below w.heap.size w W → Calls Tryd.prog 12 #[.pointer (some ⟨g, 0, none⟩), .string a.node.f1, .string a.dest] W (OpPost base g b lv W (s.exec (renameP s.M s.cnt s.room a.node.f1 a.dest)))) :
    Calls Tryd.prog 8 #[.pointer (some ⟨g, 0, none⟩), .agg #[.int .i64 a.kind, .int .i64 a.node.f0, .string a.node.f1, .slice A2 a.node.f2.length c2, .int .i64 a.node.f3, .int .i64 a.node.f4, .string a.dest, .slice A3 a.bytes.length c3, .int .i64 a.n, .bool a.ever, .string a.asked]] w fun e w' => e = .returned (.tuple #[]) ∧ Hid (After base g b lv w (s.call a) w') := by
  have HE := Lib.hid (show s.call a = (s.exec (renameP s.M s.cnt s.room a.node.f1 a.dest)).1 by unfold St.call planOf; rw [if_neg (by rw [hk]; decide), if_neg (by rw [hk]; decide), if_pos hk])
  have HO2 := Lib.hid (fun W hb => (HO W hb).mono fun e w' h => After.of_op h hb)
  rw [hk]
  clear HO hk
  go_enter Tryd.func8, Tryd.ntmps8
  go_wp2_with (go_at_call 12; refine (HO2.out _ (balloc (Below.refl _ _) _)).mono ?_; rintro e w1 ⟨⟨n, rfl⟩, HA⟩)
  exact bodyPost_end (v := .tuple #[]) (by simp [results, Tryd.results8, go_sem]) rfl ⟨rfl, by rw [HE.out]; exact HA⟩
set_option maxRecDepth 100000 in
set_option maxHeartbeats 8000000 in
theorem call_remove (base g b : Nat) (lv : Value) (s : St) (a : Ac) (A2 : Option Addr) (c2 : Nat) (A3 : Option Addr) (c3 : Nat) (w : World) (hk : a.kind = 3)
    (HO : ∀ W, Below w.heap.size w W → Calls Tryd.prog 13 #[.pointer (some ⟨g, 0, none⟩), .string a.node.f1] W (OpPost base g b lv W (s.exec (removeP s.M s.cnt s.room a.node.f1)))) :
    Calls Tryd.prog 8 #[.pointer (some ⟨g, 0, none⟩), .agg #[.int .i64 a.kind, .int .i64 a.node.f0, .string a.node.f1, .slice A2 a.node.f2.length c2, .int .i64 a.node.f3, .int .i64 a.node.f4, .string a.dest, .slice A3 a.bytes.length c3, .int .i64 a.n, .bool a.ever, .string a.asked]] w fun e w' => e = .returned (.tuple #[]) ∧ Hid (After base g b lv w (s.call a) w') := by
  have HE := Lib.hid (show s.call a = (s.exec (removeP s.M s.cnt s.room a.node.f1)).1 by unfold St.call planOf; rw [if_neg (by rw [hk]; decide), if_neg (by rw [hk]; decide), if_neg (by rw [hk]; decide), if_pos hk])
  have HO2 := Lib.hid (fun W hb => (HO W hb).mono fun e w' h => After.of_op h hb)
  rw [hk]
  clear HO hk
  go_enter Tryd.func8, Tryd.ntmps8
  go_wp2_with (go_at_call 13; refine (HO2.out _ (balloc (Below.refl _ _) _)).mono ?_; rintro e w1 ⟨⟨n, rfl⟩, HA⟩)
  exact bodyPost_end (v := .tuple #[]) (by simp [results, Tryd.results8, go_sem]) rfl ⟨rfl, by rw [HE.out]; exact HA⟩
set_option maxRecDepth 100000 in
set_option maxHeartbeats 8000000 in
theorem call_fail (base g b : Nat) (lv : Value) (s : St) (a : Ac) (A2 : Option Addr) (c2 : Nat) (A3 : Option Addr) (c3 : Nat) (w : World) (hk : a.kind = 4)
    (HO : ∀ W, Below w.heap.size w W → Calls Tryd.prog 16 #[.pointer (some ⟨g, 0, none⟩), .int .i64 a.n, .bool a.ever] W (OpPost base g b lv W (s.fail a.n a.ever))) :
    Calls Tryd.prog 8 #[.pointer (some ⟨g, 0, none⟩), .agg #[.int .i64 a.kind, .int .i64 a.node.f0, .string a.node.f1, .slice A2 a.node.f2.length c2, .int .i64 a.node.f3, .int .i64 a.node.f4, .string a.dest, .slice A3 a.bytes.length c3, .int .i64 a.n, .bool a.ever, .string a.asked]] w fun e w' => e = .returned (.tuple #[]) ∧ Hid (After base g b lv w (s.call a) w') := by
  have HE := Lib.hid (show s.call a = (s.fail a.n a.ever).1 by unfold St.call planOf; rw [if_neg (by rw [hk]; decide), if_neg (by rw [hk]; decide), if_neg (by rw [hk]; decide), if_neg (by rw [hk]; decide)]; dsimp only; rw [if_pos hk])
  have HO2 := Lib.hid (fun W hb => (HO W hb).mono fun e w' h => After.of_op h hb)
  rw [hk]
  clear HO hk
  go_enter Tryd.func8, Tryd.ntmps8
  go_wp2_with (go_at_call 16; refine (HO2.out _ (balloc (Below.refl _ _) _)).mono ?_; rintro e w1 ⟨⟨n, rfl⟩, HA⟩)
  exact bodyPost_end (v := .tuple #[]) (by simp [results, Tryd.results8, go_sem]) rfl ⟨rfl, by rw [HE.out]; exact HA⟩
set_option maxRecDepth 100000 in
set_option maxHeartbeats 8000000 in
theorem call_room (base g b : Nat) (lv : Value) (s : St) (a : Ac) (A2 : Option Addr) (c2 : Nat) (A3 : Option Addr) (c3 : Nat) (w : World) (hk : a.kind = 5)
    (HO : ∀ W, Below w.heap.size w W → Calls Tryd.prog 25 #[.pointer (some ⟨g, 0, none⟩), .int .i64 a.n] W (OpPost base g b lv W (s.setRoom a.n))) :
    Calls Tryd.prog 8 #[.pointer (some ⟨g, 0, none⟩), .agg #[.int .i64 a.kind, .int .i64 a.node.f0, .string a.node.f1, .slice A2 a.node.f2.length c2, .int .i64 a.node.f3, .int .i64 a.node.f4, .string a.dest, .slice A3 a.bytes.length c3, .int .i64 a.n, .bool a.ever, .string a.asked]] w fun e w' => e = .returned (.tuple #[]) ∧ Hid (After base g b lv w (s.call a) w') := by
  have HE := Lib.hid (show s.call a = (s.setRoom a.n).1 by unfold St.call planOf; rw [if_neg (by rw [hk]; decide), if_neg (by rw [hk]; decide), if_neg (by rw [hk]; decide), if_neg (by rw [hk]; decide)]; dsimp only; rw [if_neg (by rw [hk]; decide), if_pos hk])
  have HO2 := Lib.hid (fun W hb => (HO W hb).mono fun e w' h => After.of_op h hb)
  rw [hk]
  clear HO hk
  go_enter Tryd.func8, Tryd.ntmps8
  go_wp2_with (go_at_call 25; refine (HO2.out _ (balloc (Below.refl _ _) _)).mono ?_; rintro e w1 ⟨⟨n, rfl⟩, HA⟩)
  exact bodyPost_end (v := .tuple #[]) (by simp [results, Tryd.results8, go_sem]) rfl ⟨rfl, by rw [HE.out]; exact HA⟩
set_option maxRecDepth 100000 in
set_option maxHeartbeats 8000000 in
theorem call_none (base g b : Nat) (lv : Value) (s : St) (a : Ac) (A2 : Option Addr) (c2 : Nat) (A3 : Option Addr) (c3 : Nat) (w : World) (h : FsAt w base g b lv s) (hk : a.kind < 0 ∨ 5 < a.kind) :
    Calls Tryd.prog 8 #[.pointer (some ⟨g, 0, none⟩), .agg #[.int .i64 a.kind, .int .i64 a.node.f0, .string a.node.f1, .slice A2 a.node.f2.length c2, .int .i64 a.node.f3, .int .i64 a.node.f4, .string a.dest, .slice A3 a.bytes.length c3, .int .i64 a.n, .bool a.ever, .string a.asked]] w fun e w' => e = .returned (.tuple #[]) ∧ Hid (After base g b lv w (s.call a) w') := by
  have HE := Lib.hid (show s.call a = s by unfold St.call planOf; rw [if_neg (by omega), if_neg (by omega), if_neg (by omega), if_neg (by omega)]; dsimp only; rw [if_neg (by omega), if_neg (by omega)])
  have HF := Lib.hid h
  have k0 : (a.kind == 0) = false := beq_eq_false_iff_ne.mpr (by omega)
  have k1 : (a.kind == 1) = false := beq_eq_false_iff_ne.mpr (by omega)
  have k2 : (a.kind == 2) = false := beq_eq_false_iff_ne.mpr (by omega)
  have k3 : (a.kind == 3) = false := beq_eq_false_iff_ne.mpr (by omega)
  have k4 : (a.kind == 4) = false := beq_eq_false_iff_ne.mpr (by omega)
  have k5 : (a.kind == 5) = false := beq_eq_false_iff_ne.mpr (by omega)
  clear h hk
  go_enter Tryd.func8, Tryd.ntmps8
  go_wp2
  exact bodyPost_end (v := .tuple #[]) (by simp [results, Tryd.results8, go_sem]) rfl ⟨rfl, by rw [HE.out]; exact Lib.hid ⟨lv, HF.out.below (balloc (Below.refl _ _) _), Mod.of_below (balloc (Below.refl _ _) _), .inl rfl⟩⟩
end Go.Proofs.YtageofdcloneoaaDoor.Fs
set_option linter.unusedVariables false
set_option linter.unusedSimpArgs false
namespace Go.Proofs.YtageofdcloneoaaDoor.Fs
open Go.RowKit Go.BigFrame Go.Maps Go.Proofs.YtageofdcloneoaaDoor.Reg Go.Proofs.YtageofdcloneoaaDoor.Rout Go.Proofs.YtageofdcloneoaaDoor.Node Go.Proofs.YtageofdcloneoaaDoor.Tree Go.Proofs.YtageofdcloneoaaDoor.Vfs Go.Proofs.YtageofdcloneoaaDoorW.PrintWords Go.Proofs.YtageofdcloneoaaDoorW.PrintLast Go.Proofs.YtageofdcloneoaaDoorW.PrintMore
/-- What the walks ask of a map. -/
structure Good (M : NMap) : Prop where
  fine : Fine M
  own : ∀ p x, M p = some x → x.f1 = p
  up : Up M
/-- An act of the reach. -/
structure AcOk (a : Ac) : Prop where
  node : Ok a.node
  dest : a.dest.size ≤ 140737488351232
  bytes : a.bytes.length ≤ 140737488351232
  n : a.n ≤ 9223372036854775807
theorem call_calls (base g b : Nat) (lv : Value) (s : St) (a : Ac) (A2 : Option Addr) (c2 : Nat) (A3 : Option Addr) (c3 : Nat) (w : World) (h : FsAt w base g b lv s) (hG : Good s.M) (hA : AcOk a)
    (hC2 : ∀ W, Mod (ownS g b lv) w W → (Kd.int .u8).C W A2 a.node.f2.length a.node.f2) (hl2 : a.node.f2.length ≤ c2) (hC3 : ∀ W, Mod (ownS g b lv) w W → (Kd.int .u8).C W A3 a.bytes.length a.bytes) (hlog : (s.log.length + 1) * 64 ≤ 140737488355328) :
    Calls Tryd.prog 8 #[.pointer (some ⟨g, 0, none⟩), .agg #[.int .i64 a.kind, .int .i64 a.node.f0, .string a.node.f1, .slice A2 a.node.f2.length c2, .int .i64 a.node.f3, .int .i64 a.node.f4, .string a.dest, .slice A3 a.bytes.length c3, .int .i64 a.n, .bool a.ever, .string a.asked]] w fun e w' => e = .returned (.tuple #[]) ∧ Hid (After base g b lv w (s.call a) w') := by
  have hm : ∀ W, Below w.heap.size w W → ∀ W', Mod (ownS g b lv) W W' → Mod (ownS g b lv) w W' := fun W hb W' h => (Mod.of_below hb).then_ h (fun i _ e => e)
  have hps := hA.node.ps
  by_cases k0 : a.kind = 0
  · exact call_make base g b lv s a A2 c2 A3 c3 w k0 (fun W hb => make_calls base g b lv s a.node A2 c2 W (h.below hb) (fun W' h' => hC2 W' (hm W hb W' h')) hl2 hA.node hG.fine hlog)
  by_cases k1 : a.kind = 1
  · exact call_write base g b lv s a A2 c2 A3 c3 w k1 (fun W hb => write_calls base g b lv s a.node.f1 a.bytes A3 c3 W (h.below hb) (fun W' h' => hC3 W' (hm W hb W' h')) (by omega) hA.bytes hG.fine hG.own hlog)
  by_cases k2 : a.kind = 2
  · exact call_rename base g b lv s a A2 c2 A3 c3 w k2 (fun W hb => rename_calls base g b lv s a.node.f1 a.dest W (h.below hb) (by omega) hA.dest hG.fine hG.own hG.up hlog)
  by_cases k3 : a.kind = 3
  · exact call_remove base g b lv s a A2 c2 A3 c3 w k3 (fun W hb => remove_calls base g b lv s a.node.f1 W (h.below hb) (by omega) hG.fine hlog)
  by_cases k4 : a.kind = 4
  · exact call_fail base g b lv s a A2 c2 A3 c3 w k4 (fun W hb => fail_calls base g b lv s a.n a.ever W (h.below hb) hA.n)
  by_cases k5 : a.kind = 5
  · exact call_room base g b lv s a A2 c2 A3 c3 w k5 (fun W hb => room_calls base g b lv s a.n W (h.below hb) hA.n)
  · exact call_none base g b lv s a A2 c2 A3 c3 w h (by omega)
end Go.Proofs.YtageofdcloneoaaDoor.Fs
