/- FsCl, FsFa, FsRp, FsRq, FsRowTwo put together. -/
import Derived.Test.YtageofdcloneoaaDoorMFsH
import Derived.Test.YtageofdcloneoaaDoorMFsP
import Derived.Test.YtageofdcloneoaaDoorFsShelf
import Derived.Deep.DeepCutAuto
import Derived.Deep.RegionHeld3
import Derived.Test.YtageofdcloneoaaDoorMFsJ
import Derived.Test.YtageofdcloneoaaDoorMTreeO
import Derived.Test.YtageofdcloneoaaDoorMFsRow
set_option linter.unusedVariables false
set_option linter.unusedSimpArgs false
namespace Go.Proofs.YtageofdcloneoaaDoor.Fs
open Go.RowKit Go.BigFrame Go.Maps Go.Proofs.YtageofdcloneoaaDoor.Reg Go.Proofs.YtageofdcloneoaaDoor.Rout Go.Proofs.YtageofdcloneoaaDoor.Node Go.Proofs.YtageofdcloneoaaDoor.Tree Go.Proofs.YtageofdcloneoaaDoor.Vfs Go.Proofs.YtageofdcloneoaaDoorW.PrintWords Go.Proofs.YtageofdcloneoaaDoorW.PrintLast Go.Proofs.YtageofdcloneoaaDoorW.PrintMore
attribute [local go_sem ↓] Go.wp_at_zero Go.wp_at_succ
theorem cloneC_nil (w : World) : Calls Tryd.prog 27 #[.slice none 0 0] w fun e w' => e = .returned (.slice none 0 0) ∧ w' = w := by
  have heq : ∀ W : World, (binOp .eql 36 (.slice none 0 0) (.slice none 0 0)).run Tryd.prog W = .ok (.bool true) W := fun W => Lib.run_eql_slice_nil W _ _ none _ _ _ _ Tryd.underlying36
  go_enter Tryd.func27, Tryd.ntmps27
  go_wp2
  go_ret
  exact ⟨rfl, rfl⟩
/-- What Clone hands back. -/
def CloneAt (w : World) (base : Nat) (s : St) (w' : World) (g2 : Nat) : Prop := ∃ b2, FsAt w' base g2 b2 (.slice none 0 0) s ∧ w.heap.size ≤ g2 ∧ w.heap.size ≤ b2
set_option maxRecDepth 100000 in
set_option maxHeartbeats 4000000 in
theorem clone_calls (base g b : Nat) (s : St) (w : World) (h : FsAt w base g b (.slice none 0 0) s) (hl : s.log = []) :
    Calls Tryd.prog 15 #[.pointer (some ⟨g, 0, none⟩)] w fun e w' => ∃ g2, e = .returned (.pointer (some ⟨g2, 0, none⟩)) ∧ Hid (CloneAt w base s w' g2) ∧ Hid (Below w.heap.size w w') := by
  have HN := Lib.hid (none_calls g b w h.c0)
  have HH := Lib.hid h
  have c0 := h.c0
  have c1 := h.c1
  have c2 := h.c2
  have c3 := h.c3
  have c4 := h.c4
  have c5 := h.c5
  have hgl := h.glt
  have hgb := h.gb
  have HBX := Lib.hid (balloc (Below.refl w.heap.size w) (.cells (fsCells b (.slice none 0 0) s) 56))
  have HG2 := Lib.hid (heap_alloc_new w (.cells (fsCells b (.slice none 0 0) s) 56))
  have HM := Lib.hid (fun W (hb : Below w.heap.size w W) (hk : W.heap[w.heap.size]? = some (.cells (fsCells b (.slice none 0 0) s) 56 (0, 0))) => show Calls Tryd.prog 37 #[.map (some b)] W fun e w' => ∃ b2, e = .returned (.map (some b2)) ∧ (w'.cell? ⟨g, 0, none⟩ = some (.map (some b)) ∧ w'.cell? ⟨g, 1, none⟩ = some (.slice none 0 0)) ∧ (w'.cell? ⟨w.heap.size, 0, none⟩ = some (.map (some b)) ∧ w'.cell? ⟨w.heap.size, 1, none⟩ = some (.slice none 0 0) ∧ (∀ i, w'.frozen? ⟨w.heap.size, i, none⟩ = false)) ∧ Hid (w.heap.size < b2 ∧ (∃ D, ownN w' b2 s.cnt D ∧ Maps.size D = s.cnt ∧ Says D w' base (fun _ => True) s.M)) ∧ Hid (Below w.heap.size w w') ∧ Hid (w'.heap[w.heap.size]? = some (.cells (fsCells b (.slice none 0 0) s) 56 (0, 0))) from by
    have h1 := HH.out.below hb
    obtain ⟨D, q1, q2, q3⟩ := h1.map
    have hlt : w.heap.size < W.heap.size := (Array.getElem?_eq_some_iff.1 hk).1
    refine (Go.Proofs.AnyW.maps_Clone_owns Tryd.laysCloneM 9 rawR b s.cnt D W q1).mono fun e w' ⟨he, hw1, hw2, hb2⟩ => ?_
    have hk2 := (hb2.block _ hlt).trans hk
    refine ⟨W.heap.size, he, ⟨(h1.below hb2).c0, (h1.below hb2).c1⟩, ⟨by simp [World.cell?, hk2, fsCells], by simp [World.cell?, hk2, fsCells], fun i => frozen_of_row _ _ i _ _ hk2⟩, Lib.hid ⟨hlt, D, hw1, q2, says_moved q3 (BMove.below hb2)⟩, Lib.hid (bgo hb hb2), Lib.hid hk2⟩)
  have HCN := Lib.hid (fun W => cloneC_nil W)
  have hne : w.heap.size ≠ g := by omega
  have hne2 : g ≠ w.heap.size := by omega
  clear h
  go_enter Tryd.func15, Tryd.ntmps15
  go_upto_region 4 with (go_at_call 26; refine HN.out.mono ?_; rintro e w' ⟨rfl, rfl⟩)
  refine wp_world ?_
  intro w3 hw3
  have hw3' : w3 = w.alloc (.cells (fsCells b (.slice none 0 0) s) 56) := hw3
  rw [← hw3'] at HBX HG2
  clear hw3 hw3'
  have d0 := bkeep HBX.out c0
  have d1 := bkeep HBX.out c1
  have e0 : w3.cell? ⟨w.heap.size, 0, none⟩ = some (.map (some b)) := by simp [World.cell?, HG2.out, fsCells]
  have e1 : w3.cell? ⟨w.heap.size, 1, none⟩ = some (.slice none 0 0) := by simp [World.cell?, HG2.out, fsCells]
  have e2 : ∀ i, w3.frozen? ⟨w.heap.size, i, none⟩ = false := fun i => frozen_of_row _ _ i _ _ HG2.out
  clear c0 c1 c2 c3 c4 c5 HN
  have HFIN := Lib.hid (fun (W : World) (b2 : Nat) (hB : w.heap.size < b2 ∧ (∃ D, ownN W b2 s.cnt D ∧ Maps.size D = s.cnt ∧ Says D W base (fun _ => True) s.M)) (hb : Below w.heap.size w W) (hk : W.heap[w.heap.size]? = some (.cells (fsCells b (.slice none 0 0) s) 56 (0, 0))) => show Hid (CloneAt w base s ((W.setCell ⟨w.heap.size, 0, none⟩ (.map (some b2))).setCell ⟨w.heap.size, 1, none⟩ (.slice none 0 0)) w.heap.size) ∧ Hid (Below w.heap.size w ((W.setCell ⟨w.heap.size, 0, none⟩ (.map (some b2))).setCell ⟨w.heap.size, 1, none⟩ (.slice none 0 0))) from by
    have hm1 : Mod (fun k => k = w.heap.size) W (W.setCell ⟨w.heap.size, 0, none⟩ (.map (some b2))) := Mod.of_setCell W _ _ rfl
    have hh1 : (W.setCell ⟨w.heap.size, 0, none⟩ (.map (some b2))).heap[w.heap.size]? = some (.cells (fsCells b2 (.slice none 0 0) s) 56 (0, 0)) := by
      rw [heap_setCell_same W w.heap.size 0 _ _ _ hk]
      rfl
    have hm2 : Mod (fun k => k = w.heap.size) _ ((W.setCell ⟨w.heap.size, 0, none⟩ (.map (some b2))).setCell ⟨w.heap.size, 1, none⟩ (.slice none 0 0)) := Mod.of_setCell _ _ _ rfl
    have hm := hm1.trans hm2
    have hbm : BMove W ((W.setCell ⟨w.heap.size, 0, none⟩ (.map (some b2))).setCell ⟨w.heap.size, 1, none⟩ (.slice none 0 0)) := hm.bmove (fun j hj cells he => by subst hj; rw [hk] at he; cases he)
    refine ⟨Lib.hid ⟨b2, ⟨?_, ?_, by rw [hl]; exact Kd.R_nil _ _ _ _ _, by have := HH.out.glt; have := HH.out.gb; omega, by have := HH.out.glt; have := HH.out.gb; omega, HH.out.cntB, HH.out.due, HH.out.room⟩, Nat.le_refl _, by omega⟩, Lib.hid (hm.below hb (fun i hi => by omega))⟩
    · rw [heap_setCell_same _ w.heap.size 1 _ _ _ hh1]
      rfl
    · obtain ⟨hlt, D, ⟨es, clock, q1, q2⟩, q3, q4⟩ := hB
      have hb2 : b2 < W.heap.size := (Array.getElem?_eq_some_iff.1 q1).1
      exact ⟨D, ⟨es, clock, (hm.block b2 hb2 (fun e => by omega)).trans q1, q2⟩, q3, says_moved q4 hbm⟩)
  go_cut [3] (fun v wc => v = .pointer (some ⟨w.heap.size, 0, none⟩) ∧ Hid (CloneAt w base s wc w.heap.size) ∧ Hid (Below w.heap.size w wc))
  case first =>
    go_region_held3 (fun w' => w'.cell? ⟨g, 0, none⟩ = some (.map (some b)) ∧ w'.cell? ⟨g, 1, none⟩ = some (.slice none 0 0)) (go_keep) (first | (go_at_call 37; refine (HM.out _ (bdrew HBX.out) HG2.out).mono ?_; rintro e w4 ⟨b2, rfl, ⟨f0, f1⟩, ⟨f2, f3, f4⟩, HB2, HBB, HK4⟩) | (go_at_call 27; refine (HCN.out _).mono ?_; rintro e w5 ⟨rfl, rfl⟩))
    all_goals
      go_wp2_with fail
      go_meet
      exact ⟨rfl, HFIN.out _ b2 HB2.out HBB.out HK4.out⟩
  case rest =>
    obtain ⟨rfl, HCl, HBc⟩ := hcut
    go_wp2
    go_ret
    exact ⟨_, rfl, HCl, HBc⟩
end Go.Proofs.YtageofdcloneoaaDoor.Fs
set_option linter.unusedVariables false
set_option linter.unusedSimpArgs false
namespace Go.Proofs.YtageofdcloneoaaDoor.Fs
open Go.RowKit Go.BigFrame Go.Maps Go.Proofs.YtageofdcloneoaaDoor.Reg Go.Proofs.YtageofdcloneoaaDoor.Rout Go.Proofs.YtageofdcloneoaaDoor.Node Go.Proofs.YtageofdcloneoaaDoor.Tree Go.Proofs.YtageofdcloneoaaDoor.Vfs Go.Proofs.YtageofdcloneoaaDoorW.PrintWords Go.Proofs.YtageofdcloneoaaDoorW.PrintLast Go.Proofs.YtageofdcloneoaaDoorW.PrintMore
attribute [local go_sem ↓] Go.wp_at_zero Go.wp_at_succ
/-! ### plain -/
/-- One with a fault due behind n changes, and one without. -/
structure Rel (n : Nat) (s o : St) : Prop where
  M : o.M = s.M
  cnt : o.cnt = s.cnt
  room : o.room = s.room
  log : o.log = s.log
  odue : o.due = 0
  oover : o.over = false
  len : s.log.length ≤ n
  due : (s.over = false ∧ s.due = (n : Int) + 1 - s.log.length ∧ s.ever = true) ∨ (s.over = true ∧ s.log.length = n)
theorem rel_start (l : List Nd) (n : Nat) : Rel n ((newSt l).fail ((n : Int) + 1) true).1 (newSt l) := by
  have e : ((newSt l).fail ((n : Int) + 1) true).1 = { newSt l with due := (n : Int) + 1, ever := true, over := false } := by unfold St.fail; rw [if_neg (by omega)]
  rw [e]
  refine ⟨rfl, rfl, rfl, rfl, rfl, rfl, Nat.zero_le _, .inl ⟨rfl, ?_, rfl⟩⟩
  show (n : Int) + 1 = (n : Int) + 1 - ((0 : Nat) : Int)
  omega
theorem Rel.step {n : Nat} {s o : St} (h : Rel n s o) (a : Ac) (h4 : a.kind ≠ 4) (h5 : a.kind ≠ 5) : (s.log.length < n → Rel n (s.call a) (o.call a)) ∧ (¬ s.log.length < n → Rel n (s.call a) o) := by
  have hpo : planOf o.M o.cnt o.room a = planOf s.M s.cnt s.room a := by rw [h.M, h.cnt, h.room]
  have hd := h.due
  unfold St.call
  rw [hpo]
  cases hpl : planOf s.M s.cnt s.room a with
  | none =>
    dsimp only
    rw [if_neg h4, if_neg h5, if_neg h4, if_neg h5]
    exact ⟨fun _ => h, fun _ => h⟩
  | some p =>
    dsimp only
    cases p with
    | inl e => exact ⟨fun _ => h, fun _ => h⟩
    | inr p =>
      obtain ⟨c, M', m, r⟩ := p
      constructor
      · intro hlt
        rcases hd with ⟨d1, d2, d3⟩ | ⟨_, d2⟩
        · have hf : s.fault = ({ s with due := s.due - 1, over := decide (s.due - 1 = 0) && s.ever }, decide (s.due - 1 = 0)) := by unfold St.fault; rw [if_neg (fun e => e.elim (by rw [d1]; simp) (by omega))]
          have hz : decide (s.due - 1 = 0) = false := decide_eq_false (by omega)
          have hf2 : s.fault.2 = false := by rw [hf, hz]
          have hfo : o.fault = (o, false) := by unfold St.fault; rw [if_pos (.inr h.odue), h.oover]
          rw [exec_ok s c M' m r hf2, exec_ok o c M' m r (by rw [hfo]), hf, hfo, hz]
          refine ⟨rfl, rfl, rfl, by show o.log ++ [c] = s.log ++ [c]; rw [h.log], h.odue, h.oover, by show (s.log ++ [c]).length ≤ n; rw [List.length_append]; simp; omega, .inl ⟨rfl, ?_, d3⟩⟩
          show s.due - 1 = (n : Int) + 1 - ((s.log ++ [c]).length : Nat)
          rw [List.length_append]
          simp
          omega
        · omega
      · intro hge
        have hlen : s.log.length = n := by have := h.len; omega
        rcases hd with ⟨d1, d2, d3⟩ | ⟨d1, d2⟩
        · have hf : s.fault = ({ s with due := s.due - 1, over := decide (s.due - 1 = 0) && s.ever }, decide (s.due - 1 = 0)) := by unfold St.fault; rw [if_neg (fun e => e.elim (by rw [d1]; simp) (by omega))]
          have hz : decide (s.due - 1 = 0) = true := decide_eq_true (by omega)
          have hf2 : s.fault.2 = true := by rw [hf, hz]
          rw [exec_bad s c M' m r hf2, hf, hz, d3]
          exact ⟨h.M, h.cnt, h.room, h.log, h.odue, h.oover, h.len, .inr ⟨rfl, hlen⟩⟩
        · have hf : s.fault = (s, true) := by unfold St.fault; rw [if_pos (.inl d1), d1]
          rw [exec_bad s c M' m r (by rw [hf]), hf]
          exact h
/-- What the walks ask of a state, of whatever log. -/
structure Fit (s : St) (n : Nat) : Prop where
  wf : WF s.M
  by_ : By s.M
  len : s.log.length ≤ n
  data : ∀ c ∈ s.log, c.data.length ≤ 268435456
theorem Fit.call {s : St} {n : Nat} (h : Fit s n) (a : Ac) (hn : ∀ b ∈ a.node.f2, 0 ≤ b ∧ b ≤ 255) (hb : ∀ b ∈ a.bytes, 0 ≤ b ∧ b ≤ 255) : Fit (s.call a) (n + 1) := by
  refine ⟨call_wf s h.wf a, call_by s h.wf h.by_ a hn hb, ?_, ?_⟩
  · rcases call_cases s h.wf a with ⟨_, _, e⟩ | ⟨c, M', m, r, _, _, _, e⟩
    · rw [e]; have := h.len; omega
    · rw [e]; show (s.log ++ [c]).length ≤ n + 1; rw [List.length_append]; have := h.len; simp; omega
  · rcases call_cases s h.wf a with ⟨_, _, e⟩ | ⟨c, M', m, r, _, _, hs, e⟩
    · rw [e]; exact h.data
    · rw [e]
      intro d hd
      rcases List.mem_append.1 hd with hd | hd
      · exact h.data d hd
      · rw [List.mem_singleton.1 hd]; exact (hs.sizes h.wf).2.2
theorem Fit.mono {s : St} {n m : Nat} (h : Fit s n) (hm : n ≤ m) : Fit s m := ⟨h.wf, h.by_, Nat.le_trans h.len hm, h.data⟩
theorem fit_new (l : List Nd) (hok : ∀ x ∈ l, Ok x) (hb : (chk l).2 = 0) : Fit (newSt l) 0 := ⟨wf_tree l (tree_is l hb), by_tree l hok, Nat.le_refl _, fun c hc => by cases hc⟩
/-! ### two file systems side by side -/
def TwoAt (w : World) (base g b g2 b2 : Nat) (s o : St) : Prop := ∃ lv lv2, FsAt w base g b lv s ∧ FsAt w base g2 b2 lv2 o ∧ ∀ i, ownS g2 b2 lv2 i → ¬ ownS g b lv i
theorem TwoAt.swap {w : World} {base g b g2 b2 : Nat} {s o : St} (h : TwoAt w base g b g2 b2 s o) : TwoAt w base g2 b2 g b o s := by
  obtain ⟨lv, lv2, h1, h2, h3⟩ := h
  exact ⟨lv2, lv, h2, h1, fun i h4 h5 => h3 i h5 h4⟩
theorem TwoAt.below {w w' : World} {base g b g2 b2 : Nat} {s o : St} (h : TwoAt w base g b g2 b2 s o) (hb : Below w.heap.size w w') : TwoAt w' base g b g2 b2 s o := by
  obtain ⟨lv, lv2, h1, h2, h3⟩ := h
  exact ⟨lv, lv2, h1.below hb, h2.below hb, h3⟩
/-- One of them is changed. -/
theorem TwoAt.one {w w' : World} {base g b g2 b2 : Nat} {s o s' : St} {lv lv2 : Value} (h1 : FsAt w base g b lv s) (h2 : FsAt w base g2 b2 lv2 o) (h3 : ∀ i, ownS g2 b2 lv2 i → ¬ ownS g b lv i) (ha : After base g b lv w s' w') : TwoAt w' base g b g2 b2 s' o := by
  obtain ⟨lv', hF, hM, ho⟩ := ha
  refine ⟨lv', lv2, hF, h2.kept hM (h1.bmove hM) h3, fun i hi hj => ?_⟩
  have hlt : i < w.heap.size := by
    rcases hi with e | e | e
    · rw [e]; exact h2.glt
    · rw [e]; exact h2.blt
    · exact (h2.logT i e).1
  rcases hj with e | e | e
  · exact h3 i hi (.inl e)
  · exact h3 i hi (.inr (.inl e))
  · rcases ho with q | ⟨q, hq, hle⟩
    · rw [q] at e; exact h3 i hi (.inr (.inr e))
    · rw [hq] at e; injection e with e; omega
/-- A call on the first. -/
theorem callK (w0 : World) (base g b g2 b2 : Nat) (s o : St) (n : Nat) (a : Ac) (A2 : Option Addr) (c2 : Nat) (A3 : Option Addr) (c3 : Nat) (w : World) (h : TwoAt w base g b g2 b2 s o) (hF : Fit s n) (hn : n ≤ 1099511627776) (hA : AcAt w0 a A2 c2 A3 c3) (hbs : w0.heap.size ≤ base) (hb : Below w0.heap.size w0 w) :
    Calls Tryd.prog 8 #[.pointer (some ⟨g, 0, none⟩), .agg #[.int .i64 a.kind, .int .i64 a.node.f0, .string a.node.f1, .slice A2 a.node.f2.length c2, .int .i64 a.node.f3, .int .i64 a.node.f4, .string a.dest, .slice A3 a.bytes.length c3, .int .i64 a.n, .bool a.ever, .string a.asked]] w fun e w' => e = .returned (.tuple #[]) ∧ Hid (TwoAt w' base g b g2 b2 (s.call a) o) ∧ Hid (Below w0.heap.size w0 w') := by
  obtain ⟨lv, lv2, h1, h2, h3⟩ := h
  have hlen := hF.len
  refine (call_calls base g b lv s a A2 c2 A3 c3 w h1 (wf_good hF.wf) hA.ok (fun W' hm => Kd.C_below hA.C2 (hm.below hb (fun i hi => Nat.le_trans hbs (h1.ownB i hi)))) hA.l2 (fun W' hm => Kd.C_below hA.C3 (hm.below hb (fun i hi => Nat.le_trans hbs (h1.ownB i hi)))) (by omega)).mono fun e w' ⟨he, ha⟩ => ?_
  exact ⟨he, Lib.hid (TwoAt.one h1 h2 h3 ha.out), Lib.hid (by
    obtain ⟨lv', _, hM, _⟩ := ha.out
    exact hM.below hb (fun i hi => Nat.le_trans hbs (h1.ownB i hi)))⟩
/-- Log of the first. -/
theorem logT (base g b g2 b2 : Nat) (s o : St) (n : Nat) (m : Nat) (hm : s.log.length = m) (W : World) (h : TwoAt W base g b g2 b2 s o) (hF : Fit s n) (hn : n ≤ 1099511627776) :
    Calls Tryd.prog 9 #[.pointer (some ⟨g, 0, none⟩)] W fun e w' => ∃ (A : Option Addr) (c : Nat), e = .returned (.slice A m c) ∧ Hid (Below W.heap.size W w') := by
  obtain ⟨lv, lv2, h1, _, _⟩ := h
  have hlen := hF.len
  refine (log_calls base g b lv s W h1 (by omega) (fun c hc => by have := hF.data c hc; omega)).mono fun e w' ⟨v, he, hR, hb⟩ => ?_
  obtain ⟨A, c, rfl, _, _⟩ := Kd.R_reads hR
  rw [hm] at he
  exact ⟨A, c, he, Lib.hid hb⟩
/-- Tree of the first. -/
theorem treeT (base g b g2 b2 : Nat) (s o : St) (n : Nat) (W : World) (h : TwoAt W base g b g2 b2 s o) (hF : Fit s n) :
    Calls Tryd.prog 14 #[.pointer (some ⟨g, 0, none⟩)] W fun e w' => ∃ (A : Option Addr) (c : Nat) (l : List Nd), e = .returned (.slice A l.length c) ∧ Hid (TreeOf s.M l) ∧ l.length ≤ 65536 ∧ Hid (kN.R 33 w' W.heap.size (fun _ => True) (.slice A l.length c) l) ∧ Hid (Below W.heap.size W w') := by
  obtain ⟨lv, lv2, h1, _, _⟩ := h
  exact treeK base g b lv s hF.wf W h1
/-! ### the walk -/
/-- An act of a row, cell by cell, in all worlds above. -/
theorem ActsAt.get {w : World} {A : Option Addr} {acts : List Ac} (h : ActsAt w A acts) (k : Nat) (hk : k < acts.length) : ∃ (ad : Addr) (a : Ac) (A2 : Option Addr) (c2 : Nat) (A3 : Option Addr) (c3 : Nat), A = some ad ∧ a ∈ acts ∧ acts[k]? = some a ∧ AcAt w a A2 c2 A3 c3 ∧
    ∀ W, Below w.heap.size w W → W.cell? (ad.add (k * 11)) = some (.int .i64 a.kind) ∧ W.cell? ⟨(ad.add (k * 11)).block, (ad.add (k * 11)).off + 1, none⟩ = some (.int .i64 a.node.f0) ∧ W.cell? ⟨(ad.add (k * 11)).block, (ad.add (k * 11)).off + 2, none⟩ = some (.string a.node.f1) ∧ W.cell? ⟨(ad.add (k * 11)).block, (ad.add (k * 11)).off + 3, none⟩ = some (.slice A2 a.node.f2.length c2) ∧ W.cell? ⟨(ad.add (k * 11)).block, (ad.add (k * 11)).off + 4, none⟩ = some (.int .i64 a.node.f3) ∧ W.cell? ⟨(ad.add (k * 11)).block, (ad.add (k * 11)).off + 5, none⟩ = some (.int .i64 a.node.f4) ∧ W.cell? ⟨(ad.add (k * 11)).block, (ad.add (k * 11)).off + 6, none⟩ = some (.string a.dest) ∧ W.cell? ⟨(ad.add (k * 11)).block, (ad.add (k * 11)).off + 7, none⟩ = some (.slice A3 a.bytes.length c3) ∧ W.cell? ⟨(ad.add (k * 11)).block, (ad.add (k * 11)).off + 8, none⟩ = some (.int .i64 a.n) ∧ W.cell? ⟨(ad.add (k * 11)).block, (ad.add (k * 11)).off + 9, none⟩ = some (.bool a.ever) ∧ W.cell? ⟨(ad.add (k * 11)).block, (ad.add (k * 11)).off + 10, none⟩ = some (.string a.asked) := by
  obtain ⟨ad, e, hj⟩ := h (by omega)
  have ha : acts[k]? = some acts[k] := List.getElem?_eq_getElem hk
  obtain ⟨A2, c2, A3, c3, h1, h2⟩ := hj k _ ha
  generalize acts[k] = a at *
  have f : ∀ i u, (actV a A2 c2 A3 c3)[i]? = some u → w.cell? (ad.add (k * 11 + i)) = some u := h2
  have q : ∀ i u, 0 < i → (actV a A2 c2 A3 c3)[i]? = some u → w.cell? ⟨(ad.add (k * 11)).block, (ad.add (k * 11)).off + i, none⟩ = some u := fun i u h0 hu => by
    rw [← add_field _ _ i h0]; exact f i u hu
  exact ⟨ad, a, A2, c2, A3, c3, e, List.mem_of_getElem? ha, ha, h1, fun W hb => ⟨bkeep hb (f 0 _ rfl), bkeep hb (q 1 _ (by omega) rfl), bkeep hb (q 2 _ (by omega) rfl), bkeep hb (q 3 _ (by omega) rfl), bkeep hb (q 4 _ (by omega) rfl), bkeep hb (q 5 _ (by omega) rfl), bkeep hb (q 6 _ (by omega) rfl), bkeep hb (q 7 _ (by omega) rfl), bkeep hb (q 8 _ (by omega) rfl), bkeep hb (q 9 _ (by omega) rfl), bkeep hb (q 10 _ (by omega) rfl)⟩⟩
theorem fit_fail (s : St) (n : Int) (ever : Bool) (m : Nat) (h : Fit s m) : Fit (s.fail n ever).1 m := by
  unfold St.fail
  split <;> exact ⟨h.wf, h.by_, h.len, h.data⟩
/-- Fail on the first. -/
theorem failK (w0 : World) (base g b g2 b2 : Nat) (s o : St) (n : Nat) (hn : n ≤ 9223372036854775000) (w : World) (lv lv2 : Value) (h1 : FsAt w base g b lv s) (h2 : FsAt w base g2 b2 lv2 o) (h3 : ∀ i, ownS g2 b2 lv2 i → ¬ ownS g b lv i) (hbs : w0.heap.size ≤ base) (hb : Below w0.heap.size w0 w) :
    Calls Tryd.prog 16 #[.pointer (some ⟨g, 0, none⟩), .int .i64 ((n : Int) + 1), .bool true] w fun e w' => e = .returned (.int .i64 0) ∧ Hid (TwoAt w' base g b g2 b2 (s.fail ((n : Int) + 1) true).1 o) ∧ Hid (Below w0.heap.size w0 w') := by
  refine (fail_calls base g b lv s ((n : Int) + 1) true w h1 (by omega)).mono fun e w' h => ?_
  have e0 : (s.fail ((n : Int) + 1) true).2 = 0 := by unfold St.fail; rw [if_neg (by omega)]
  obtain ⟨_, ha⟩ := After.of_op h (Below.refl _ _)
  obtain ⟨lv', he, _, hM, _⟩ := h
  rw [e0] at he
  exact ⟨he, Lib.hid (TwoAt.one h1 h2 h3 ha.out), Lib.hid (hM.below hb (fun i hi => Nat.le_trans hbs (h1.ownB i hi)))⟩
set_option maxRecDepth 100000 in
set_option maxHeartbeats 8000000 in
theorem faults_good (A : Option Addr) (c : Nat) (l : List Nd) (B : Option Addr) (d : Nat) (acts : List Ac) (n : Int) (w : World) (hC : kN.C w A l.length l) (hok : ∀ x ∈ l, Ok x) (hl : l.length ≤ 140737488351232) (hb : (chk l).2 = 0) (hacts : ActsAt w B acts) (haok : ∀ x ∈ acts, AcOk x ∧ ∀ b ∈ x.bytes, 0 ≤ b ∧ b ≤ 255) (hal : acts.length * 144 ≤ 140737488351232) :
    Calls Tryd.prog 4 #[.slice A l.length c, .slice B acts.length d, .int .i64 n] w fun e w' => e = .returned (.bool true) ∧ Below w.heap.size w w' := by
  have HNEW := Lib.hid (new_fs A c l w hC hok hl hb)
  have HFN := Lib.hid (fit_new l hok hb)
  have HAC := Lib.hid hacts
  have HAO := Lib.hid haok
  obtain ⟨h1, h0, N, hN, hN2⟩ : n.tmod 20 < 20 ∧ -20 < n.tmod 20 ∧ ∃ N : Nat, ((n.tmod 20 + 20).tmod 20) = (N : Int) ∧ N < 20 := by
    have h1 := Int.tmod_lt_of_pos n (b := 20) (by decide)
    have h0 := Int.lt_tmod_of_pos n (b := 20) (by decide)
    have h2 := Int.tmod_lt_of_pos (n.tmod 20 + 20) (b := 20) (by decide)
    have h3 := Int.tmod_nonneg (a := n.tmod 20 + 20) 20 (by omega)
    exact ⟨h1, h0, ((n.tmod 20 + 20).tmod 20).toNat, by omega, by omega⟩
  have hR0 := Lib.hid (rel_start l N)
  clear hC hok hl hb hacts haok
  go_enter Tryd.func4, Tryd.ntmps4
  go_upto_region 5 with (go_at_call 6; refine HNEW.out.mono ?_; rintro e w1 ⟨b, rfl, hbb, HF1, hb1⟩)
  clear h1 h0 hN HNEW
  have HCL := Lib.hid (clone_calls w.heap.size (b + 1) b (newSt l) w1 HF1.out rfl)
  have HB1 := Lib.hid hb1
  clear hb1
  go_upto_region 6 with (go_at_call 15; refine HCL.out.mono ?_; rintro e w2 ⟨g2, rfl, HCA, HB12⟩)
  obtain ⟨b2, hF2, hg2, hb2⟩ := HCA.out
  have HB2 := Lib.hid (bgo HB1.out HB12.out)
  have HFL := Lib.hid (failK w w.heap.size (b + 1) b g2 b2 (newSt l) (newSt l) N (by omega) w2 (.slice none 0 0) (.slice none 0 0) (HF1.out.below HB12.out) hF2 (fun i hi hj => by
    have p1 := HF1.out.glt
    have p2 := HF1.out.blt
    rcases hi with e | e | e
    · rcases hj with q | q | q
      · omega
      · omega
      · cases q
    · rcases hj with q | q | q
      · omega
      · omega
      · cases q
    · cases e) (Nat.le_refl _) HB2.out)
  have HFI := Lib.hid (fit_fail (newSt l) ((N : Int) + 1) true 0 HFN.out)
  generalize ((newSt l).fail ((N : Int) + 1) true).1 = s0 at *
  clear hF2 hg2 hb2 HCA HCL HF1 HB1 HB12
  go_upto_region 8 with (go_at_call 16; refine HFL.out.mono ?_; rintro e w3 ⟨rfl, HT3, HB3⟩)
  clear HFL HB2
  go_wp2
  go_loopw [10] (fun i wr => ∃ (k : Nat) (s o : St), i = .int .i64 k ∧ k ≤ acts.length ∧ Hid (TwoAt wr w.heap.size (b + 1) b g2 b2 s o) ∧ Hid (Rel N s o) ∧ Hid (Fit s k) ∧ Hid (Fit o k) ∧ Hid (Below w.heap.size w wr)) (fun i _ => (acts.length - intOf i).toNat)
  case atStart => exact ⟨0, s0, newSt l, rfl, by omega, HT3, hR0, HFI, HFN, HB3⟩
  case round =>
    clear HT3 hR0 HFI HFN HB3
    obtain ⟨k, s, o, rfl, hk, HT, HR, HFS, HFO, HB⟩ := hrel
    by_cases hlt : k < acts.length
    · obtain ⟨ad, a, A2, c2, A3, c3, hB', ham, _, hA, hce⟩ := HAC.out.get k hlt
      subst hB'
      have HCE := Lib.hid hce
      obtain ⟨c0, c1, c2', c3', c4, c5, c6, c7, c8, c9, c10⟩ := hce wr HB.out
      clear hce
      have k0 : (0 : Int) ≤ (k : Int) := by omega
      have k1 : (k : Int) < acts.length := by omega
      by_cases k4 : a.kind = 4
      · have e4 : (a.kind == 4) = true := beq_iff_eq.mpr k4
        clear k4 hA
        go_wp2
        go_roundw
        case rel => exact ⟨k + 1, s, o, by go_num, by omega, HT, HR, Lib.hid (HFS.out.mono (by omega)), Lib.hid (HFO.out.mono (by omega)), HB⟩
        case measure => simp [intOf]; omega
      have e4 : (a.kind == 4) = false := beq_eq_false_iff_ne.mpr k4
      by_cases k5 : a.kind = 5
      · have e5 : (a.kind == 5) = true := beq_iff_eq.mpr k5
        clear k4 k5 hA
        go_wp2
        go_roundw
        case rel => exact ⟨k + 1, s, o, by go_num, by omega, HT, HR, Lib.hid (HFS.out.mono (by omega)), Lib.hid (HFO.out.mono (by omega)), HB⟩
        case measure => simp [intOf]; omega
      have e5 : (a.kind == 5) = false := beq_eq_false_iff_ne.mpr k5
      have HSTEP := Lib.hid (HR.out.step a k4 k5)
      have hao := HAO.out a ham
      have HFS' := Lib.hid (HFS.out.call a hao.1.node.by_ hao.2)
      have HFO' := Lib.hid (HFO.out.call a hao.1.node.by_ hao.2)
      have HAA := Lib.hid hA
      have HCF := Lib.hid (callK w w.heap.size (b + 1) b g2 b2 s o k a A2 c2 A3 c3 wr HT.out HFS.out (by omega) hA (Nat.le_refl _) HB.out)
      obtain ⟨m, hm⟩ : ∃ m, s.log.length = m := ⟨_, rfl⟩
      have HLO := Lib.hid (fun W (h : TwoAt W w.heap.size (b + 1) b g2 b2 (s.call a) o) => logT w.heap.size g2 b2 (b + 1) b o (s.call a) k m (by rw [HR.out.log, hm]) W h.swap HFO.out (by omega))
      clear k4 k5 hao ham hA
      go_upto_region 13 with (go_at_call 8; refine HCF.out.mono ?_; rintro e w4 ⟨rfl, HT4, HB4⟩)
      have HLO4 := Lib.hid (HLO.out w4 HT4.out)
      clear HLO HCF c0 c1 c2' c3' c4 c5 c6 c7 c8 c9 c10
      by_cases hmn : m < N
      · have hmi : (m : Int) < (N : Int) := by omega
        have HR' := Lib.hid (HSTEP.out.1 (by omega))
        clear HSTEP
        go_upto_region 14 with (go_at_call 9; refine HLO4.out.mono ?_; rintro e w5 ⟨A5, c5', rfl, HB45⟩)
        have HB5 := Lib.hid (bgo HB4.out HB45.out)
        obtain ⟨c0, c1, c2', c3', c4, c5, c6, c7, c8, c9, c10⟩ := HCE.out w5 HB5.out
        have HCO := Lib.hid (callK w w.heap.size g2 b2 (b + 1) b o (s.call a) k a A2 c2 A3 c3 w5 (HT4.out.below HB45.out).swap HFO.out (by omega) HAA.out (Nat.le_refl _) HB5.out)
        clear HLO4
        go_wp2_with (go_at_call 8; refine HCO.out.mono ?_; rintro e w6 ⟨rfl, HT6, HB6⟩)
        go_roundw
        case rel => exact ⟨k + 1, s.call a, o.call a, by go_num, by omega, Lib.hid HT6.out.swap, HR', HFS', HFO', HB6⟩
        case measure => simp [intOf]; omega
      · have hmi : ¬ (m : Int) < (N : Int) := by omega
        have HR' := Lib.hid (HSTEP.out.2 (by omega))
        clear HSTEP
        go_wp2_with (go_at_call 9; refine HLO4.out.mono ?_; rintro e w5 ⟨A5, c5', rfl, HB45⟩)
        go_roundw
        case rel => exact ⟨k + 1, s.call a, o, by go_num, by omega, Lib.hid (HT4.out.below HB45.out), HR', HFS', Lib.hid (HFO.out.mono (by omega)), Lib.hid (bgo HB4.out HB45.out)⟩
        case measure => simp [intOf]; omega
    · have hkk : k = acts.length := by omega
      have k1 : ¬ (k : Int) < acts.length := by omega
      have HL1 := Lib.hid HR.out.log
      have hlen := HR.out.len
      obtain ⟨m, hm⟩ : ∃ m, s.log.length = m := ⟨_, rfl⟩
      rw [hm] at hlen
      have hm1 : (m : Int) ≤ (N : Int) := by omega
      have HLF := Lib.hid (fun W (h : Below wr.heap.size wr W) => logT w.heap.size (b + 1) b g2 b2 s o k m hm W (HT.out.below h) HFS.out (by omega))
      have HLO := Lib.hid (fun W (h : Below wr.heap.size wr W) => logT w.heap.size g2 b2 (b + 1) b o s k m (by rw [HR.out.log, hm]) W (HT.out.below h).swap HFO.out (by omega))
      have HTF := Lib.hid (fun W (h : Below wr.heap.size wr W) => treeT w.heap.size (b + 1) b g2 b2 s o k W (HT.out.below h) HFS.out)
      have HTO := Lib.hid (fun W (h : Below wr.heap.size wr W) => treeT w.heap.size g2 b2 (b + 1) b o s k W (HT.out.below h).swap HFO.out)
      have HSM := Lib.hid (fun W W4 (A B : Option Addr) (c d : Nat) (lF lO : List Nd) (base4 base5 : Nat) (h1 : Hid (TreeOf s.M lF)) (h2 : Hid (TreeOf o.M lO)) (h3 : lF.length ≤ 65536) (h4 : lO.length ≤ 65536) (h5 : Hid (kN.R 33 W4 base4 (fun _ => True) (.slice A lF.length c) lF)) (h6 : Hid (kN.R 33 W base5 (fun _ => True) (.slice B lO.length d) lO)) (h7 : Hid (Below W4.heap.size W4 W)) => show Calls Tryd.prog 17 #[.slice A lF.length c, .slice B lO.length d] W fun e w' => e = .returned (.bool true) ∧ Hid (Below W.heap.size W w') from by
        obtain ⟨_, _, e5, _, hC5⟩ := Kd.R_reads h5.out
        injection e5 with e5 _ _
        subst e5
        obtain ⟨_, _, e6, _, hC6⟩ := Kd.R_reads h6.out
        injection e6 with e6 _ _
        subst e6
        have hokF : ∀ x ∈ lF, Ok x := fun x hx => have hM := (treeOf_mem h1.out HFS.out.wf x).1 hx; ok_of HFS.out.wf (HFS.out.by_ _ x hM) hM
        have hokO : ∀ x ∈ lO, Ok x := fun x hx => have hM := (treeOf_mem h2.out HFO.out.wf x).1 hx; ok_of HFO.out.wf (HFO.out.by_ _ x hM) hM
        have h8 := same_calls _ _ c d lF lO W (Kd.C_below hC5 h7.out) hC6 hokF hokO (by omega) (by omega)
        have e8 : lF = lO := treeOf_one h1.out (by rw [← HR.out.M]; exact h2.out)
        have e9 : sameB lF lO = true := by rw [e8]; exact sameB_refl _
        rw [e9] at h8
        exact h8.mono fun e w' ⟨he, hb⟩ => ⟨he, Lib.hid hb⟩)
      clear hlen hm hkk
      go_wp2_with (first
        | (go_at_call 17; with_reducible refine (HSM.out w5 w4 _ _ _ _ _ _ _ _ HTF4 HTO5 hl4 hl5 HRF4 HRO5 HB45).mono ?_; rintro e w6 ⟨rfl, HB56⟩)
        | (go_at_call 14; with_reducible refine (HTO.out w4 (bgo (bgo (bgo HB01.out HB12.out) HB23.out) HB34.out)).mono ?_; rintro e w5 ⟨A5, c5, lO, rfl, HTO5, hl5, HRO5, HB45⟩)
        | (go_at_call 14; with_reducible refine (HTF.out w3 (bgo (bgo HB01.out HB12.out) HB23.out)).mono ?_; rintro e w4 ⟨A4, c4, lF, rfl, HTF4, hl4, HRF4, HB34⟩)
        | (go_at_call 9; with_reducible refine (HLF.out w2 (bgo HB01.out HB12.out)).mono ?_; rintro e w3 ⟨A3, c3, rfl, HB23⟩)
        | (go_at_call 9; with_reducible refine (HLO.out w1' HB01.out).mono ?_; rintro e w2 ⟨A2, c2, rfl, HB12⟩)
        | (go_at_call 9; with_reducible refine (HLF.out wr (Below.refl _ _)).mono ?_; rintro e w1' ⟨A1, c1, rfl, HB01⟩))
      go_ret
      exact ⟨rfl, bgo (bgo HB.out (bgo (bgo (bgo (bgo HB01.out HB12.out) HB23.out) HB34.out) HB45.out)) HB56.out⟩
set_option maxRecDepth 100000 in
set_option maxHeartbeats 4000000 in
theorem faults_calls (A : Option Addr) (c : Nat) (l : List Nd) (B : Option Addr) (d : Nat) (acts : List Ac) (n : Int) (w : World) (hC : kN.C w A l.length l) (hok : ∀ x ∈ l, Ok x) (hl : l.length ≤ 140737488351232) (hacts : ActsAt w B acts) (haok : ∀ x ∈ acts, AcOk x ∧ ∀ b ∈ x.bytes, 0 ≤ b ∧ b ≤ 255) (hal : acts.length * 144 ≤ 140737488351232) :
    Calls Tryd.prog 4 #[.slice A l.length c, .slice B acts.length d, .int .i64 n] w fun e w' => e = .returned (.bool true) ∧ Below w.heap.size w w' := by
  by_cases hb : (chk l).2 = 0
  · exact faults_good A c l B d acts n w hC hok hl hb hacts haok hal
  · have HNEW := Lib.hid (new_bad A c l w hC hok hl hb)
    clear hC hok hacts haok hb
    go_enter Tryd.func4, Tryd.ntmps4
    go_wp2_with (go_at_call 6; refine HNEW.out.mono ?_; rintro e w1 ⟨rfl, hb1⟩)
    go_ret
    exact ⟨ret_bool rfl, hb1⟩
end Go.Proofs.YtageofdcloneoaaDoor.Fs
set_option linter.unusedVariables false
set_option linter.unusedSimpArgs false
namespace Go.Proofs.YtageofdcloneoaaDoor.Fs
open Go.RowKit Go.Maps Go.Proofs.YtageofdcloneoaaDoor.Rout Go.Proofs.YtageofdcloneoaaDoor.Node Go.Proofs.YtageofdcloneoaaDoor.Tree Go.Proofs.YtageofdcloneoaaDoor.Vfs Go.Proofs.YtageofdcloneoaaDoorW.PrintWords
/-- A node but for its mode and its time. -/
def flat (x : Nd) : Int × ByteArray × List Int := (x.f0, x.f1, x.f2)
def Sim (M N : NMap) : Prop := ∀ p, (M p).map flat = (N p).map flat
theorem Sim.refl (M : NMap) : Sim M M := fun _ => rfl
theorem Sim.some {M N : NMap} (h : Sim M N) {p : ByteArray} {x : Nd} (hx : M p = some x) : ∃ y, N p = some y ∧ y.f0 = x.f0 ∧ y.f1 = x.f1 ∧ y.f2 = x.f2 := by
  have h1 := h p
  rw [hx] at h1
  cases hy : N p with
  | none => rw [hy] at h1; cases h1
  | some y =>
    rw [hy] at h1
    simp only [Option.map_some, Option.some.injEq, flat, Prod.mk.injEq] at h1
    exact ⟨y, rfl, h1.1.symm, h1.2.1.symm, h1.2.2.symm⟩
theorem Sim.none {M N : NMap} (h : Sim M N) {p : ByteArray} (hx : M p = none) : N p = none := by
  have h1 := h p
  rw [hx] at h1
  cases hy : N p with
  | none => rfl
  | some y => rw [hy] at h1; cases h1
theorem Sim.iff {M N : NMap} (h : Sim M N) (p : ByteArray) : (N p).isSome = (M p).isSome := by
  cases hx : M p with
  | none => rw [h.none hx]
  | some x => obtain ⟨y, hy, _⟩ := h.some hx; rw [hy]; rfl
theorem Sim.dir {M N : NMap} (h : Sim M N) {p : ByteArray} (hd : ∃ y, M p = Option.some y ∧ y.f0 = 1) : ∃ y, N p = Option.some y ∧ y.f0 = 1 := by
  obtain ⟨y, hy, h0⟩ := hd
  obtain ⟨z, hz, e, _⟩ := h.some hy
  exact ⟨z, hz, by rw [e, h0]⟩
theorem Sim.put {M N : NMap} (h : Sim M N) (x y : Nd) (e0 : y.f0 = x.f0) (e1 : y.f1 = x.f1) (e2 : y.f2 = x.f2) : Sim (putM M x) (putM N y) := fun p => by
  unfold putM
  by_cases e : x.f1 = p
  · rw [if_pos e, if_pos (by rw [e1]; exact e)]
    simp only [Option.map_some, flat, e0, e1, e2]
  · rw [if_neg e, if_neg (by rw [e1]; exact e)]
    exact h p
theorem Sim.del {M N : NMap} (h : Sim M N) (q : ByteArray) : Sim (delM M q) (delM N q) := fun p => by
  unfold delM
  split
  · rfl
  · exact h p
open Classical in
theorem Sim.move {M N : NMap} (h : Sim M N) (a b : ByteArray) : Sim (moveM M a b) (moveM N a b) := fun p => by
  unfold moveM
  rw [h.iff]
  by_cases h1 : inB b p ∧ (M (turnB b a p)).isSome = true
  · rw [if_pos h1, if_pos h1]
    obtain ⟨x, hx⟩ := Option.isSome_iff_exists.1 h1.2
    obtain ⟨y, hy, e0, e1, e2⟩ := h.some hx
    rw [hx, hy]
    simp only [Option.map_some, flat, e0, e2]
  · rw [if_neg h1, if_neg h1]
    split
    · rfl
    · exact h p
/-- The plan of a change of a log, done again. -/
noncomputable def redoP (N : NMap) (cnt : Nat) (room : Int) (c : Chg) : Plan :=
  if c.kind = 4 then writeP N cnt room c.path c.data else if c.kind = 5 then renameP N cnt room c.path c.dest else if c.kind = 6 then removeP N cnt room c.path else makeP N cnt room ⟨c.kind, c.path, c.data, 0, 0⟩
theorem may_kind {x : Nd} (h : mayB x = true) : x.f0 = 1 ∨ x.f0 = 2 ∨ x.f0 = 3 := by
  unfold mayB kindB at h
  by_cases h1 : x.f0 = 1
  · exact .inl h1
  by_cases h2 : x.f0 = 2
  · exact .inr (.inl h2)
  by_cases h3 : x.f0 = 3
  · exact .inr (.inr h3)
  rw [if_neg h1, if_neg h2, if_neg h3] at h
  simp at h
theorem may_zero {x : Nd} (h : mayB x = true) : mayB ⟨x.f0, x.f1, x.f2, 0, 0⟩ = true := by
  have hk : kindB ⟨x.f0, x.f1, x.f2, 0, 0⟩ = kindB x := rfl
  unfold mayB at h ⊢
  simp only [Bool.and_eq_true] at h
  rw [hk, h.2]
  rfl
theorem redo_step {M N M' : NMap} {cnt n : Nat} {c : Chg} (k : Step M cnt c M' n) (hM : WF M) (hN : WF N) (hS : Sim M N) :
    ∃ c' N', redoP N cnt (-1) c = .inr (c', N', n, -1) ∧ Sim M' N' ∧ Step N cnt c' N' n ∧ c'.data = c.data := by
  cases k with
  | make m t hd hv hno hdir hm h2 hc =>
    have hmz := may_zero hm
    have hk := may_kind hm
    have hr := real_is hN hv (fun hp => hS.dir (hdir hp))
    rw [hS.none hno] at hr
    refine ⟨⟨c.kind, c.path, emp, c.data⟩, putM N ⟨c.kind, c.path, c.data, 0, 0⟩, ?_, hS.put _ _ rfl rfl rfl, Step.make ⟨c.kind, c.path, emp, c.data⟩ 0 0 rfl hv (hS.none hno) (fun hp => hS.dir (hdir hp)) hmz h2 hc, rfl⟩
    have hk : c.kind = 1 ∨ c.kind = 2 ∨ c.kind = 3 := hk
    unfold redoP
    rw [if_neg (by omega), if_neg (by omega), if_neg (by omega)]
    unfold makeP
    dsimp only
    rw [if_neg (by rw [hv]; simp), if_neg (by have hmz' : mayB ⟨c.kind, c.path, c.data, 0, 0⟩ = true := hmz
                                              rw [hmz']; simp), if_neg h2, hr]
    dsimp only
    rw [if_neg (by simp), if_neg (by simp), if_neg (by rw [hv]; simp), if_neg hc]
  | write x hk hd hx h1 h3 hl hb =>
    obtain ⟨y, hy, e0, e1, e2⟩ := hS.some hx
    have hr := real_own hN hy
    have hv := hN.valid _ y hy
    refine ⟨⟨4, c.path, emp, c.data⟩, putM N ⟨y.f0, y.f1, y.f2 ++ c.data, y.f3, y.f4⟩, ?_, hS.put _ _ e0 e1 (by rw [e2]), Step.write ⟨4, c.path, emp, c.data⟩ y rfl rfl hy (by rw [e0]; exact h1) (by rw [e0]; exact h3) (by rw [e2]; exact hl) hb, rfl⟩
    unfold redoP
    rw [if_pos hk]
    unfold writeP
    rw [if_neg (by rw [hv]; simp), if_neg hb, hr]
    dsimp only
    rw [if_neg (by simp), if_neg (by rw [e0]; exact h1), if_neg (by rw [e0]; exact h3), if_neg (by rw [e2]; exact hl), if_neg (by omega), if_neg (by omega)]
  | remove hk hd hx hb he =>
    obtain ⟨x, hx⟩ := Option.isSome_iff_exists.1 hx
    obtain ⟨y, hy, e0, e1, e2⟩ := hS.some hx
    have hr := real_own hN hy
    have hb' : ¬ ∃ q, (N q).isSome = true ∧ belowB c.path q = true := fun ⟨q, h1, h2⟩ => hb ⟨q, by rw [← hS.iff]; exact h1, h2⟩
    refine ⟨⟨6, c.path, emp, []⟩, delM N c.path, ?_, hS.del _, Step.remove ⟨6, c.path, emp, []⟩ rfl rfl (by show (N c.path).isSome = true; rw [hy]; rfl) hb' rfl, he.symm⟩
    unfold redoP
    rw [if_neg (by omega), if_neg (by omega), if_pos hk]
    unfold removeP
    rw [hr]
    dsimp only
    rw [if_neg (by simp), if_neg (by simp), if_neg hb']
  | rename hk hx hno hdir hb hv he =>
    have hdv := hv c.path hx (.inl rfl)
    rw [turn_self] at hdv
    obtain ⟨x, hx⟩ := Option.isSome_iff_exists.1 hx
    obtain ⟨y, hy, e0, e1, e2⟩ := hS.some hx
    have hr := real_own hN hy
    have hpv := hN.valid _ y hy
    have hr2 := real_is hN hdv (fun hp => hS.dir (hdir hp))
    rw [hS.none hno] at hr2
    have hv' : ∀ q, (N q).isSome = true → inB c.path q → validB (turnB c.path c.dest q) = true := fun q h1 h2 => hv q (by rw [← hS.iff]; exact h1) h2
    refine ⟨⟨5, c.path, c.dest, []⟩, moveM N c.path c.dest, ?_, hS.move _ _, Step.rename ⟨5, c.path, c.dest, []⟩ rfl (by show (N c.path).isSome = true; rw [hy]; rfl) (hS.none hno) (fun hp => hS.dir (hdir hp)) hb hv' rfl, he.symm⟩
    unfold redoP
    rw [if_neg (by omega), if_pos hk]
    unfold renameP
    rw [if_neg (by rw [hpv, hdv]; simp), hr, hr2]
    dsimp only
    rw [if_neg (by simp), if_neg (by simp), if_neg (by simp), if_neg (by simp), if_neg (by rw [hb]; simp), if_neg (fun ⟨q, h1, h2, h3⟩ => by rw [hv' q h1 h2] at h3; cases h3)]
/-! ### the maps between -/
def Chain (l : List Nd) (s : St) (Ms : Nat → NMap) (ns : Nat → Nat) : Prop :=
  Ms 0 = mapL l ∧ ns 0 = l.length ∧ (∀ j, j < s.log.length → Step (Ms j) (ns j) (rdC s.log (j : Int)) (Ms (j + 1)) (ns (j + 1))) ∧ (∀ j, j ≤ s.log.length → WF (Ms j)) ∧ Ms s.log.length = s.M ∧ ns s.log.length = s.cnt
theorem chain_new (l : List Nd) (hb : (chk l).2 = 0) : Chain l (newSt l) (fun _ => mapL l) (fun _ => l.length) := ⟨rfl, rfl, fun j hj => absurd hj (Nat.not_lt_zero j), fun _ _ => wf_tree l (tree_is l hb), rfl, rfl⟩
theorem rdC_append_left (l : List Chg) (c : Chg) (j : Nat) (h : j < l.length) : rdC (l ++ [c]) (j : Int) = rdC l (j : Int) := by
  unfold rdC
  rw [Int.toNat_natCast, List.getD_eq_getElem?_getD, List.getD_eq_getElem?_getD, List.getElem?_append_left h]
theorem rdC_append_last (l : List Chg) (c : Chg) : rdC (l ++ [c]) (l.length : Int) = c := by
  unfold rdC
  rw [Int.toNat_natCast, List.getD_eq_getElem?_getD, List.getElem?_append_right (Nat.le_refl _)]
  simp
theorem chain_call {l : List Nd} {s : St} {Ms : Nat → NMap} {ns : Nat → Nat} (h : Chain l s Ms ns) (hw : WF s.M) (a : Ac) : ∃ Ms' ns', Chain l (s.call a) Ms' ns' := by
  obtain ⟨h1, h2, h3, h4, h5, h6⟩ := h
  rcases call_cases s hw a with ⟨e1, e2, e3⟩ | ⟨c, M', m, r, _, _, hs, e⟩
  · exact ⟨Ms, ns, h1, h2, by rw [e3]; exact h3, by rw [e3]; exact h4, by rw [e3, e1]; exact h5, by rw [e3, e2]; exact h6⟩
  · have hM : (s.call a).M = M' := by rw [e]
    have hn : (s.call a).cnt = m := by rw [e]
    have hl : (s.call a).log = s.log ++ [c] := by rw [e]
    refine ⟨fun j => if j ≤ s.log.length then Ms j else M', fun j => if j ≤ s.log.length then ns j else m, ?_, ?_, fun j hj => ?_, fun j hj => ?_, ?_, ?_⟩
    · dsimp only; rw [if_pos (Nat.zero_le _)]; exact h1
    · dsimp only; rw [if_pos (Nat.zero_le _)]; exact h2
    · rw [hl, List.length_append] at hj
      simp only [List.length_cons, List.length_nil] at hj
      dsimp only
      rw [hl]
      by_cases hlt : j < s.log.length
      · rw [if_pos (by omega), if_pos (by omega), if_pos (by omega), if_pos (by omega), rdC_append_left _ _ _ hlt]
        exact h3 j hlt
      · obtain rfl : j = s.log.length := by omega
        rw [if_pos (Nat.le_refl s.log.length), if_pos (Nat.le_refl s.log.length), if_neg (Nat.not_succ_le_self s.log.length), if_neg (Nat.not_succ_le_self s.log.length), rdC_append_last, h5, h6]
        exact hs
    · dsimp only
      rw [hl, List.length_append] at hj
      simp only [List.length_cons, List.length_nil] at hj
      by_cases hle : j ≤ s.log.length
      · rw [if_pos hle]; exact h4 j hle
      · rw [if_neg hle]; exact hs.wf hw
    · dsimp only
      rw [hl, List.length_append, if_neg (by simp), hM]
    · dsimp only
      rw [hl, List.length_append, if_neg (by simp), hn]
/-- The bytes of the log are bytes. -/
def LogBy (s : St) : Prop := ∀ c ∈ s.log, ∀ b ∈ c.data, 0 ≤ b ∧ b ≤ 255
theorem logBy_call {s : St} (h : LogBy s) (hw : WF s.M) (a : Ac) (hn : ∀ b ∈ a.node.f2, 0 ≤ b ∧ b ≤ 255) (hb : ∀ b ∈ a.bytes, 0 ≤ b ∧ b ≤ 255) : LogBy (s.call a) := by
  rcases call_cases s hw a with ⟨_, _, e⟩ | ⟨c, M', m, r, hp, _, hs, e⟩
  · unfold LogBy; rw [e]; exact h
  · unfold LogBy
    rw [e]
    intro d hd
    rcases List.mem_append.1 hd with hd | hd
    · exact h d hd
    · rw [List.mem_singleton.1 hd]
      rcases (plan_step hw hp).2.1 with e | e | e
      · rw [e]; exact hn
      · rw [e]; exact hb
      · rw [e]; simp
/-- A state that has done the first j changes again. -/
structure Redone (M : NMap) (n j : Nat) (o : St) : Prop where
  sim : Sim M o.M
  cnt : o.cnt = n
  fit : Fit o j
  due : o.due = 0
  over : o.over = false
  room : o.room = -1
  len : o.log.length = j
theorem redone_new (l : List Nd) (hok : ∀ x ∈ l, Ok x) (hb : (chk l).2 = 0) : Redone (mapL l) l.length 0 (newSt l) := ⟨Sim.refl _, rfl, fit_new l hok hb, rfl, rfl, rfl, rfl⟩
theorem Redone.step {M M' : NMap} {n n' j : Nat} {o : St} {c : Chg} (h : Redone M n j o) (k : Step M n c M' n') (hM : WF M) (hb : ∀ b ∈ c.data, 0 ≤ b ∧ b ≤ 255) :
    (o.exec (redoP o.M o.cnt o.room c)).2 = 0 ∧ Redone M' n' (j + 1) (o.exec (redoP o.M o.cnt o.room c)).1 := by
  obtain ⟨c', N', h1, h2, h3, h4⟩ := redo_step k hM h.fit.wf h.sim
  rw [h.cnt, h.room, h1]
  have hf : o.fault = (o, false) := by unfold St.fault; rw [if_pos (.inr h.due), h.over]
  rw [exec_ok o c' N' n' (-1) (by rw [hf]), hf]
  refine ⟨rfl, h2, rfl, ⟨h3.wf h.fit.wf, h3.by_ h.fit.by_ (by rw [h4]; exact hb), ?_, fun d hd => ?_⟩, h.due, h.over, rfl, ?_⟩
  · show (o.log ++ [c']).length ≤ j + 1
    rw [List.length_append, h.len]
    exact Nat.le_refl _
  · rcases List.mem_append.1 hd with hd | hd
    · exact h.fit.data d hd
    · rw [List.mem_singleton.1 hd]; exact (h3.sizes h.fit.wf).2.2
  · show (o.log ++ [c']).length = j + 1
    rw [List.length_append, h.len]
    rfl
/-- The trees of both, node by node. -/
theorem sim_trees {M N : NMap} (h : Sim M N) (hM : WF M) (hN : WF N) {l m : List Nd} (hl : TreeOf M l) (hm : TreeOf N m) : l.length = m.length ∧ ∀ k, k < l.length → (rdN m (k : Int)).f0 = (rdN l (k : Int)).f0 ∧ (rdN m (k : Int)).f1 = (rdN l (k : Int)).f1 ∧ (rdN m (k : Int)).f2 = (rdN l (k : Int)).f2 := by
  obtain ⟨ps, h1, h2⟩ := hl
  obtain ⟨qs, k1, k2⟩ := hm
  have e : ps = qs := paths_one h1 ⟨k1.up, k1.once, fun q => (k1.mem q).trans (by rw [h.iff])⟩
  subst e
  have hlen : l.length = ps.length := by have := congrArg List.length h2; simpa using this
  have mlen : m.length = ps.length := by have := congrArg List.length k2; simpa using this
  refine ⟨by omega, fun k hk => ?_⟩
  have a1 : (l.map some)[k]? = (ps.map M)[k]? := by rw [h2]
  have a2 : (m.map some)[k]? = (ps.map N)[k]? := by rw [k2]
  have hkp : k < ps.length := by omega
  have hkm : k < m.length := by omega
  rw [List.getElem?_map, List.getElem?_map, List.getElem?_eq_getElem hk, List.getElem?_eq_getElem hkp] at a1
  rw [List.getElem?_map, List.getElem?_map, List.getElem?_eq_getElem hkm, List.getElem?_eq_getElem hkp] at a2
  have b1 : some l[k] = M ps[k] := by simpa using a1
  have b2 : some m[k] = N ps[k] := by simpa using a2
  obtain ⟨y, hy, e0, e1, e2⟩ := h.some b1.symm
  rw [hy] at b2
  injection b2 with b2
  rw [rdN_get l k hk, rdN_get m k hkm, b2]
  exact ⟨e0, e1, e2⟩
end Go.Proofs.YtageofdcloneoaaDoor.Fs
set_option linter.unusedVariables false
set_option linter.unusedSimpArgs false
namespace Go.Proofs.YtageofdcloneoaaDoor.Fs
open Go.RowKit Go.BigFrame Go.Maps Go.Proofs.YtageofdcloneoaaDoor.Reg Go.Proofs.YtageofdcloneoaaDoor.Rout Go.Proofs.YtageofdcloneoaaDoor.Node Go.Proofs.YtageofdcloneoaaDoor.Tree Go.Proofs.YtageofdcloneoaaDoor.Vfs Go.Proofs.YtageofdcloneoaaDoorW.PrintWords Go.Proofs.YtageofdcloneoaaDoorW.PrintLast Go.Proofs.YtageofdcloneoaaDoorW.PrintMore
attribute [local go_sem ↓] Go.wp_at_zero Go.wp_at_succ
theorem R_keep {α : Type} {d : Kd α} {e : Nat} {w w' : World} {base : Nat} {ok : Nat → Prop} {v : Value} {xs : List α} (h : d.R e w base ok v xs) (hk : ∀ k, base ≤ k → k < w.heap.size → w'.heap[k]? = w.heap[k]?) : d.R e w' base ok v xs :=
  Kd.R_mono (Kd.R_move (Kd.R_bound h) (fun k h2 => by
    obtain ⟨_, hb, hlt, _⟩ := h2
    exact hk k hb hlt)) (fun _ hk => hk.1)
theorem FsAt.lower {w : World} {base base' g b : Nat} {lv : Value} {s : St} (h : FsAt w base' g b lv s) (hb : base ≤ base') : FsAt w base g b lv s := by
  refine ⟨h.head, ?_, Kd.R_lower h.log hb, Nat.le_trans hb h.gb, Nat.le_trans hb h.bb, h.cntB, h.due, h.room⟩
  obtain ⟨D, h1, h2, h3⟩ := h.map
  refine ⟨D, h1, h2, fun p => ⟨(h3 p).1, fun x hx => ?_⟩⟩
  obtain ⟨q1, cs, q2, q3⟩ := (h3 p).2 x hx
  obtain ⟨v2, rfl, hR⟩ := kN_openM q3
  exact ⟨q1, _, q2, kN_mkM w base (fun _ => True) x (Kd.R_lower hR hb)⟩
/-- Both of them, while a row between lo and wL stays. -/
def TwoKept (w0 : World) (lo : Nat) (wL wr : World) (base g b g2 b2 : Nat) (s o : St) : Prop := ∃ lv lv2, FsAt wr base g b lv s ∧ FsAt wr base g2 b2 lv2 o ∧ (∀ i, ownS g2 b2 lv2 i → ¬ ownS g b lv i) ∧ (∀ i, ownS g2 b2 lv2 i → i < lo ∨ wL.heap.size ≤ i) ∧ (∀ k, lo ≤ k → k < wL.heap.size → wr.heap[k]? = wL.heap[k]?) ∧ Below w0.heap.size w0 wr ∧ wL.heap.size ≤ wr.heap.size
theorem TwoKept.below {w0 wL wr w' : World} {lo base g b g2 b2 : Nat} {s o : St} (h : TwoKept w0 lo wL wr base g b g2 b2 s o) (hb : Below wr.heap.size wr w') : TwoKept w0 lo wL w' base g b g2 b2 s o := by
  obtain ⟨lv, lv2, h1, h2, h3, h4, h5, h6, h7⟩ := h
  exact ⟨lv, lv2, h1.below hb, h2.below hb, h3, h4, fun k q1 q2 => (hb.block k (by omega)).trans (h5 k q1 q2), bgo h6 hb, Nat.le_trans h7 hb.size⟩
theorem TwoKept.two {w0 wL wr : World} {lo base g b g2 b2 : Nat} {s o : St} (h : TwoKept w0 lo wL wr base g b g2 b2 s o) : TwoAt wr base g b g2 b2 s o := by
  obtain ⟨lv, lv2, h1, h2, h3, _⟩ := h
  exact ⟨lv, lv2, h1, h2, h3⟩
/-- A change is done again on the second. -/
theorem redoK {w0 wL W : World} {lo base g b g2 b2 : Nat} {s o : St} (h : TwoKept w0 lo wL W base g b g2 b2 s o) (hbs : w0.heap.size ≤ base) {f : FuncId} {args : Array Value} {p : Plan} (h0 : (o.exec p).2 = 0)
    (HO : ∀ lv2, FsAt W base g2 b2 lv2 o → Calls Tryd.prog f args W (OpPost base g2 b2 lv2 W (o.exec p))) :
    Calls Tryd.prog f args W fun e w' => e = .returned (.int .i64 0) ∧ Hid (TwoKept w0 lo wL w' base g b g2 b2 s (o.exec p).1) := by
  obtain ⟨lv, lv2, h1, h2, h3, h4, h5, h6, h7⟩ := h
  refine (HO lv2 h2).mono fun e w' hp => ?_
  obtain ⟨_, ha⟩ := After.of_op hp (Below.refl _ _)
  have hT := TwoAt.one h2 h1 (fun i hi hj => h3 i hj hi) ha.out
  obtain ⟨lv', he, hF, hM, ho⟩ := hp
  rw [h0] at he
  refine ⟨he, Lib.hid ⟨lv, lv', h1.kept hM (h2.bmove hM) (fun i hi hj => h3 i hj hi), hF, ?_, ?_, fun k q1 q2 => (hM.block k (by omega) (fun e => by rcases h4 k e with q | q <;> omega)).trans (h5 k q1 q2), hM.below h6 (fun i hi => Nat.le_trans hbs (h2.ownB i hi)), Nat.le_trans h7 hM.size⟩⟩
  · intro i hi hj
    have hlt : i < W.heap.size := by
      rcases hj with e | e | e
      · rw [e]; exact h1.glt
      · rw [e]; exact h1.blt
      · exact (h1.logT i e).1
    rcases hi with e | e | e
    · exact h3 i (.inl e) hj
    · exact h3 i (.inr (.inl e)) hj
    · rcases ho with q | ⟨q, hq, hle⟩
      · rw [q] at e; exact h3 i (.inr (.inr e)) hj
      · rw [hq] at e; injection e with e; omega
  · intro i hi
    rcases hi with e | e | e
    · exact h4 i (.inl e)
    · exact h4 i (.inr (.inl e))
    · rcases ho with q | ⟨q, hq, hle⟩
      · rw [q] at e; exact h4 i (.inr (.inr e))
      · rw [hq] at e; injection e with e; right; omega
/-- A change of a row, cell by cell, with bytes of its own. -/
theorem rowC_get {W : World} {base n c : Nat} {ok : Nat → Prop} {A : Option Addr} {l : List Chg} (h : kC.R 39 W base ok (.slice A n c) l) (k : Nat) (hk : k < l.length) : ∃ (g : Nat) (A2 : Option Addr) (c2 : Nat), A = some ⟨g, 0, none⟩ ∧
    (W.cell? ⟨g, k * 4, none⟩ = some (.int .i64 (rdC l (k : Int)).kind) ∧ W.cell? ⟨g, k * 4 + 1, none⟩ = some (.string (rdC l (k : Int)).path) ∧ W.cell? ⟨g, k * 4 + 2, none⟩ = some (.string (rdC l (k : Int)).dest) ∧ W.cell? ⟨g, k * 4 + 3, none⟩ = some (.slice A2 (rdC l (k : Int)).data.length c2)) ∧ (rdC l (k : Int)).data.length ≤ c2 ∧ (Kd.int .u8).R 5 W base (fun _ => True) (.slice A2 (rdC l (k : Int)).data.length c2) (rdC l (k : Int)).data := by
  have hxk : l[k]? = some (rdC l (k : Int)) := by
    unfold rdC
    rw [Int.toNat_natCast, List.getD_eq_getElem?_getD, List.getElem?_eq_getElem hk]
    rfl
  generalize rdC l (k : Int) = x at *
  obtain ⟨A0, c0, e0, _, _⟩ := Kd.R_reads h
  injection e0 with e0 e1 e2
  subst e0 e1 e2
  obtain ⟨g, cap, e3, _, _, _⟩ := Kd.R_form h (by omega)
  injection e3 with e3 _ e4
  subst e3 e4
  obtain ⟨_, cells, how, hr⟩ := h
  have hM := hr.2 k x hxk
  obtain ⟨v2, hcs, hR⟩ := kC_openM hM
  obtain ⟨A2, c2, rfl, hl2, _⟩ := Kd.R_reads hR
  have cell : ∀ i u, ((cells.drop (k * 4)).take 4)[i]? = some u → W.cell? ⟨g, k * 4 + i, none⟩ = some u := fun i u hu => by
    rw [List.getElem?_take] at hu
    split at hu
    · rw [List.getElem?_drop] at hu
      have hc := how.cells (g := g) rfl _ u hu
      rwa [add_plain] at hc
    · cases hu
  have hcs' : (cells.drop (k * 4)).take 4 = [.int .i64 x.kind, .string x.path, .string x.dest, .slice A2 x.data.length c2] := hcs
  rw [hcs'] at cell
  exact ⟨g, A2, c2, rfl, ⟨cell 0 _ rfl, cell 1 _ rfl, cell 2 _ rfl, cell 3 _ rfl⟩, hl2, Kd.R_mono hR (fun _ _ => trivial)⟩
theorem step_kind {M M' : NMap} {cnt n : Nat} {c : Chg} (k : Step M cnt c M' n) : c.kind = 4 ∨ c.kind = 5 ∨ c.kind = 6 ∨ c.kind = 1 ∨ c.kind = 2 ∨ c.kind = 3 := by
  cases k with
  | make m t hd hv hno hdir hm h2 hc =>
    have hk := may_kind hm
    exact .inr (.inr (.inr hk))
  | write x hk hd hx h1 h3 hl hb => exact .inl hk
  | remove hk hd hx hb he => exact .inr (.inr (.inl hk))
  | rename hk hx hno hdir hb hv he => exact .inr (.inl hk)
/-- Behind the acts: the log's row, and both file systems. -/
theorem logR (w0 : World) (base g b g2 b2 : Nat) (s o : St) (n : Nat) (W : World) (h : TwoAt W base g b g2 b2 s o) (hF : Fit s n) (hn : n ≤ 1099511627776) (hb0 : Below w0.heap.size w0 W) :
    Calls Tryd.prog 9 #[.pointer (some ⟨g, 0, none⟩)] W fun e w' => ∃ (A : Option Addr) (c : Nat), e = .returned (.slice A s.log.length c) ∧ Hid (kC.R 39 w' W.heap.size (fun _ => True) (.slice A s.log.length c) s.log) ∧ Hid (TwoKept w0 W.heap.size w' w' base g b g2 b2 s o) := by
  obtain ⟨lv, lv2, h1, h2, h3⟩ := h
  have hlen := hF.len
  refine (log_calls base g b lv s W h1 (by omega) (fun c hc => by have := hF.data c hc; omega)).mono fun e w' ⟨v, he, hR, hb⟩ => ?_
  obtain ⟨A, c, rfl, _, _⟩ := Kd.R_reads hR
  refine ⟨A, c, he, Lib.hid hR, Lib.hid ⟨lv, lv2, h1.below hb, h2.below hb, h3, fun i hi => ?_, fun _ _ _ => rfl, bgo hb0 hb, Nat.le_refl _⟩⟩
  left
  rcases hi with e | e | e
  · rw [e]; exact h2.glt
  · rw [e]; exact h2.blt
  · exact (h2.logT i e).1
set_option maxRecDepth 100000 in
set_option maxHeartbeats 8000000 in
theorem replays_good (A : Option Addr) (c : Nat) (l : List Nd) (B : Option Addr) (d : Nat) (acts : List Ac) (w : World) (hC : kN.C w A l.length l) (hok : ∀ x ∈ l, Ok x) (hl : l.length ≤ 140737488351232) (hb : (chk l).2 = 0) (hacts : ActsAt w B acts) (haok : ∀ x ∈ acts, AcOk x ∧ ∀ b ∈ x.bytes, 0 ≤ b ∧ b ≤ 255) (hal : acts.length * 144 ≤ 140737488351232) :
    Calls Tryd.prog 3 #[.slice A l.length c, .slice B acts.length d] w fun e w' => e = .returned (.bool true) ∧ Below w.heap.size w w' := by
  have HNEW := Lib.hid (fun W (h : Below w.heap.size w W) => new_fs A c l W (Kd.C_below hC h) hok hl hb)
  have HFN := Lib.hid (fit_new l hok hb)
  have HRN := Lib.hid (redone_new l hok hb)
  have HCN := Lib.hid (chain_new l hb)
  have HAC := Lib.hid hacts
  have HAO := Lib.hid haok
  clear hC hok hl hb hacts haok
  go_enter Tryd.func3, Tryd.ntmps3
  go_upto_region 8 with (first | (go_at_call 6; with_reducible refine (HNEW.out w1 hb1).mono ?_; rintro e w2 ⟨b2, rfl, hbb2, HF2, hb2⟩) | (go_at_call 6; with_reducible refine (HNEW.out w (Below.refl _ _)).mono ?_; rintro e w1 ⟨b, rfl, hbb, HF1, hb1⟩))
  have HT0 := Lib.hid (show TwoAt w2 w.heap.size (b + 1) b (b2 + 1) b2 (newSt l) (newSt l) from ⟨_, _, HF1.out.below hb2, HF2.out.lower hb1.size, fun i hi hj => by
    have p1 := HF1.out.glt
    have p2 := HF1.out.blt
    rcases hi with e | e | e
    · rcases hj with q | q | q
      · omega
      · omega
      · cases q
    · rcases hj with q | q | q
      · omega
      · omega
      · cases q
    · cases e⟩)
  have HB2 := Lib.hid (bgo hb1 hb2)
  clear HF1 HF2 hb1 hb2 HNEW
  go_wp2
  go_loopw [11] (fun i wr => ∃ (k : Nat) (s : St), i = .int .i64 k ∧ k ≤ acts.length ∧ Hid (TwoAt wr w.heap.size (b + 1) b (b2 + 1) b2 s (newSt l)) ∧ Hid (Fit s k ∧ LogBy s ∧ ∃ Ms ns, Chain l s Ms ns) ∧ Hid (Below w.heap.size w wr)) (fun i _ => (acts.length - intOf i).toNat)
  case atStart => exact ⟨0, newSt l, rfl, by omega, HT0, Lib.hid ⟨HFN.out, (fun c hc => by cases hc), _, _, HCN.out⟩, HB2⟩
  case round =>
    clear HT0 HB2
    obtain ⟨k, s, rfl, hk, HT, HFS, HB⟩ := hrel
    by_cases hlt : k < acts.length
    · obtain ⟨ad, a, A2, c2, A3, c3, hB', ham, _, hA, hce⟩ := HAC.out.get k hlt
      subst hB'
      obtain ⟨c0, c1, c2', c3', c4, c5, c6, c7, c8, c9, c10⟩ := hce wr HB.out
      have k0 : (0 : Int) ≤ (k : Int) := by omega
      have k1 : (k : Int) < acts.length := by omega
      have hao := HAO.out a ham
      have HFS' := Lib.hid (show Fit (s.call a) (k + 1) ∧ LogBy (s.call a) ∧ ∃ Ms ns, Chain l (s.call a) Ms ns from ⟨HFS.out.1.call a hao.1.node.by_ hao.2, logBy_call HFS.out.2.1 HFS.out.1.wf a hao.1.node.by_ hao.2, by
        obtain ⟨Ms, ns, hch⟩ := HFS.out.2.2
        exact chain_call hch HFS.out.1.wf a⟩)
      have HCF := Lib.hid (callK w w.heap.size (b + 1) b (b2 + 1) b2 s (newSt l) k a A2 c2 A3 c3 wr HT.out HFS.out.1 (by omega) hA (Nat.le_refl _) HB.out)
      clear hce hao ham hA
      go_wp2_with (go_at_call 8; refine HCF.out.mono ?_; rintro e w4 ⟨rfl, HT4, HB4⟩)
      go_roundw
      case rel => exact ⟨k + 1, s.call a, by go_num, by omega, HT4, HFS', HB4⟩
      case measure => simp [intOf]; omega
    · have k1 : ¬ (k : Int) < acts.length := by omega
      have HL := Lib.hid (logR w w.heap.size (b + 1) b (b2 + 1) b2 s (newSt l) k wr HT.out HFS.out.1 (by omega) HB.out)
      obtain ⟨Ms, ns, hch⟩ := HFS.out.2.2
      have HCH := Lib.hid hch
      clear hch
      go_upto_region 13 with (go_at_call 9; refine HL.out.mono ?_; rintro e wL ⟨AL, cL, rfl, HLR, HTK⟩)
      have HR0 := Lib.hid (show Redone (Ms 0) (ns 0) 0 (newSt l) by rw [HCH.out.1, HCH.out.2.1]; exact HRN.out)
      have hmb : s.log.length ≤ 1099511627776 := by have := HFS.out.1.len; omega
      obtain ⟨m, hm⟩ : ∃ m, s.log.length = m := ⟨_, rfl⟩
      rw [hm] at HLR hmb ⊢
      have HMM := Lib.hid hm
      generalize wr.heap.size = lo at *
      clear hm HL HCN HRN
      go_wp2
      go_loopw [13, 14, 15] (fun i _ _ wq => ∃ (j : Nat) (o : St), i = .int .i64 j ∧ j ≤ m ∧ Hid (TwoKept w lo wL wq w.heap.size (b + 1) b (b2 + 1) b2 s o) ∧ Hid (Redone (Ms j) (ns j) j o)) (fun i _ _ _ => (m - intOf i).toNat)
      case atStart => exact ⟨0, newSt l, rfl, by omega, HTK, HR0⟩
      case round =>
        clear HTK HR0 k1 hk hlt
        obtain ⟨j, o, rfl, hj, HTK, HRD⟩ := hrel
        by_cases hlt2 : j < m
        · have hjl : j < s.log.length := by rw [HMM.out]; exact hlt2
          obtain ⟨gL, A2, c2, hAL, ⟨q0, q1, q2, q3⟩, hl2, hRow⟩ := rowC_get (R_keep HLR.out (fun k h1 h2 => by
            obtain ⟨_, _, _, _, _, _, h5, _, _⟩ := HTK.out
            exact h5 k h1 h2)) j hjl
          subst hAL
          have hST := HCH.out.2.2.1 j hjl
          have hmem := rdC_mem s.log j hjl
          have hby := HFS.out.2.1 _ hmem
          have hsz := hST.sizes (HCH.out.2.2.2.1 j (by omega))
          have hkd := step_kind hST
          have hRS := HRD.out.step hST (HCH.out.2.2.2.1 j (by omega)) hby
          generalize rdC s.log (j : Int) = x at *
          have k0 : (0 : Int) ≤ (j : Int) := by omega
          have k1 : (j : Int) < m := by omega
          have HRS := Lib.hid hRS
          have HSZ := Lib.hid hsz
          have HBY := Lib.hid hby
          have HRow := Lib.hid hRow
          clear hST hmem hby hsz hRS hRow hjl
          go_upto_region 18 with fail
          have HAL := Lib.hid (balloc (Below.refl wr.heap.size wr) (.cells #[.int .i64 x.kind, .string x.path, .string x.dest, .slice A2 x.data.length c2] 39))
          have HGB := Lib.hid (heap_alloc_new wr (.cells #[.int .i64 x.kind, .string x.path, .string x.dest, .slice A2 x.data.length c2] 39))
          refine wp_world ?_
          intro wb hwb
          rw [← hwb] at HAL HGB
          clear hwb q0 q1 q2 q3
          have b0 : wb.cell? ⟨wr.heap.size, 0, none⟩ = some (.int .i64 x.kind) := by simp [World.cell?, HGB.out]
          have b1 : wb.cell? ⟨wr.heap.size, 1, none⟩ = some (.string x.path) := by simp [World.cell?, HGB.out]
          have b2' : wb.cell? ⟨wr.heap.size, 2, none⟩ = some (.string x.dest) := by simp [World.cell?, HGB.out]
          have b3 : wb.cell? ⟨wr.heap.size, 3, none⟩ = some (.slice A2 x.data.length c2) := by simp [World.cell?, HGB.out]
          have HTB := Lib.hid (HTK.out.below HAL.out)
          have HRB := Lib.hid (Kd.R_below HRow.out HAL.out)
          have HCB := Lib.hid (fun lv2 (hF : FsAt wb w.heap.size (b2 + 1) b2 lv2 o) W' (hm : Mod (ownS (b2 + 1) b2 lv2) wb W') => show (Kd.int .u8).C W' A2 x.data.length x.data from by
            have h1 := hF.rowKept hm HRB.out (by decide) (by decide)
            obtain ⟨_, _, e, _, hC⟩ := Kd.R_reads h1
            injection e with e _ _
            subst e
            exact hC)
          clear HAL HGB HRow
          have hpz : x.path.size ≤ 1024 := valid_size _ HSZ.out.1
          have hdz : x.dest.size ≤ 1024 := by
            rcases HSZ.out.2.1 with e | e
            · rw [e]; decide
            · exact valid_size _ e
          have hxl := HSZ.out.2.2
          have hlog : (o.log.length + 1) * 64 ≤ 140737488355328 := by have := HRD.out.len; omega
          have HG := Lib.hid (wf_good HRD.out.fit.wf)
          rcases hkd with e | e | e | e | e | e
          · have eP : redoP o.M o.cnt o.room x = writeP o.M o.cnt o.room x.path x.data := by unfold redoP; rw [if_pos e]
            have HOP := Lib.hid (redoK HTB.out (Nat.le_refl _) HRS.out.1 (fun lv2 hF => by rw [eP]; exact write_calls w.heap.size (b2 + 1) b2 lv2 o x.path x.data A2 c2 wb hF (HCB.out lv2 hF) (by omega) (by omega) HG.out.fine HG.out.own hlog))
            have HR6 := Lib.hid HRS.out.2
            have t1 : (x.kind == 1) = false := beq_eq_false_iff_ne.mpr (by omega)
            have t2 : (x.kind == 2) = false := beq_eq_false_iff_ne.mpr (by omega)
            have t3 : (x.kind == 3) = false := beq_eq_false_iff_ne.mpr (by omega)
            have t4 : (x.kind == 4) = true := beq_iff_eq.mpr e
            clear eP
            clear HRS HTB HCB HRB HG HSZ HBY HTK HRD e
            go_wp2_with (go_at_call 11; refine HOP.out.mono ?_; rintro e6 w6 ⟨rfl, HT6⟩)
            go_roundw
            case rel => exact ⟨j + 1, _, by go_num, by omega, HT6, HR6⟩
            case measure => simp [intOf]; omega
          · have eP : redoP o.M o.cnt o.room x = renameP o.M o.cnt o.room x.path x.dest := by unfold redoP; rw [if_neg (by omega), if_pos e]
            have HOP := Lib.hid (redoK HTB.out (Nat.le_refl _) HRS.out.1 (fun lv2 hF => by rw [eP]; exact rename_calls w.heap.size (b2 + 1) b2 lv2 o x.path x.dest wb hF (by omega) (by omega) HG.out.fine HG.out.own HG.out.up hlog))
            have HR6 := Lib.hid HRS.out.2
            have t1 : (x.kind == 1) = false := beq_eq_false_iff_ne.mpr (by omega)
            have t2 : (x.kind == 2) = false := beq_eq_false_iff_ne.mpr (by omega)
            have t3 : (x.kind == 3) = false := beq_eq_false_iff_ne.mpr (by omega)
            have t4 : (x.kind == 4) = false := beq_eq_false_iff_ne.mpr (by omega)
            have t5 : (x.kind == 5) = true := beq_iff_eq.mpr e
            clear eP
            clear HRS HTB HCB HRB HG HSZ HBY HTK HRD e
            go_wp2_with (go_at_call 12; refine HOP.out.mono ?_; rintro e6 w6 ⟨rfl, HT6⟩)
            go_roundw
            case rel => exact ⟨j + 1, _, by go_num, by omega, HT6, HR6⟩
            case measure => simp [intOf]; omega
          · have eP : redoP o.M o.cnt o.room x = removeP o.M o.cnt o.room x.path := by unfold redoP; rw [if_neg (by omega), if_neg (by omega), if_pos e]
            have HOP := Lib.hid (redoK HTB.out (Nat.le_refl _) HRS.out.1 (fun lv2 hF => by rw [eP]; exact remove_calls w.heap.size (b2 + 1) b2 lv2 o x.path wb hF (by omega) HG.out.fine hlog))
            have HR6 := Lib.hid HRS.out.2
            have t1 : (x.kind == 1) = false := beq_eq_false_iff_ne.mpr (by omega)
            have t2 : (x.kind == 2) = false := beq_eq_false_iff_ne.mpr (by omega)
            have t3 : (x.kind == 3) = false := beq_eq_false_iff_ne.mpr (by omega)
            have t4 : (x.kind == 4) = false := beq_eq_false_iff_ne.mpr (by omega)
            have t5 : (x.kind == 5) = false := beq_eq_false_iff_ne.mpr (by omega)
            have t6 : (x.kind == 6) = true := beq_iff_eq.mpr e
            clear eP
            clear HRS HTB HCB HRB HG HSZ HBY HTK HRD e
            go_wp2_with (go_at_call 13; refine HOP.out.mono ?_; rintro e6 w6 ⟨rfl, HT6⟩)
            go_roundw
            case rel => exact ⟨j + 1, _, by go_num, by omega, HT6, HR6⟩
            case measure => simp [intOf]; omega
          · have eP : redoP o.M o.cnt o.room x = makeP o.M o.cnt o.room ⟨x.kind, x.path, x.data, 0, 0⟩ := by unfold redoP; rw [if_neg (by omega), if_neg (by omega), if_neg (by omega)]
            have HOP := Lib.hid (redoK HTB.out (Nat.le_refl _) HRS.out.1 (fun lv2 hF => by rw [eP]; exact make_calls w.heap.size (b2 + 1) b2 lv2 o ⟨x.kind, x.path, x.data, 0, 0⟩ A2 c2 wb hF (HCB.out lv2 hF) hl2 ⟨HBY.out, (by show x.path.size ≤ _; omega), (by show x.data.length ≤ _; omega)⟩ HG.out.fine hlog))
            have HR6 := Lib.hid HRS.out.2
            have t1 : (x.kind == 1) = true := beq_iff_eq.mpr e
            clear eP
            clear HRS HTB HCB HRB HG HSZ HBY HTK HRD e
            go_wp2_with (go_at_call 10; refine HOP.out.mono ?_; rintro e6 w6 ⟨rfl, HT6⟩)
            go_roundw
            case rel => exact ⟨j + 1, _, by go_num, by omega, HT6, HR6⟩
            case measure => simp [intOf]; omega
          · have eP : redoP o.M o.cnt o.room x = makeP o.M o.cnt o.room ⟨x.kind, x.path, x.data, 0, 0⟩ := by unfold redoP; rw [if_neg (by omega), if_neg (by omega), if_neg (by omega)]
            have HOP := Lib.hid (redoK HTB.out (Nat.le_refl _) HRS.out.1 (fun lv2 hF => by rw [eP]; exact make_calls w.heap.size (b2 + 1) b2 lv2 o ⟨x.kind, x.path, x.data, 0, 0⟩ A2 c2 wb hF (HCB.out lv2 hF) hl2 ⟨HBY.out, (by show x.path.size ≤ _; omega), (by show x.data.length ≤ _; omega)⟩ HG.out.fine hlog))
            have HR6 := Lib.hid HRS.out.2
            have t1 : (x.kind == 1) = false := beq_eq_false_iff_ne.mpr (by omega)
            have t2 : (x.kind == 2) = true := beq_iff_eq.mpr e
            clear eP
            clear HRS HTB HCB HRB HG HSZ HBY HTK HRD e
            go_wp2_with (go_at_call 10; refine HOP.out.mono ?_; rintro e6 w6 ⟨rfl, HT6⟩)
            go_roundw
            case rel => exact ⟨j + 1, _, by go_num, by omega, HT6, HR6⟩
            case measure => simp [intOf]; omega
          · have eP : redoP o.M o.cnt o.room x = makeP o.M o.cnt o.room ⟨x.kind, x.path, x.data, 0, 0⟩ := by unfold redoP; rw [if_neg (by omega), if_neg (by omega), if_neg (by omega)]
            have HOP := Lib.hid (redoK HTB.out (Nat.le_refl _) HRS.out.1 (fun lv2 hF => by rw [eP]; exact make_calls w.heap.size (b2 + 1) b2 lv2 o ⟨x.kind, x.path, x.data, 0, 0⟩ A2 c2 wb hF (HCB.out lv2 hF) hl2 ⟨HBY.out, (by show x.path.size ≤ _; omega), (by show x.data.length ≤ _; omega)⟩ HG.out.fine hlog))
            have HR6 := Lib.hid HRS.out.2
            have t1 : (x.kind == 1) = false := beq_eq_false_iff_ne.mpr (by omega)
            have t2 : (x.kind == 2) = false := beq_eq_false_iff_ne.mpr (by omega)
            have t3 : (x.kind == 3) = true := beq_iff_eq.mpr e
            clear eP
            clear HRS HTB HCB HRB HG HSZ HBY HTK HRD e
            go_wp2_with (go_at_call 10; refine HOP.out.mono ?_; rintro e6 w6 ⟨rfl, HT6⟩)
            go_roundw
            case rel => exact ⟨j + 1, _, by go_num, by omega, HT6, HR6⟩
            case measure => simp [intOf]; omega
        · have hjm : j = m := by omega
          have k1 : ¬ (j : Int) < m := by omega
          have hMs : Ms m = s.M := by rw [← HMM.out]; exact HCH.out.2.2.2.2.1
          have hSim := HRD.out.sim
          rw [hjm, hMs] at hSim
          have HSIM := Lib.hid hSim
          have hFO := HRD.out.fit
          have HFO := Lib.hid hFO
          have HOL := Lib.hid (show o.log.length = m by rw [HRD.out.len, hjm])
          have HTF := Lib.hid (fun W (h : Below wr.heap.size wr W) => treeT w.heap.size (b + 1) b (b2 + 1) b2 s o k W (HTK.out.two.below h) HFS.out.1)
          have HTO := Lib.hid (fun W (h : Below wr.heap.size wr W) => treeT w.heap.size (b2 + 1) b2 (b + 1) b o s j W (HTK.out.two.below h).swap HFO.out)
          have HLO := Lib.hid (fun W (h : Below wr.heap.size wr W) => logT w.heap.size (b2 + 1) b2 (b + 1) b o s j m HOL.out W (HTK.out.two.below h).swap HFO.out (by omega))
          have HBW := Lib.hid (show Below w.heap.size w wr from by
            obtain ⟨_, _, _, _, _, _, _, h6, _⟩ := HTK.out
            exact h6)
          clear hMs hSim hFO HRD
          go_upto_region 32 with (first
            | (go_at_call 14; with_reducible refine (HTO.out w4 HB34.out).mono ?_; rintro e w5 ⟨A5, c5, lO, rfl, HTO5, hl5, HRO5, HB45⟩)
            | (go_at_call 14; with_reducible refine (HTF.out wr (Below.refl _ _)).mono ?_; rintro e w4 ⟨A4, c4, lF, rfl, HTF4, hl4, HRF4, HB34⟩))
          obtain ⟨hlen, hrow⟩ := sim_trees HSIM.out HFS.out.1.wf HFO.out.wf HTF4.out HTO5.out
          have HROW := Lib.hid hrow
          have HCK := Lib.hid (tree_chk HTF4.out HFS.out.1.wf hl4)
          have hokF : ∀ x ∈ lF, Ok x := fun x hx => have hM := (treeOf_mem HTF4.out HFS.out.1.wf x).1 hx; ok_of HFS.out.1.wf (HFS.out.1.by_ _ x hM) hM
          obtain ⟨_, _, e5, _, hC5⟩ := Kd.R_reads HRF4.out
          injection e5 with e5 e5b e5c
          subst e5 e5c
          clear e5b
          obtain ⟨_, _, e6, _, hC6⟩ := Kd.R_reads HRO5.out
          injection e6 with e6 e6b e6c
          subst e6 e6c
          clear e6b
          have hCF := Kd.C_below hC5 HB45.out
          have HCF := Lib.hid hCF
          have HCO := Lib.hid hC6
          have HCH2 := Lib.hid (check_calls _ c4 lF w5 hCF hokF (by omega))
          have HB5 := Lib.hid (bgo HB34.out HB45.out)
          clear hrow hC5 hC6 hCF hokF HTF HTO HRF4 HRO5
          have hne : ((lF.length : Int) != (lO.length : Int)) = false := by rw [hlen]; simp
          have HLEN := Lib.hid hlen
          clear hlen
          have hce := HCK.out
          rw [show chk lF = ((chk lF).1, (chk lF).2) from rfl, hce] at HCH2
          generalize (chk lF).1 = ch1 at *
          clear hce
          go_upto_region 33 with (go_at_call 7; with_reducible refine HCH2.out.mono ?_; rintro e w6 ⟨rfl, hb6⟩)
          have HB6 := Lib.hid (bgo HB5.out hb6)
          have HB56 := Lib.hid hb6
          clear hb6 HCH2
          go_wp2_with (go_at_call 9; refine (HLO.out w6 HB6.out).mono ?_; rintro e w7 ⟨A7, c7, rfl, HB67⟩)
          have HB57 := Lib.hid (bgo HB56.out HB67.out)
          have HBW7 := Lib.hid (bgo HBW.out (bgo HB6.out HB67.out))
          have HCS := Lib.hid (fun (n : World) (A2 : Option Addr) (k c2 : Nat) (xs : List Int) (h : (Kd.int .u8).C n A2 k xs) => Kd.C_string (P := Tryd.prog) (w := n) (src := 31) (dst := 9) (c := c2) Tryd.underlying31 Tryd.underlying5 Tryd.underlying9 h)
          clear HB5 HB6 HB45 HB34 HB56 HB67 HLO hne
          go_loopw [20] (fun i wz => ∃ q : Nat, i = .int .i64 q ∧ q ≤ lF.length ∧ Below w7.heap.size w7 wz) (fun i _ => (lF.length - intOf i).toNat)
          case atStart => exact ⟨0, rfl, by omega, Below.refl _ _⟩
          case round =>
            obtain ⟨q, rfl, hq, hbz⟩ := hrel
            have HB5z := Lib.hid (bgo HB57.out hbz)
            have HBZ := Lib.hid (bgo HBW7.out hbz)
            by_cases hlt3 : q < lF.length
            · obtain ⟨ad, D1, d1, hA', a0, a1, a2, _, _, _, hd⟩ := atN (Kd.C_below HCF.out HB5z.out) (q : Int) (by omega) (by omega)
              obtain ⟨ad2, D2, d2, hB', b0, b1, b2', _, _, _, hd2⟩ := atN (Kd.C_below HCO.out HB5z.out) (q : Int) (by omega) (by have := HLEN.out; omega)
              obtain ⟨r0, r1, r2⟩ := HROW.out q hlt3
              rw [Int.toNat_natCast] at a0 a1 a2 b0 b1 b2'
              rw [r0] at b0
              rw [r1] at b1
              rw [r2] at b2' hd2
              have k2 : (q : Int) < lO.length := by have := HLEN.out; omega
              clear r0 r1 r2
              generalize rdN lF (q : Int) = x at *
              have k0 : (0 : Int) ≤ (q : Int) := by omega
              have k1 : (q : Int) < lF.length := by omega
              subst hA' hB'
              have HBQ := Lib.hid hbz
              clear hbz HBZ HB5z
              go_upto_region 38 with fail
              refine wp_world ?_
              intro W1 hW1
              obtain rfl := hW1
              refine wp_region_above (by kernel_rfl) (by kernel_rfl) ?_
              intro ne
              have na0 := fun n : Abv W1 => n.cell a0
              have na1 := fun n : Abv W1 => n.cell a1
              have na2 := fun n : Abv W1 => n.cell a2
              have nb0 := fun n : Abv W1 => n.cell b0
              have nb1 := fun n : Abv W1 => n.cell b1
              have nb2 := fun n : Abv W1 => n.cell b2'
              have nc1 : ∀ n : Abv W1, (convert 31 9 (.slice D1 x.f2.length d1)).run Tryd.prog n.w = .ok (.string (strOfNums x.f2)) n.w := fun n => HCS.out n.w D1 _ d1 _ (Kd.C_below hd n.bel)
              have nc2 : ∀ n : Abv W1, (convert 31 9 (.slice D2 x.f2.length d2)).run Tryd.prog n.w = .ok (.string (strOfNums x.f2)) n.w := fun n => HCS.out n.w D2 _ d2 _ (Kd.C_below hd2 n.bel)
              clear a0 a1 a2 b0 b1 b2' hd hd2
              repeat (go_big_quiet_step (fail))
              refine quiet_above ?_
              intro w8 hb8
              clear na0 na1 na2 nb0 nb1 nb2 nc1 nc2
              have HB9 := Lib.hid (bgo HBQ.out hb8)
              clear hb8 HBQ
              go_wp2
              go_roundw
              case rel => exact ⟨q + 1, by go_num, by omega, HB9.out⟩
              case measure => simp [intOf]; omega
            · have k1 : ¬ (q : Int) < lF.length := by omega
              clear hlt3 hbz
              go_wp2
              go_ret
              exact ⟨rfl, HBZ.out⟩
theorem chkN_at (l : List Nd) : ∀ f, f ≤ l.length → (chkN l f).2 ≠ 0 → (chkN l f).1 < l.length
  | 0, _, h => absurd (show (0 : Int) = 0 from rfl) h
  | f + 1, hf, h => by
    have e : chkN l (f + 1) = if errAt l (l.length - (f + 1)) = 0 then chkN l f else (((l.length - (f + 1) : Nat) : Int), errAt l (l.length - (f + 1))) := rfl
    rw [e] at h ⊢
    by_cases h0 : errAt l (l.length - (f + 1)) = 0
    · rw [if_pos h0] at h ⊢; exact chkN_at l f (by omega) h
    · rw [if_neg h0]; show ((l.length - (f + 1) : Nat) : Int) < l.length; omega
set_option maxRecDepth 100000 in
set_option maxHeartbeats 4000000 in
theorem replays_calls (A : Option Addr) (c : Nat) (l : List Nd) (B : Option Addr) (d : Nat) (acts : List Ac) (w : World) (hC : kN.C w A l.length l) (hok : ∀ x ∈ l, Ok x) (hl : l.length ≤ 140737488351232) (hacts : ActsAt w B acts) (haok : ∀ x ∈ acts, AcOk x ∧ ∀ b ∈ x.bytes, 0 ≤ b ∧ b ≤ 255) (hal : acts.length * 144 ≤ 140737488351232) :
    Calls Tryd.prog 3 #[.slice A l.length c, .slice B acts.length d] w fun e w' => e = .returned (.bool true) ∧ Below w.heap.size w w' := by
  by_cases hb : (chk l).2 = 0
  · exact replays_good A c l B d acts w hC hok hl hb hacts haok hal
  · have HNEW := Lib.hid (fun W (h : Below w.heap.size w W) => new_bad A c l W (Kd.C_below hC h) hok hl hb)
    have HCK := Lib.hid (fun W (h : Below w.heap.size w W) => check_calls A c l W (Kd.C_below hC h) hok hl)
    have hat := chkN_at l l.length (Nat.le_refl _) hb
    have hat : (chk l).1 < (l.length : Int) := hat
    have hne : ((chk l).2 != 0) = true := by simpa using hb
    generalize chk l = R at *
    obtain ⟨r1, r2⟩ := R
    dsimp only at hat hne HCK
    clear hC hok hacts haok hb
    go_enter Tryd.func3, Tryd.ntmps3
    go_wp2_with (first | (go_at_call 7; with_reducible refine (HCK.out w2 (bgo hb1 hb2)).mono ?_; rintro e w3 ⟨rfl, hb3⟩) | (go_at_call 6; with_reducible refine (HNEW.out w1 hb1).mono ?_; rintro e w2 ⟨rfl, hb2⟩) | (go_at_call 6; with_reducible refine (HNEW.out w (Below.refl _ _)).mono ?_; rintro e w1 ⟨rfl, hb1⟩))
    go_ret
    exact ⟨ret_bool rfl, bgo (bgo hb1 hb2) hb3⟩
end Go.Proofs.YtageofdcloneoaaDoor.Fs
set_option linter.unusedVariables false
namespace Go.Proofs.YtageofdcloneoaaDoor.Fs
open Go.RowKit Go.Proofs.YtageofdcloneoaaDoor.Node Go.Proofs.YtageofdcloneoaaDoor.Tree
theorem faults_walk (A : Option Addr) (c : Nat) (l : List Nd) (B : Option Addr) (d : Nat) (acts : List Ac) (n : Int) (w : World) (hC : kN.C w A l.length l) (hok : ∀ x ∈ l, Ok x) (hl : l.length * 64 ≤ 140737488351232) (hacts : ActsAt w B acts) (haok : ∀ x ∈ acts, AcOk x ∧ ∀ b ∈ x.bytes, 0 ≤ b ∧ b ≤ 255) (hal : acts.length * 144 ≤ 140737488351232) (_ : (Lit.int .i64 n).wf = true) (_ : laidMet Tryd.prog list2 w) :
    Calls Tryd.prog 4 #[.slice A l.length c, .slice B acts.length d, .int .i64 n] w fun e w' => e = .returned (.bool true) ∧ Below w.heap.size w w' :=
  faults_calls A c l B d acts n w hC hok (by omega) hacts haok hal
theorem replays_walk (A : Option Addr) (c : Nat) (l : List Nd) (B : Option Addr) (d : Nat) (acts : List Ac) (w : World) (hC : kN.C w A l.length l) (hok : ∀ x ∈ l, Ok x) (hl : l.length * 64 ≤ 140737488351232) (hacts : ActsAt w B acts) (haok : ∀ x ∈ acts, AcOk x ∧ ∀ b ∈ x.bytes, 0 ≤ b ∧ b ≤ 255) (hal : acts.length * 144 ≤ 140737488351232) (_ : laidMet Tryd.prog list2 w) :
    Calls Tryd.prog 3 #[.slice A l.length c, .slice B acts.length d] w fun e w' => e = .returned (.bool true) ∧ Below w.heap.size w w' :=
  replays_calls A c l B d acts w hC hok (by omega) hacts haok hal
end Go.Proofs.YtageofdcloneoaaDoor.Fs
