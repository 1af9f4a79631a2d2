/- RoutS, RoutV, RoutQ, Node, TreeM, TreeC, TreeL put together. -/
import Derived.RangeFuncNested
import Derived.RangeFuncBound
import Derived.RangeFuncCalls
import Derived.RangeFuncLeaves
import Derived.RangeFuncBox
import Derived.Shelf.Abstract
import Derived.Shelf.RegionOpen
import Derived.OwnWalkIn
import Derived.TacticsInMore
import Derived.LoopNIn
import Derived.LoopIn
import Derived.Test.YtkmjbakiippfpaaGreatDoorMRout
import Derived.Test.YtkmjbakiippfpaaGreatDoorTreeShelf
import Derived.Lib.SplitLaws
import Derived.WalkLawsBesides
import Derived.Test.YtkmjbakiippfpaaGreatDoorWMore
import Derived.Maps.Own
import Derived.Maps.Views
import Derived.Maps.OwnOps
import Derived.Lib.SliceRun
set_option linter.unusedVariables false
set_option linter.unusedSimpArgs false
namespace Go.Proofs.YtkmjbakiippfpaaGreatDoor.Rout
open Go.RowKit Go.Shelf Go.Proofs.YtkmjbakiippfpaaGreatDoor.Reg
attribute [local go_sem] Oper.semAt_some
/-- The iterator's three variables: the rest, the separator, a number. -/
structure Seq (W : World) (B : Nat) (s : ByteArray) : Prop where
  s : Boxed W B 9 (.string s)
  p : Boxed W (B + 1) 9 (.string ⟨#[47]⟩)
  v : Boxed W (B + 2) 3 (.int .i64 0)
/-- What leaves them alone. -/
def Kept (B : Nat) (W W' : World) : Prop := ∀ k, (k = B ∨ k = B + 1 ∨ k = B + 2) → W'.heap[k]? = W.heap[k]?
theorem Seq.kept {W W' : World} {B : Nat} {s : ByteArray} (h : Seq W B s) (k : Kept B W W') : Seq W' B s :=
  ⟨(k B (.inl rfl)).trans h.s, (k (B + 1) (.inr (.inl rfl))).trans h.p, (k (B + 2) (.inr (.inr rfl))).trans h.v⟩
theorem Seq.set {W : World} {B : Nat} {s : ByteArray} (h : Seq W B s) (t : ByteArray) : Seq (W.setCell ⟨B, 0, none⟩ (.string t)) B t :=
  ⟨h.s.set _, (Below.heap_setCell W ⟨B, 0, none⟩ _ (B + 1) (by simp)).trans h.p, (Below.heap_setCell W ⟨B, 0, none⟩ _ (B + 2) (by simp)).trans h.v⟩
def left (B : Nat) (W : World) : Nat := match W.cell? ⟨B, 0, none⟩ with
  | some (.string s) => s.size
  | _ => 0
theorem Seq.left {W : World} {B : Nat} {s : ByteArray} (h : Seq W B s) : left B W = s.size := by unfold Rout.left; rw [h.s.cell]
set_option maxRecDepth 100000 in
set_option maxHeartbeats 2000000 in
theorem seq_in (n l B : Nat) (s0 : ByteArray) (hs0 : s0.size ≤ 140737488355328) (hn : 1 ≤ n) (J Jx : List ByteArray → World → Prop) (hJB : ∀ pre W v, J pre W → J pre (W.setCell ⟨B, 0, none⟩ v))
    (hY : ∀ pre x W, J pre W → x.size ≤ s0.size → YieldAt Fence.wide (n - 1) Tryz.prog l #[.string x] W fun e W' => (e = .returned (.bool true) ∧ J (pre ++ [x]) W' ∧ Kept B W W') ∨ (e = .returned (.bool false) ∧ Jx (pre ++ [x]) W'))
    (W : World) (hS : Seq W B s0) (h0 : J [] W) :
    CallsIn Fence.wide n Tryz.prog 78 #[.func (.yield l) #[] #[], .pointer (some ⟨B + 1, 0, none⟩), .pointer (some ⟨B, 0, none⟩), .pointer (some ⟨B + 2, 0, none⟩)] W fun e W' => (∃ v, e = .returned v) ∧ (J (pcs s0) W' ∨ ∃ pre, pre <+: pcs s0 ∧ Jx pre W') := by
  have q1 : Fence.wide.fn 80 := trivial
  have HS := Lib.hid hS
  have hsep := hS.p.cell
  clear hS
  refine callsIn_of_wp Tryz.func78 rfl trivial ?_ rfl
  simp only [Tryz.ntmps78, List.size_toArray, List.length_cons, List.length_nil, Nat.reduceAdd, Nat.reduceSub, Array.replicate_succ, Array.replicate_zero, List.push_toArray, List.append_toArray, List.nil_append, List.cons_append]
  gi_wp2
  clear hsep
  gi_loopw [7, 8] (fun _ _ wr => ∃ pre rest, J pre wr ∧ Hid (Seq wr B rest) ∧ Hid (pre ++ pcs rest = pcs s0) ∧ rest.size ≤ s0.size) (fun _ _ wr => left B wr)
  case atStart => exact ⟨[], s0, h0, HS, Lib.hid (by simp), Nat.le_refl _⟩
  case round =>
    obtain ⟨pre, rest, hJ, hs, hp, hle⟩ := hrel
    have c1 := hs.out.s.cell
    have c2 := hs.out.p.cell
    have c3 := hs.out.v.cell
    have f1 := hs.out.s.frozen
    have hge := Lib.indexByte_ge rest.data.toList 47
    by_cases hm : Lib.indexByte rest.data.toList 47 = -1
    · have hpe := pcs_miss rest hm
      have HP := Lib.hid (show pre ++ [rest] = pcs s0 by rw [← hp.out, hpe])
      have hc := callsIn_wide (n := n - 1).2 (Tryz.strings_Index_one rest 47 wr)
      rw [hm] at hc
      have HC := Lib.hid hc
      obtain ⟨fn, tmps, assign, body, hy, hR⟩ := hY pre rest wr hJ hle
      clear hm hpe hp hc hge hJB hY
      gi_wp2_with (gi_at_call 80; refine HC.out.mono ?_; rintro e w' ⟨rfl, rfl⟩)
      refine hR.mono ?_
      rintro e W3 (⟨rfl, hJ3, hk3⟩ | ⟨rfl, hJx3⟩)
      · gi_wp2
        go_end0
        exact ⟨⟨_, rfl⟩, .inl (by rw [← HP.out]; exact hJ3)⟩
      · gi_wp2
        go_end0
        exact ⟨⟨_, rfl⟩, .inr ⟨_, (by rw [← HP.out]; exact List.prefix_refl _), hJx3⟩⟩
    · obtain ⟨m, hm2⟩ : ∃ m : Nat, Lib.indexByte rest.data.toList 47 = (m : Int) := ⟨(Lib.indexByte rest.data.toList 47).toNat, by omega⟩
      obtain ⟨hlt, hpe⟩ := pcs_hit rest m hm2
      have hc := callsIn_wide (n := n - 1).2 (Tryz.strings_Index_one rest 47 wr)
      rw [hm2] at hc
      have HC := Lib.hid hc
      have hx : (rest.extract 0 m).size ≤ s0.size := by rw [ByteArray.size_extract]; omega
      have hx2 : (rest.extract (m + 1) rest.size).size = rest.size - (m + 1) := by rw [ByteArray.size_extract]; omega
      have HP := Lib.hid (show (pre ++ [rest.extract 0 m]) ++ pcs (rest.extract (m + 1) rest.size) = pcs s0 by rw [← hp.out, hpe]; simp)
      obtain ⟨fn, tmps, assign, body, hy, hR⟩ := hY pre (rest.extract 0 m) wr hJ hx
      clear hm hm2 hpe hp hc hge hY
      gi_wp2_with (gi_at_call 80; refine HC.out.mono ?_; rintro e w' ⟨rfl, rfl⟩)
      refine hR.mono ?_
      rintro e W3 (⟨rfl, hJ3, hk3⟩ | ⟨rfl, hJx3⟩)
      · have hs3 := Lib.hid (hs.out.kept hk3)
        have d1 := hs3.out.s.cell
        have d2 := hs3.out.p.cell
        have d3 := hs3.out.s.frozen
        have e1 := Lib.hid (hs3.out.left)
        have e2 := Lib.hid (hs.out.left)
        have hsz := Lib.hid (hs3.out.set (rest.extract (m + 1) rest.size))
        clear c1 c2 c3 f1 hs hJ hk3 HC hy hR q1
        gi_wp2
        go_roundw
        case rel => exact ⟨_, _, hJB _ _ _ hJ3, hsz, HP, by omega⟩
        case measure => rw [hsz.out.left, e2.out, hx2]; omega
      · gi_wp2
        refine bodyPost_ret (results_none rfl _ _ _) rfl ?_
        exact ⟨⟨_, rfl⟩, .inr ⟨_, ⟨_, HP.out⟩, hJx3⟩⟩
theorem splitSeq_calls (s : ByteArray) (w : World) :
    Calls Tryz.prog 30 #[.string s, .string ⟨#[47]⟩] w fun e w' => e = .returned (.func (.func 78) #[] #[.pointer (some ⟨w.heap.size + 1, 0, none⟩), .pointer (some ⟨w.heap.size, 0, none⟩), .pointer (some ⟨w.heap.size + 2, 0, none⟩)]) ∧ w' = ((w.alloc (.cells #[.string s] 9)).alloc (.cells #[.string ⟨#[47]⟩] 9)).alloc (.cells #[.int .i64 0] 3) := by
  go_enter Tryz.func30, Tryz.ntmps30
  go_wp2
  go_ret
  exact ⟨rfl, rfl⟩
theorem Seq.new (w : World) (s : ByteArray) : Seq (((w.alloc (.cells #[.string s] 9)).alloc (.cells #[.string ⟨#[47]⟩] 9)).alloc (.cells #[.int .i64 0] 3)) w.heap.size s := by
  refine ⟨((Boxed.new _ _ _).alloc _).alloc _, ?_, ?_⟩
  · have h := (Boxed.new (w.alloc (.cells #[.string s] 9)) 9 (.string ⟨#[47]⟩)).alloc (.cells #[.int .i64 0] 3)
    simpa using h
  · have h := Boxed.new ((w.alloc (.cells #[.string s] 9)).alloc (.cells #[.string ⟨#[47]⟩] 9)) 3 (.int .i64 0)
    simpa using h
end Go.Proofs.YtkmjbakiippfpaaGreatDoor.Rout
set_option linter.unusedVariables false
set_option linter.unusedSimpArgs false
namespace Go.Proofs.YtkmjbakiippfpaaGreatDoor.Rout
open Go.RowKit Go.Shelf Go.Proofs.YtkmjbakiippfpaaGreatDoor.Reg
attribute [local go_sem] Oper.semAt_some
/-- How a round's body may be left. -/
def keptPost {α : Type} (B : Nat) (I : List α → World → Prop) (Ix : Code → List α → World → Prop) (xs : List α) (W : World) : Exit → Act → World → Prop
  | .normal, _, W' => KeepsOthers W W' ∧ Kept B W W' ∧ I xs W'
  | .ret, _, W' => KeepsOthers W W' ∧ Ix .ret xs W'
  | .exit id, _, W' => KeepsOthers W W' ∧ Ix (.exit id) xs W'
  | .goto t, _, W' => KeepsOthers W W' ∧ Ix (.goto t) xs W'
  | .panic _, _, _ => False
  | .outgrown, _, _ => False
section
variable {F : Fence} {n : Nat} {P : Program}
/-- A range over a function whose iterator writes one cell of its own (in block B). -/
theorem wpIn_range_kept {α : Type} {g : Operand} {ps : Array Tmp} {assign body : Code} {Q : Exit → Act → World → Prop} {a : Act} {w : World}
    (hro : F.round = none) (h1 : 1 ≤ n) {gf : Nat} {lb : Array Value} (hg : a.eval g = .func (.func gf) #[] lb) (hFg : F.fn gf) (eg : ∀ args w, (callFunc gf args).run P w = .ok (.enter gf args) w)
    {encs : α → Array Value} {S Sp : List α → Prop} {ok : α → Prop} {B : Nat} {P0 : World → Prop} (hP0 : ∀ W o, P0 W → P0 (W.alloc o)) (hBw : B + 2 < w.heap.size) (hw0 : P0 w)
    (hseq : ∀ (l : Nat) (J Jx : List α → World → Prop) (W : World), (∀ pre W v, J pre W → J pre (W.setCell ⟨B, 0, none⟩ v)) →
      (∀ pre x W1, J pre W1 → ok x → YieldAt F (n - 1 - 1) P l (encs x) W1 fun e W' => (e = .returned (.bool true) ∧ J (pre ++ [x]) W' ∧ Kept B W1 W') ∨ (e = .returned (.bool false) ∧ Jx (pre ++ [x]) W')) →
      P0 W → J [] W → CallsIn F (n - 1) P gf (#[.func (.yield l) #[] #[]] ++ lb) W fun e W' => (∃ v, e = .returned v) ∧ ((∃ xs, S xs ∧ J xs W') ∨ (∃ pre, Sp pre ∧ Jx pre W')))
    (hps : ∀ x, (encs x).size = ps.size)
    (I : List α → World → Prop) (Ix : Code → List α → World → Prop) (hIa : ∀ s W o, I s W → I s (W.alloc o)) (hIp : ∀ s W l o o', I s W → w.heap.size ≤ l → W.heap[l]? = some o → o.isCells = false → I s (W.putObj l o'))
    (hIxp : ∀ c s W l o o', Ix c s W → w.heap.size ≤ l → W.heap[l]? = some o → o.isCells = false → Ix c s (W.putObj l o')) (hIB : ∀ s W v, I s W → I s (W.setCell ⟨B, 0, none⟩ v)) (h0 : I [] w) (a₁ : α → Act)
    (hassign : ∀ (l : Nat) (x : α) (W : World) (K : Act → World → Prop), K (a₁ x) W →
      assign.wpIn (F.inRound l) (n - 1 - 1) P (Exit.then K (fun _ _ _ => False)) { tmps := (ps.zip (encs x)).foldl (fun t (p, v) => t.setIfInBounds p v) a.tmps, defers := [] } W)
    (hbody : ∀ (l : Nat) (pre : List α) (x : α) (W : World), I pre W → ok x → body.wpIn (F.inRound l) (n - 1 - 1) P (keptPost B I Ix (pre ++ [x]) W) (a₁ x) W)
    (hdone : ∀ (D : Nat) (xs : List α) (W : World), w.heap.size ≤ D → S xs → I xs W → W.heap[D]? = some (.deferred (some [])) → Q .normal { a with defers := { target := .collected D, args := #[] } :: a.defers } W)
    (hstop : ∀ (D : Nat) (c : Code) (pre : List α) (W : World), w.heap.size ≤ D → Sp pre → Ix c pre W → W.heap[D]? = some (.deferred (some [])) → c.wpIn F n P Q { a with defers := { target := .collected D, args := #[] } :: a.defers } W) :
    (Code.rangeFunc g ps assign body).wpIn F n P Q a w := by
  refine wpIn_rangeFunc ?_
  intro fn hfn
  rw [hro]
  obtain ⟨rec, hrec⟩ : ∃ rec : LoopState → Option Code → Loop, rec = fun st pe => { state := st, pending := pe, fn, tmps := a.tmps, params := ps, assign, body, defers := w.heap.size } := ⟨_, rfl⟩
  obtain ⟨W1, hW1⟩ : ∃ W1, (w.alloc (.deferred (some []))).alloc (.loop (rec .ready none)) = W1 := ⟨_, rfl⟩
  have hL1 : W1.heap[w.heap.size + 1]? = some (.loop (rec .ready none)) := by
    rw [← hW1]; have := World.alloc_heap_new (w.alloc (.deferred (some []))) (.loop (rec .ready none)); rwa [World.size_alloc] at this
  have hK1 : W1.heap[w.heap.size]? = some (.deferred (some [])) := by
    rw [← hW1]; exact (Below.heap_alloc _ _ _ (by simp)).trans (World.alloc_heap_new w _)
  have hI1 : I [] W1 := by rw [← hW1]; exact hIa _ _ _ (hIa _ _ _ h0)
  have hp1 : P0 W1 := by rw [← hW1]; exact hP0 _ _ (hP0 _ _ hw0)
  have hfar : ∀ (W : World) (v : Value) (k : Nat), w.heap.size ≤ k → (W.setCell ⟨B, 0, none⟩ v).heap[k]? = W.heap[k]? := fun W v k hk => Below.heap_setCell W ⟨B, 0, none⟩ v k (by simp; omega)
  refine ⟨w.heap.size + 1, [{ target := .collected w.heap.size, args := #[] }], W1, { target := .fn (.func gf) lb, args := #[.func (.yield (w.heap.size + 1)) #[] #[]] }, W1, gf,
    #[.func (.yield (w.heap.size + 1)) #[] #[]] ++ lb, W1, ?_, ?_, ?_, ?_, fun _ => h1, ?_⟩
  · rw [← hW1, hrec]; exact run_enterLoop_outer _ _ _ _ _
  · simp only [resolve, hg]
    simp [go_sem]
  · intro f' hf'; simp [Target.leads] at hf'; subst hf'; exact hFg
  · simp [invoke, go_sem, eg]
  · refine (hseq (w.heap.size + 1)
      (fun pre W => I pre W ∧ W.heap[w.heap.size + 1]? = some (.loop (rec .ready none)) ∧ W.heap[w.heap.size]? = some (.deferred (some [])))
      (fun pre W => ∃ c, Ix c pre W ∧ W.heap[w.heap.size + 1]? = some (.loop (rec .done (some c))) ∧ W.heap[w.heap.size]? = some (.deferred (some [])))
      W1 (fun pre W v hs => ⟨hIB _ _ _ hs.1, (hfar W v _ (by omega)).trans hs.2.1, (hfar W v _ (by omega)).trans hs.2.2⟩) ?_ hp1 ⟨hI1, hL1, hK1⟩).mono ?_
    · rintro pre x W ⟨hi, hl, hk⟩ hok
      have hlt : w.heap.size + 1 < W.heap.size := (Array.getElem?_eq_some_iff.1 hl).1
      have hy := run_yield (P := P) (args := encs x) hl (by rw [hrec]; exact hps x)
      rw [hrec] at hy
      refine ⟨fn, _, assign, body, hy, roundIn_of_wpIn hfn (hassign _ x W _ ⟨_, run_beginRound hl (by rw [hrec]), ?_⟩)⟩
      have hl2 : (W.putObj (w.heap.size + 1) (.loop { rec .ready none with state := .busy })).heap[w.heap.size + 1]? = some (.loop { rec .ready none with state := .busy }) := World.putObj_heap_same hlt
      have hk2 : (W.putObj (w.heap.size + 1) (.loop { rec .ready none with state := .busy })).heap[w.heap.size]? = some (.deferred (some [])) := (World.putObj_heap_other (by omega)).trans hk
      have hw2 : Kept B W (W.putObj (w.heap.size + 1) (.loop { rec .ready none with state := .busy })) := fun k hk => World.putObj_heap_other (by omega)
      refine wpIn_mono (hbody _ pre x _ (hIp _ _ _ _ _ hi (by omega) hl rfl) hok) ?_
      have fin : ∀ (jump : Option Code) (W3 : World), KeepsOthers (W.putObj (w.heap.size + 1) (.loop { rec .ready none with state := .busy })) W3 →
          (Instr.endRound (w.heap.size + 1) jump).run P W3 = .ok (.bool jump.isNone) (W3.putObj (w.heap.size + 1) (.loop (rec (if jump.isNone then .ready else .done) jump))) ∧
          W3.heap[w.heap.size + 1]? = some (.loop { rec .ready none with state := .busy }) ∧
          (W3.putObj (w.heap.size + 1) (.loop (rec (if jump.isNone then .ready else .done) jump))).heap[w.heap.size + 1]? = some (.loop (rec (if jump.isNone then .ready else .done) jump)) ∧
          (W3.putObj (w.heap.size + 1) (.loop (rec (if jump.isNone then .ready else .done) jump))).heap[w.heap.size]? = some (.deferred (some [])) := fun jump W3 hk3 => by
        have hl3 := hk3.same _ _ hl2 rfl
        have := run_endRound (P := P) jump hl3
        rw [hrec] at this ⊢
        exact ⟨this, by rw [hrec] at hl3; exact hl3, World.putObj_heap_same (Array.getElem?_eq_some_iff.1 hl3).1, (World.putObj_heap_other (by omega)).trans (hk3.same _ _ hk2 rfl)⟩
      rintro e a3 W3 hp
      cases e with
      | normal =>
        obtain ⟨hk3, hkb, hi3⟩ := hp
        obtain ⟨hr, hl3, hl4, hk4⟩ := fin none W3 hk3
        exact ⟨_, _, hr, .inl ⟨rfl, ⟨hIp _ _ _ _ _ hi3 (by omega) hl3 rfl, hl4, hk4⟩, fun k hk => (World.putObj_heap_other (by omega)).trans ((hkb k hk).trans (hw2 k hk))⟩⟩
      | ret =>
        obtain ⟨hk3, hi3⟩ := hp
        obtain ⟨hr, hl3, hl4, hk4⟩ := fin (some .ret) W3 hk3
        exact ⟨_, _, hr, .inr ⟨rfl, .ret, hIxp _ _ _ _ _ _ hi3 (by omega) hl3 rfl, hl4, hk4⟩⟩
      | exit id =>
        obtain ⟨hk3, hi3⟩ := hp
        obtain ⟨hr, hl3, hl4, hk4⟩ := fin (some (.exit id)) W3 hk3
        exact ⟨_, _, hr, .inr ⟨rfl, .exit id, hIxp _ _ _ _ _ _ hi3 (by omega) hl3 rfl, hl4, hk4⟩⟩
      | goto t =>
        obtain ⟨hk3, hi3⟩ := hp
        obtain ⟨hr, hl3, hl4, hk4⟩ := fin (some (.goto t)) W3 hk3
        exact ⟨_, _, hr, .inr ⟨rfl, .goto t, hIxp _ _ _ _ _ _ hi3 (by omega) hl3 rfl, hl4, hk4⟩⟩
      | panic ch => exact hp.elim
      | outgrown => exact hp.elim
    · rintro e W2 ⟨⟨v, rfl⟩, (⟨xs, hS, hi, hl, hk⟩ | ⟨pre, hSp, c, hi, hl, hk⟩)⟩
      · exact ⟨none, _, by have := run_endLoop (P := P) hl (by rw [hrec]; simp); rw [hrec] at this; exact this, hdone _ xs _ (Nat.le_refl _) hS (hIp _ _ _ _ _ hi (by omega) hl rfl) ((World.putObj_heap_other (by omega)).trans hk)⟩
      · exact ⟨some c, _, by have := run_endLoop (P := P) hl (by rw [hrec]; simp); rw [hrec] at this; exact this, hstop _ c pre _ (Nat.le_refl _) hSp (hIxp _ _ _ _ _ _ hi (by omega) hl rfl) ((World.putObj_heap_other (by omega)).trans hk)⟩
end
def Good (pre : List ByteArray) : Prop := pre.all nameB = true ∧ pre.length ≤ 64
def Bad (pre : List ByteArray) : Prop := pre.all nameB = false ∨ 64 < pre.length
theorem putObj_box {W : World} {l k : Nat} {o o' : Obj} {t : TypeId} {v : Value} (h : Boxed W k t v) (hl : W.heap[l]? = some o) (ho : o.isCells = false) : Boxed (W.putObj l o') k t v := by
  have hne : k ≠ l := by
    rintro rfl
    rw [show W.heap[k]? = _ from h] at hl
    cases hl
    cases ho
  exact (World.putObj_heap_other hne).trans h
theorem putObj_below {w W : World} {l : Nat} {o : Obj} (h : Below w.heap.size w W) (hl : w.heap.size ≤ l) : Below w.heap.size w (W.putObj l o) :=
  ⟨h.os, h.tape, h.output, by simpa using h.size, fun k hk => (World.putObj_heap_other (by omega)).trans (h.block k hk)⟩
theorem others_of_below {W W' : World} (h : Below W.heap.size W W') : KeepsOthers W W' := ⟨h.size, fun k o hk _ => (h.block k (Array.getElem?_eq_some_iff.1 hk).1).trans hk⟩
theorem grownBy_of_below {W W' : World} (h : Below W.heap.size W W') : W.grownBy W' none := ⟨h.os, h.tape, h.output, h.size, fun i hi _ => h.block i hi⟩
theorem kept_of_below {W W' : World} {B : Nat} (h : Below W.heap.size W W') (hB : B + 2 < W.heap.size) : Kept B W W' := fun k hk => h.block k (by omega)
set_option maxRecDepth 100000 in
set_option maxHeartbeats 4000000 in
theorem valid_calls (s : ByteArray) (w : World) (hs : s.size ≤ 140737488355328) :
    Calls Tryz.prog 11 #[.string s] w fun e w' => e = .returned (.bool (validB s)) ∧ Below w.heap.size w w' := by
  refine (callsIn_wide (n := 8)).1 ?_
  have q1 : Fence.wide.fn 30 := trivial
  have HQ := Lib.hid (fun W : World => callsIn_wide (n := 8 - 1).2 (splitSeq_calls s W))
  refine callsIn_of_wp_marks Tryz.func11 rfl trivial ?_
  simp only [Tryz.ntmps11, List.size_toArray, List.length_cons, List.length_nil, Nat.reduceAdd, Nat.reduceSub, Array.replicate_succ, Array.replicate_zero, List.push_toArray, List.append_toArray, List.nil_append, List.cons_append]
  gi_wp2_with (gi_at_call 30; refine (HQ.out _).mono ?_; rintro e w1 ⟨rfl, hw1⟩; have HW1 := Lib.hid hw1; clear hw1)
  have b0 : Boxed w1 w.heap.size 4 (.bool false) := by rw [HW1.out]; exact ((((Boxed.new _ _ _).alloc _).alloc _).alloc _).alloc _
  have b1 : Boxed w1 (w.heap.size + 1) 3 (.int .i64 (([] : List ByteArray).length : Int)) := by
    rw [HW1.out]
    have h := (((Boxed.new (w.alloc (.cells #[.bool false] 4)) 3 (.int .i64 0)).alloc (.cells #[.string s] 9)).alloc (.cells #[.string ⟨#[47]⟩] 9)).alloc (.cells #[.int .i64 0] 3)
    simpa using h
  have b2 : Seq w1 (w.heap.size + 2) s := by
    rw [HW1.out]
    have h := Seq.new ((w.alloc (.cells #[.bool false] 4)).alloc (.cells #[.int .i64 0] 3)) s
    simpa using h
  have hb : Below w.heap.size w w1 := by rw [HW1.out]; exact balloc (balloc (balloc (balloc (balloc (Below.refl _ _) _) _) _) _) _
  have hsz : w1.heap.size = w.heap.size + 5 := by rw [HW1.out]; simp
  clear HW1 HQ q1
  refine wpIn_range_kept (α := ByteArray) (B := w.heap.size + 2) (P0 := fun W => Seq W (w.heap.size + 2) s) (encs := fun x => #[.string x]) (ok := fun x => x.size ≤ s.size) (S := fun xs => xs = pcs s) (Sp := fun pre => pre <+: pcs s) (gf := 78) (lb := #[.pointer (some ⟨w.heap.size + 3, 0, none⟩), .pointer (some ⟨w.heap.size + 2, 0, none⟩), .pointer (some ⟨w.heap.size + 4, 0, none⟩)])
    rfl (by decide) rfl trivial (enters_of Tryz.func78 (by kernel_rfl) rfl) (fun W o h => ⟨h.s.alloc o, h.p.alloc o, h.v.alloc o⟩) (by omega) b2
    (fun l J Jx W hJB hY hW h0 => (seq_in (8 - 1) l (w.heap.size + 2) s hs (by decide) J Jx hJB hY W hW h0).mono fun e W' ⟨he, h⟩ => ⟨he, h.imp (fun h => ⟨_, rfl, h⟩) (fun ⟨pre, h1, h2⟩ => ⟨pre, h1, h2⟩)⟩)
    (fun _ => rfl)
    (fun pre W => Boxed W w.heap.size 4 (.bool false) ∧ Boxed W (w.heap.size + 1) 3 (.int .i64 (pre.length : Int)) ∧ Hid (Good pre) ∧ w.heap.size + 5 ≤ W.heap.size ∧ Below w.heap.size w W)
    (fun c pre W => c = .ret ∧ Boxed W w.heap.size 4 (.bool false) ∧ Hid (Bad pre) ∧ Below w.heap.size w W)
    (fun pre W o ⟨h1, h2, h3, h5, h4⟩ => ⟨h1.alloc o, h2.alloc o, h3, by simp; omega, balloc h4 o⟩)
    (fun pre W l o o' ⟨h1, h2, h3, h5, h4⟩ hle hl ho => ⟨putObj_box h1 hl ho, putObj_box h2 hl ho, h3, by simpa using h5, putObj_below h4 (by omega)⟩)
    (fun c pre W l o o' ⟨h0, h1, h3, h4⟩ hle hl ho => ⟨h0, putObj_box h1 hl ho, h3, putObj_below h4 (by omega)⟩)
    (fun pre W v ⟨h1, h2, h3, h5, h4⟩ => ⟨(Below.heap_setCell W ⟨w.heap.size + 2, 0, none⟩ _ _ (by simp)).trans h1, (Below.heap_setCell W ⟨w.heap.size + 2, 0, none⟩ _ _ (by simp)).trans h2, h3, by simpa [World.setCell] using h5, h4.setCell (by simp) _⟩)
    ⟨b0, b1, Lib.hid ⟨by simp, by simp⟩, by omega, hb⟩
    (fun x => { tmps := #[.string s, undef, .pointer (some ⟨w.heap.size, 0, none⟩), .pointer (some ⟨w.heap.size + 1, 0, none⟩), .string x, .string s, .func (.func 78) #[] #[.pointer (some ⟨w.heap.size + 3, 0, none⟩), .pointer (some ⟨w.heap.size + 2, 0, none⟩), .pointer (some ⟨w.heap.size + 4, 0, none⟩)], .string x, undef, undef, undef, undef, undef, undef, undef, undef, undef, undef, undef, undef], defers := [] }) ?assign ?body ?done ?stop
  case assign =>
    intro l x W K hK
    gi_wp2
    exact hK
  case body =>
    rintro l pre x W ⟨hb0, hb1, hpre, hW5, hbel⟩ hx
    have c0 := hb0.cell
    have f0 := hb0.frozen
    have c1 := hb1.cell
    have f1 := hb1.frozen
    have hlt0 := hb0.lt
    have q1 : Fence.wide.fn 31 := trivial
    have hne : w.heap.size + 1 ≠ w.heap.size := by omega
    have s0 := Lib.hid (show Boxed (W.setCell ⟨w.heap.size + 1, 0, none⟩ (.int .i64 ((pre.length : Int) + 1))) w.heap.size 4 (.bool false) from (Below.heap_setCell W ⟨w.heap.size + 1, 0, none⟩ _ w.heap.size (by simp)).trans hb0)
    have s1 := Lib.hid (show Boxed (W.setCell ⟨w.heap.size + 1, 0, none⟩ (.int .i64 ((pre.length : Int) + 1))) (w.heap.size + 1) 3 (.int .i64 ((pre.length : Int) + 1)) from hb1.set _)
    have s2 := Lib.hid (show Below w.heap.size w (W.setCell ⟨w.heap.size + 1, 0, none⟩ (.int .i64 ((pre.length : Int) + 1))) from hbel.setCell (by simp) _)
    have s3 := Lib.hid (show Kept (w.heap.size + 2) W (W.setCell ⟨w.heap.size + 1, 0, none⟩ (.int .i64 ((pre.length : Int) + 1))) from fun k hk => Below.heap_setCell W ⟨w.heap.size + 1, 0, none⟩ _ k (by simp; omega))
    have e0 := s0.out.cell
    have e1 := s1.out.cell
    have g0 := s0.out.frozen
    have hpl := hpre.out.2
    by_cases h64 : pre.length = 64
    · have HX := Lib.hid (show Bad (pre ++ [x]) from .inr (by simp; omega))
      clear hpre s1 s3
      have h65 : (64 : Int) < (pre.length : Int) + 1 := by omega
      clear h64
      gi_wp2
      exact ⟨(KeepsOthers.setCell _ _ _).trans (KeepsOthers.setCell _ _ _), rfl, s0.out.set _, HX, s2.out.setCell (Nat.le_refl _) _⟩
    · have h65 : (pre.length : Int) + 1 ≤ 64 := by omega
      clear h64
      cases hnx : nameB x
      · have HC := Lib.hid (fun W' : World => (CallsIn.inRound (F := Fence.wide) (n := 8 - 1 - 1 - 1) l (callsIn_wide.2 (name_calls x W' (by omega)))))
        rw [hnx] at HC
        have HX := Lib.hid (show Bad (pre ++ [x]) from .inl (by simp [hnx]))
        clear hnx
        gi_wp2_with (gi_at_call 31; refine (HC.out _).mono ?_; rintro e w2 ⟨rfl, hb2⟩; have k0 := Boxed.kept (row := none) s0.out (grownBy_of_below hb2) (by simp); have kc := k0.cell; have kf := k0.frozen; have K2 := Lib.hid hb2; clear hb2)
        exact ⟨((KeepsOthers.setCell _ _ _).trans (others_of_below K2.out)).trans (KeepsOthers.setCell _ _ _), rfl, k0.set _, HX, (bgo s2.out K2.out).setCell (Nat.le_refl _) _⟩
      · have HC := Lib.hid (fun W' : World => (CallsIn.inRound (F := Fence.wide) (n := 8 - 1 - 1 - 1) l (callsIn_wide.2 (name_calls x W' (by omega)))))
        rw [hnx] at HC
        have HX := Lib.hid (show Good (pre ++ [x]) from ⟨by simp [hnx, hpre.out.1], by simp; omega⟩)
        clear hnx
        gi_wp2_with (gi_at_call 31; refine (HC.out _).mono ?_; rintro e w2 ⟨rfl, hb2⟩; have k0 := Boxed.kept (row := none) s0.out (grownBy_of_below hb2) (by simp); have k1 := Boxed.kept (row := none) s1.out (grownBy_of_below hb2) (by simp); have kc := k0.cell; have kf := k0.frozen; have K2 := Lib.hid hb2; clear hb2)
        exact ⟨(KeepsOthers.setCell _ _ _).trans (others_of_below K2.out), fun k hk => (kept_of_below K2.out (by simp [World.setCell]; omega) k hk).trans (s3.out k hk), k0, by simpa using k1, HX, Nat.le_trans (by simpa [World.setCell] using hW5) K2.out.size, bgo s2.out K2.out⟩
  case done =>
    rintro D xs W hD rfl ⟨hb0, hb1, hpre, hW5, hbel⟩ hK
    have c0 := hb0.cell
    have f0 := hb0.frozen
    have hK2 := Lib.hid (fun v => (KeepsOthers.setCell W ⟨w.heap.size, 0, none⟩ v).same D _ hK rfl)
    have hv : Hid (validB s = decide ((s.size : Int) ≤ 1024)) := Lib.hid (by
      unfold validB
      rw [hpre.out.1, decide_eq_true hpre.out.2]
      simp
      omega)
    have hbs := Lib.hid (fun v => hb0.set v)
    gi_wp2
    refine ⟨by simp, .inl ⟨_, _, rfl, run_takeDeferred (hK2.out _), ?_⟩⟩
    have hbx := putObj_box (o' := .deferred none) (hbs.out (.bool (decide ((s.size : Int) ≤ 1024)))) (hK2.out _) rfl
    have hcx := hbx.cell
    refine ⟨.bool (decide ((s.size : Int) ≤ 1024)), by simp [results, Tryz.results11, go_sem, hcx], ?_⟩
    rw [hv.out]
    exact ⟨rfl, putObj_below (hbel.setCell (Nat.le_refl _) _) (by omega)⟩
  case stop =>
    rintro D c pre W hD ⟨r, hr⟩ ⟨rfl, hb0, hbad, hbel⟩ hK
    have hv : Hid (validB s = false) := Lib.hid (by
      unfold validB
      rw [← hr, List.all_append, List.length_append]
      rcases hbad.out with h | h
      · rw [h]; simp
      · rw [decide_eq_false (show ¬ (pre.length + r.length ≤ 64) by omega)]; simp)
    have hbx := putObj_box (o' := .deferred none) hb0 hK rfl
    have hcx := Lib.hid hbx.cell
    have HK := Lib.hid hK
    clear hK
    gi_wp2
    refine ⟨by simp, .inl ⟨_, _, rfl, run_takeDeferred HK.out, ?_⟩⟩
    have hcy := hcx.out
    refine ⟨.bool false, by simp [results, Tryz.results11, go_sem, hcy], ?_⟩
    rw [hv.out]
    exact ⟨rfl, putObj_below hbel (by omega)⟩
end Go.Proofs.YtkmjbakiippfpaaGreatDoor.Rout
set_option linter.unusedVariables false
set_option linter.unusedSimpArgs false
namespace Go.Proofs.YtkmjbakiippfpaaGreatDoor.Rout
open Go.RowKit Go.BigFrame Go.Proofs.YtkmjbakiippfpaaGreatDoor.Reg Go.Proofs.YtkmjbakiippfpaaGreatDoorW.PrintWords
/-! ### the pieces, by the shelf's word -/
theorem cut_len : ∀ l : List UInt8, (cut l).length = l.count 47 + 1
  | [] => rfl
  | c :: r => by
    have h := cut_len r
    rw [show cut (c :: r) = if c = 47 then [] :: cut r else match cut r with | [] => [[c]] | p :: ps => (c :: p) :: ps from rfl, List.count_cons]
    by_cases hc : c = 47
    · rw [if_pos hc, hc]; simp; omega
    · rw [if_neg hc]
      have : (c == 47) = false := beq_eq_false_iff_ne.mpr hc
      rw [this]
      cases hr : cut r with
      | nil => exact absurd hr (cut_ne r)
      | cons p ps => rw [hr] at h; simpa using h
theorem pcs_len (s : ByteArray) : (pcs s).length = s.data.toList.count 47 + 1 := by unfold pcs; rw [List.length_map, cut_len]
theorem indexB_one (s : ByteArray) : Lib.indexB s ⟨#[47]⟩ = Lib.indexByte s.data.toList 47 := by
  show Lib.index s.data.toList [47] = _
  exact Lib.index_one _ _
theorem splitB_pcs : ∀ (k : Nat) (s : ByteArray), (pcs s).length ≤ k + 1 → Lib.splitB ⟨#[47]⟩ 0 k s = pcs s
  | 0, s, h => by
    have hge := Lib.indexByte_ge s.data.toList 47
    by_cases hm : Lib.indexByte s.data.toList 47 = -1
    · rw [pcs_miss s hm]; rfl
    · obtain ⟨m, hm2⟩ : ∃ m : Nat, Lib.indexByte s.data.toList 47 = (m : Int) := ⟨(Lib.indexByte s.data.toList 47).toNat, by omega⟩
      rw [(pcs_hit s m hm2).2] at h
      have := List.length_pos_iff.2 (pcs_ne (s.extract (m + 1) s.size))
      simp at h
      exact absurd h (pcs_ne _)
  | k + 1, s, h => by
    have hge := Lib.indexByte_ge s.data.toList 47
    by_cases hm : Lib.indexByte s.data.toList 47 = -1
    · rw [pcs_miss s hm, Lib.splitB_miss _ _ _ _ (by rw [indexB_one]; exact hm)]
    · obtain ⟨m, hm2⟩ : ∃ m : Nat, Lib.indexByte s.data.toList 47 = (m : Int) := ⟨(Lib.indexByte s.data.toList 47).toNat, by omega⟩
      rw [(pcs_hit s m hm2).2] at h ⊢
      rw [Lib.splitB_hit _ _ _ _ m (by rw [indexB_one]; exact hm2)]
      have e := splitB_pcs k (s.extract (m + 1) s.size) (by simpa using h)
      rw [show (m + (⟨#[47]⟩ : ByteArray).size) = m + 1 from rfl, e]
      rfl
/-! ### Parent -/
def parB (s : ByteArray) : ByteArray × Bool := if 0 ≤ Lib.lastIndexByte s 47 ∧ validB s = true then (s.extract 0 (Lib.lastIndexByte s 47).toNat, true) else (⟨#[]⟩, false)
theorem last_cases (s : ByteArray) : Lib.lastIndexByte s 47 = -1 ∨ ∃ i : Nat, i < s.size ∧ Lib.lastIndexByte s 47 = i := by
  rcases Lib.lastIdx_spec s 47 s.size with h | h
  · exact .inl h.1
  · obtain ⟨i, h1, h2, _⟩ := h
    exact .inr ⟨i, h1, h2⟩
set_option maxHeartbeats 2000000 in
theorem parent_calls (s : ByteArray) (w : World) (hs : s.size ≤ 140737488355328) :
    Calls Tryz.prog 12 #[.string s] w fun e w' => e = .returned (.tuple #[.string (parB s).1, .bool (parB s).2]) ∧ Below w.heap.size w w' := by
  have HL := Lib.hid (Tryz.strings_LastIndexByte s 47 (by omega))
  have HV := Lib.hid (fun W => valid_calls s W hs)
  have HP := Lib.hid (show parB s = if 0 ≤ Lib.lastIndexByte s 47 ∧ validB s = true then (s.extract 0 (Lib.lastIndexByte s 47).toNat, true) else (⟨#[]⟩, false) from rfl)
  rcases last_cases s with hl | ⟨i, hi, hl⟩
  · rw [hl] at HL HP
    have HE := Lib.hid (show parB s = (⟨#[]⟩, false) by rw [HP.out]; simp)
    clear hl HP
    go_enter Tryz.func12, Tryz.ntmps12
    go_wp2_with (go_at_call 32; refine (HL.out _).mono ?_; rintro e w' ⟨rfl, rfl⟩)
    go_ret2
    rw [HE.out]
    exact ⟨rfl, Below.refl _ _⟩
  · rw [hl] at HL HP
    cases hv : validB s
    · rw [hv] at HV HP
      have HE := Lib.hid (show parB s = (⟨#[]⟩, false) by rw [HP.out]; simp)
      clear hl HP hv
      go_enter Tryz.func12, Tryz.ntmps12
      go_wp2_with (first
        | (go_at_call 32; refine (HL.out _).mono ?_; rintro e w' ⟨rfl, rfl⟩)
        | (go_at_call 11; refine (HV.out _).mono ?_; rintro e w1 ⟨rfl, hb⟩))
      go_ret2
      rw [HE.out]
      exact ⟨rfl, hb⟩
    · rw [hv] at HV HP
      have HE := Lib.hid (show parB s = (s.extract 0 i, true) by rw [HP.out]; simp)
      clear hl HP hv
      go_enter Tryz.func12, Tryz.ntmps12
      go_wp2_with (first
        | (go_at_call 32; refine (HL.out _).mono ?_; rintro e w' ⟨rfl, rfl⟩)
        | (go_at_call 11; refine (HV.out _).mono ?_; rintro e w1 ⟨rfl, hb⟩))
      go_ret2
      rw [HE.out]
      exact ⟨rfl, hb⟩
/-! ### Split -/
theorem split_calls (s : ByteArray) (w : World) (hs : s.size < 4294967281) :
    Calls Tryz.prog 35 #[.string s, .string ⟨#[47]⟩] w fun e w' => e = .returned (.slice (some ⟨w.heap.size, 0, none⟩) (pcs s).length (pcs s).length) ∧ w' = w.alloc (.cells ((pcs s).map Value.string).toArray 9) := by
  have hcnt : Lib.countB s ⟨#[47]⟩ = s.data.toList.count 47 := Lib.count_one 47 s.data.toList
  have hle : s.data.toList.count 47 ≤ s.size := by rw [← size_data]; exact List.count_le_length
  have c := Tryz.strings_genSplit_core s ⟨#[47]⟩ 0 (-1) (pcs s).length w hs (by decide) (by decide)
    (fun x c hx => (Tryz.strings_Index_one x 47 _).mono fun e w' ⟨h1, h2⟩ => ⟨by rw [indexB_one]; exact h1, h2⟩)
    ((Tryz.strings_Count_one s 47 w).mono fun e w' ⟨h1, h2⟩ => ⟨by rw [hcnt]; exact h1, h2⟩)
    (by decide) (by decide) (by rw [if_pos (by decide), hcnt, pcs_len]; omega)
  rw [splitB_pcs _ s (by omega)] at c
  have e2 : Lib.cellsOf (pcs s) (pcs s).length = ((pcs s).map Value.string).toArray := Lib.cellsOf_full _
  rw [e2] at c
  have C := Lib.hid c
  clear c e2 hcnt hle
  go_enter Tryz.func35, Tryz.ntmps35
  go_wp2_with (go_at_call 58; refine C.out.mono ?_; rintro e w' ⟨rfl, hw⟩; rw [hw])
  go_ret
  exact ⟨rfl, rfl⟩
/-! ### Compare -/
def cmpB (a b : ByteArray) : Int := if Op.bytesLess a.toList b.toList = true then -1 else if (a.toList == b.toList) = true then 0 else 1
set_option maxHeartbeats 2000000 in
theorem cmp_calls (a b : ByteArray) (w : World) : Calls Tryz.prog 57 #[.string a, .string b] w fun e w' => e = .returned (.int .i64 (cmpB a b)) ∧ w = w' := by
  have HE := Lib.hid (show cmpB a b = if Op.bytesLess a.toList b.toList = true then -1 else if (a.toList == b.toList) = true then 0 else 1 from rfl)
  cases h1 : Op.bytesLess a.toList b.toList
  · cases h2 : (a.toList == b.toList)
    · rw [h1, h2] at HE
      have HX := Lib.hid (show cmpB a b = 1 by rw [HE.out]; simp)
      clear HE
      go_enter Tryz.func57, Tryz.ntmps57
      go_wp2
      go_ret
      rw [HX.out]
      exact ⟨rfl, rfl⟩
    · rw [h1, h2] at HE
      have HX := Lib.hid (show cmpB a b = 0 by rw [HE.out]; simp)
      clear HE
      go_enter Tryz.func57, Tryz.ntmps57
      go_wp2
      go_ret
      rw [HX.out]
      exact ⟨rfl, rfl⟩
  · rw [h1] at HE
    have HX := Lib.hid (show cmpB a b = -1 by rw [HE.out]; simp)
    clear HE
    go_enter Tryz.func57, Tryz.ntmps57
    go_wp2
    go_ret
    rw [HX.out]
    exact ⟨rfl, rfl⟩
def cmpL : List ByteArray → List ByteArray → Int
  | [], [] => 0
  | [], _ :: _ => -1
  | _ :: _, [] => 1
  | a :: r, b :: q => if cmpB a b = 0 then cmpL r q else cmpB a b
theorem cmpL_end (xs ys : List ByteArray) (k : Nat) (h : xs.length ≤ k) (hk : k ≤ ys.length) (hx : k ≤ xs.length) : cmpL (xs.drop k) (ys.drop k) = if xs.length < ys.length then -1 else 0 := by
  rw [List.drop_of_length_le h]
  cases hd : ys.drop k with
  | nil =>
    have := List.drop_eq_nil_iff.1 hd
    rw [if_neg (by omega)]; rfl
  | cons y r =>
    have : k < ys.length := by
      rcases Nat.lt_or_ge k ys.length with h | h
      · exact h
      · rw [List.drop_of_length_le h] at hd; cases hd
    rw [if_pos (by omega)]; rfl
theorem cmpL_out (xs ys : List ByteArray) (k : Nat) (h : k < xs.length) (hk : ys.length ≤ k) : cmpL (xs.drop k) (ys.drop k) = 1 := by
  rw [List.drop_eq_getElem_cons h, List.drop_of_length_le hk]
  rfl
theorem cmpL_in (xs ys : List ByteArray) (k : Nat) (h : k < xs.length) (hk : k < ys.length) : cmpL (xs.drop k) (ys.drop k) = if cmpB (rdOf ByteArray.empty xs k) (rdOf ByteArray.empty ys k) = 0 then cmpL (xs.drop (k + 1)) (ys.drop (k + 1)) else cmpB (rdOf ByteArray.empty xs k) (rdOf ByteArray.empty ys k) := by
  rw [List.drop_eq_getElem_cons h, List.drop_eq_getElem_cons hk]
  have e1 : rdOf ByteArray.empty xs (k : Int) = xs[k] := by unfold rdOf; rw [Int.toNat_natCast, List.getD_eq_getElem?_getD, List.getElem?_eq_getElem h]; rfl
  have e2 : rdOf ByteArray.empty ys (k : Int) = ys[k] := by unfold rdOf; rw [Int.toNat_natCast, List.getD_eq_getElem?_getD, List.getElem?_eq_getElem hk]; rfl
  rw [e1, e2]
  rfl
set_option maxHeartbeats 4000000 in
theorem compareL_calls (A B : Option Addr) (c d : Nat) (xs ys : List ByteArray) (w : World) (hx : Kd.string.C w A xs.length xs) (hy : Kd.string.C w B ys.length ys) (lx : xs.length ≤ 8796093022208) (ly : ys.length ≤ 8796093022208) :
    Calls Tryz.prog 34 #[.slice A xs.length c, .slice B ys.length d] w fun e w' => e = .returned (.int .i64 (cmpL xs ys)) ∧ w = w' := by
  have HX := Lib.hid hx
  have HY := Lib.hid hy
  clear hx hy
  go_enter Tryz.func34, Tryz.ntmps34
  go_wp2
  go_loop [5, 6, 7, 8, 11] (fun _ _ _ _ i => ∃ k : Nat, i = .int .i64 k ∧ k ≤ xs.length ∧ k ≤ ys.length ∧ Hid (cmpL (xs.drop k) (ys.drop k) = cmpL xs ys)) (fun _ _ _ _ i => (xs.length - intOf i).toNat)
  case atStart => exact ⟨0, rfl, by omega, by omega, Lib.hid rfl⟩
  case round =>
    obtain ⟨k, rfl, hk, hk2, he⟩ := hrel
    by_cases h1 : k < xs.length
    · obtain ⟨ad1, hA, c1⟩ := Kd.at_string HX.out (k : Int) (by omega) (by omega)
      subst hA
      rw [Int.toNat_natCast] at c1
      by_cases h2 : k < ys.length
      · obtain ⟨ad2, hB, c2⟩ := Kd.at_string HY.out (k : Int) (by omega) (by omega)
        subst hB
        rw [Int.toNat_natCast] at c2
        have hin := Lib.hid (cmpL_in xs ys k h1 h2)
        generalize rdOf ByteArray.empty xs (k : Int) = x at *
        generalize rdOf ByteArray.empty ys (k : Int) = y at *
        have HC := Lib.hid (cmp_calls x y)
        by_cases hz : cmpB x y = 0
        · rw [hz] at HC hin
          have HN := Lib.hid (show cmpL (xs.drop (k + 1)) (ys.drop (k + 1)) = cmpL xs ys by rw [← he.out, hin.out]; simp)
          clear hin hz he
          go_wp2_with (go_at_call 57; refine (HC.out _).mono ?_; rintro e w' ⟨rfl, rfl⟩)
          go_round
          case rel => exact ⟨k + 1, by go_num, by omega, by omega, HN⟩
          case measure => simp [intOf]; omega
        · have hz2 : (cmpB x y != 0) = true := by simpa using hz
          have HN := Lib.hid (show cmpB x y = cmpL xs ys by rw [← he.out, hin.out, if_neg hz])
          clear hin hz he
          generalize cmpB x y = z at *
          go_wp2_with (go_at_call 57; refine (HC.out _).mono ?_; rintro e w' ⟨rfl, rfl⟩)
          go_ret
          rw [← HN.out]
          exact ⟨rfl, rfl⟩
      · have HN := Lib.hid (show (1 : Int) = cmpL xs ys by rw [← he.out, cmpL_out xs ys k h1 (by omega)])
        clear he
        go_wp2
        go_ret
        rw [← HN.out]
        exact ⟨rfl, rfl⟩
    · have HN := Lib.hid (show cmpL xs ys = if xs.length < ys.length then -1 else 0 by rw [← he.out, cmpL_end xs ys k (by omega) (by omega) (by omega)])
      clear he
      by_cases h3 : xs.length < ys.length
      · rw [if_pos h3] at HN
        go_wp2
        go_ret
        rw [HN.out]
        exact ⟨rfl, rfl⟩
      · rw [if_neg h3] at HN
        go_wp2
        go_ret
        rw [HN.out]
        exact ⟨rfl, rfl⟩
theorem strs_C (w : World) (xs : List ByteArray) (h : xs.length ≤ 9223372036854775807) : Kd.string.C (w.alloc (.cells (xs.map Value.string).toArray 9)) (some ⟨w.heap.size, 0, none⟩) xs.length xs := by
  have hown := own_lit_of (enc := Value.string) w w.heap.size 9 xs (Nat.le_refl _) h
  have hR : Kd.string.R 9 (w.alloc (.cells (encs Value.string xs).toArray 9)) w.heap.size (fun _ => True) (.slice (some ⟨w.heap.size, 0, none⟩) xs.length xs.length) xs := Kd.R_of_own hown (fun _ _ => trivial)
  exact (Kd.R_reads' hR).2.2
theorem split_any (s : ByteArray) (w : World) (hs : s.size < 4294967281) :
    Calls Tryz.prog 35 #[.string s, .string ⟨#[47]⟩] w fun e w' => ∃ A, e = .returned (.slice A (pcs s).length (pcs s).length) ∧ Kd.string.C w' A (pcs s).length (pcs s) ∧ Below w.heap.size w w' := by
  have hl : (pcs s).length ≤ 9223372036854775807 := by rw [pcs_len]; have := List.count_le_length (a := (47 : UInt8)) (l := s.data.toList); rw [size_data] at this; omega
  refine (split_calls s w hs).mono fun e w' ⟨he, hw⟩ => ⟨_, he, ?_, ?_⟩
  · rw [hw]; exact strs_C w (pcs s) hl
  · rw [hw]; exact balloc (Below.refl _ _) _
def compB (a b : ByteArray) : Int := cmpL (pcs a) (pcs b)
set_option maxRecDepth 100000 in
set_option maxHeartbeats 4000000 in
theorem compare_calls (a b : ByteArray) (w : World) (ha : a.size ≤ 1024) (hb : b.size ≤ 1024) :
    Calls Tryz.prog 14 #[.string a, .string b] w fun e w' => e = .returned (.int .i64 (compB a b)) ∧ Below w.heap.size w w' := by
  have la : (pcs a).length ≤ 1025 := by rw [pcs_len]; have := List.count_le_length (a := (47 : UInt8)) (l := a.data.toList); rw [size_data] at this; omega
  have lb : (pcs b).length ≤ 1025 := by rw [pcs_len]; have := List.count_le_length (a := (47 : UInt8)) (l := b.data.toList); rw [size_data] at this; omega
  have tok : True := trivial
  have C1 := Lib.hid (fun W => split_any a W (by omega))
  have C2 := Lib.hid (fun W => split_any b W (by omega))
  go_enter Tryz.func14, Tryz.ntmps14
  go_wp2_with (first
    | (go_at_call 34; refine (compareL_calls _ _ _ _ _ _ _ HX.out HY.out (by omega) (by omega)).mono ?_; rintro e w3 ⟨rfl, rfl⟩)
    | (go_at_call 35; have _t := tok; with_reducible refine (C1.out _).mono ?_; rintro e w1 ⟨A1, rfl, h1, hb1⟩; have H1 := Lib.hid h1; have B1 := Lib.hid hb1; clear h1 hb1 tok)
    | (go_at_call 35; with_reducible refine (C2.out _).mono ?_; rintro e w2 ⟨A2, rfl, h2, hb2⟩; have HY := Lib.hid h2; have HX := Lib.hid (Kd.C_below H1.out hb2); have B2 := Lib.hid (bgo B1.out hb2); clear h2 hb2))
  go_ret
  exact ⟨rfl, B2.out⟩
end Go.Proofs.YtkmjbakiippfpaaGreatDoor.Rout
set_option linter.unusedVariables false
namespace Go.Proofs.YtkmjbakiippfpaaGreatDoor.Node
open Go.RowKit Go.Proofs.YtkmjbakiippfpaaGreatDoorW.PrintWords Go.Proofs.YtkmjbakiippfpaaGreatDoorW.PrintLast Go.Proofs.YtkmjbakiippfpaaGreatDoorW.PrintMore
/-- f0: the kind; f1: the path; f2: the bytes; f3: the mode; f4: the time. -/
structure Nd where
  f0 : Int
  f1 : ByteArray
  f2 : (List Int)
  f3 : Int
  f4 : Int
def zN : Nd := ⟨(0 : Int), (⟨#[]⟩ : ByteArray), ([] : List Int), (0 : Int), (0 : Int)⟩
def kN : Kd Nd := Kd.iso (Kd.pair (Kd.int .i64) (Kd.pair Kd.string (Kd.pair (Kd.slice 5 (Kd.int .u8)) (Kd.pair (Kd.int .i64) (Kd.int .i64))))) (fun x : Nd => (x.f0, x.f1, x.f2, x.f3, x.f4))
theorem kN_open {w : World} {x : Nd} {cs : List Value} (h : kN.K w x cs) : ∃ A2 c2, cs = [.int .i64 x.f0, .string x.f1, .slice A2 x.f2.length c2, .int .i64 x.f3, .int .i64 x.f4] ∧ x.f2.length ≤ c2 ∧ (Kd.int .u8).C w A2 x.f2.length x.f2 := by
  obtain ⟨_, _, rfl, rfl, ⟨_, _, rfl, rfl, ⟨_, _, rfl, ⟨A2, c2, rfl, l2, g2⟩, ⟨_, _, rfl, rfl, rfl⟩⟩⟩⟩ := h
  exact ⟨A2, c2, rfl, l2, g2⟩
theorem kN_openM {w : World} {base : Nat} {ok : Nat → Prop} {x : Nd} {cs : List Value} (h : kN.M w base ok x cs) : ∃ v2, cs = [.int .i64 x.f0, .string x.f1, v2, .int .i64 x.f3, .int .i64 x.f4] ∧ (Kd.int .u8).R 5 w base ok v2 x.f2 := by
  obtain ⟨_, _, rfl, rfl, ⟨_, _, rfl, rfl, ⟨_, _, rfl, ⟨v2, rfl, g2⟩, ⟨_, _, rfl, rfl, rfl⟩⟩⟩⟩ := h
  exact ⟨v2, rfl, g2⟩
theorem kN_mk (w : World) (x : Nd) {A2 : Option Addr} {c2 : Nat} (l2 : x.f2.length ≤ c2) (g2 : (Kd.int .u8).C w A2 x.f2.length x.f2) : kN.K w x [.int .i64 x.f0, .string x.f1, .slice A2 x.f2.length c2, .int .i64 x.f3, .int .i64 x.f4] := ⟨[.int .i64 x.f0], [.string x.f1, .slice A2 x.f2.length c2, .int .i64 x.f3, .int .i64 x.f4], rfl, rfl, ⟨[.string x.f1], [.slice A2 x.f2.length c2, .int .i64 x.f3, .int .i64 x.f4], rfl, rfl, ⟨[.slice A2 x.f2.length c2], [.int .i64 x.f3, .int .i64 x.f4], rfl, ⟨A2, c2, rfl, l2, g2⟩, ⟨[.int .i64 x.f3], [.int .i64 x.f4], rfl, rfl, rfl⟩⟩⟩⟩
theorem kN_mkM (w : World) (base : Nat) (ok : Nat → Prop) (x : Nd) {v2 : Value} (g2 : (Kd.int .u8).R 5 w base ok v2 x.f2) : kN.M w base ok x [.int .i64 x.f0, .string x.f1, v2, .int .i64 x.f3, .int .i64 x.f4] := ⟨[.int .i64 x.f0], [.string x.f1, v2, .int .i64 x.f3, .int .i64 x.f4], rfl, rfl, ⟨[.string x.f1], [v2, .int .i64 x.f3, .int .i64 x.f4], rfl, rfl, ⟨[v2], [.int .i64 x.f3, .int .i64 x.f4], rfl, ⟨v2, rfl, g2⟩, ⟨[.int .i64 x.f3], [.int .i64 x.f4], rfl, rfl, rfl⟩⟩⟩⟩
theorem kN_openF {W : World} {ok : Nat → Prop} {x : Nd} {cs : List Value} (h : Kd.FK kN W ok x cs) : ∃ A2 c2, cs = [.int .i64 x.f0, .string x.f1, .slice A2 x.f2.length c2, .int .i64 x.f3, .int .i64 x.f4] ∧ x.f2.length ≤ c2 ∧ Kd.F (Kd.int .u8) W ok A2 x.f2.length x.f2 := by
  obtain ⟨A2, c2, rfl, l2, _⟩ := kN_open (Kd.FK_now h)
  exact ⟨A2, c2, rfl, l2, (fun W' hW => by obtain ⟨A2_, c2_, he, l2_, g2_⟩ := kN_open (h W' hW); injection (Option.some.inj (show some (Value.slice A2 x.f2.length c2) = some (Value.slice A2_ x.f2.length c2_) from congrArg (fun l => l[2]?) he)) with ha_ _ _; rw [ha_]; exact g2_)⟩
theorem kN_mkF (W : World) (ok : Nat → Prop) (x : Nd) {A2 : Option Addr} {c2 : Nat} (l2 : x.f2.length ≤ c2) (g2 : Kd.F (Kd.int .u8) W ok A2 x.f2.length x.f2) : Kd.FK kN W ok x [.int .i64 x.f0, .string x.f1, .slice A2 x.f2.length c2, .int .i64 x.f3, .int .i64 x.f4] := fun W2 hW => kN_mk W2 x l2 (g2 W2 hW)
def rdN (xs : List Nd) (i : Int) : Nd := xs.getD i.toNat zN
theorem atN {w : World} {A : Option Addr} {n : Nat} {xs : List Nd} (h : Kd.C kN w A n xs) (i : Int) (h0 : 0 ≤ i) (h1 : i < n) : ∃ ad A2 c2, A = some ad ∧ w.cell? (ad.add (i.toNat * 5)) = some (.int .i64 (rdN xs i).f0) ∧ w.cell? ⟨(ad.add (i.toNat * 5)).block, (ad.add (i.toNat * 5)).off + 1, none⟩ = some (.string (rdN xs i).f1) ∧ w.cell? ⟨(ad.add (i.toNat * 5)).block, (ad.add (i.toNat * 5)).off + 2, none⟩ = some (.slice A2 (rdN xs i).f2.length c2) ∧ w.cell? ⟨(ad.add (i.toNat * 5)).block, (ad.add (i.toNat * 5)).off + 3, none⟩ = some (.int .i64 (rdN xs i).f3) ∧ w.cell? ⟨(ad.add (i.toNat * 5)).block, (ad.add (i.toNat * 5)).off + 4, none⟩ = some (.int .i64 (rdN xs i).f4) ∧ (rdN xs i).f2.length ≤ c2 ∧ (Kd.int .u8).C w A2 (rdN xs i).f2.length (rdN xs i).f2 := by
  obtain ⟨ad, c, e, _, hK, hc0⟩ := Kd.C_get h zN i h0 h1
  have hc : ∀ j u, c[j]? = some u → w.cell? (ad.add (i.toNat * 5 + j)) = some u := hc0
  obtain ⟨A2, c2, rfl, l2, g2⟩ := kN_open hK
  exact ⟨ad, A2, c2, e, hc 0 _ rfl, by rw [← add_field _ _ 1 (by omega)]; exact hc 1 _ rfl, by rw [← add_field _ _ 2 (by omega)]; exact hc 2 _ rfl, by rw [← add_field _ _ 3 (by omega)]; exact hc 3 _ rfl, by rw [← add_field _ _ 4 (by omega)]; exact hc 4 _ rfl, l2, g2⟩

end Go.Proofs.YtkmjbakiippfpaaGreatDoor.Node
set_option linter.unusedVariables false
set_option linter.unusedSimpArgs false
namespace Go.Proofs.YtkmjbakiippfpaaGreatDoor.Tree
open Go.RowKit Go.BigFrame Go.Proofs.YtkmjbakiippfpaaGreatDoor.Reg Go.Proofs.YtkmjbakiippfpaaGreatDoor.Rout Go.Proofs.YtkmjbakiippfpaaGreatDoor.Node Go.Proofs.YtkmjbakiippfpaaGreatDoorW.PrintWords Go.Proofs.YtkmjbakiippfpaaGreatDoorW.PrintLast Go.Proofs.YtkmjbakiippfpaaGreatDoorW.PrintMore
def kindB (x : Nd) : Bool := if x.f0 = 1 then decide ((x.f2.length : Int) = 0) else if x.f0 = 2 then decide ((x.f2.length : Int) ≤ 268435456) else if x.f0 = 3 then decide (1 ≤ x.f2.length ∧ x.f2.length ≤ 1024) && x.f2.all (fun b => b != 0) else false
def mayB (x : Nd) : Bool := decide (0 ≤ x.f3 ∧ x.f3 ≤ 4095 ∧ -1099511627776 ≤ x.f4 ∧ x.f4 ≤ 1099511627776) && kindB x
/-- What is asked of a node: bytes are bytes, and it lies in memory. -/
structure Ok (x : Nd) : Prop where
  by_ : ∀ b ∈ x.f2, 0 ≤ b ∧ b ≤ 255
  ps : x.f1.size ≤ 140737488351232
  ds : x.f2.length ≤ 140737488351232
theorem may_out (x : Nd) (h : ¬ (0 ≤ x.f3 ∧ x.f3 ≤ 4095 ∧ -1099511627776 ≤ x.f4 ∧ x.f4 ≤ 1099511627776)) : mayB x = false := by unfold mayB; rw [decide_eq_false h]; rfl
theorem may_in (x : Nd) (h : 0 ≤ x.f3 ∧ x.f3 ≤ 4095 ∧ -1099511627776 ≤ x.f4 ∧ x.f4 ≤ 1099511627776) : mayB x = kindB x := by unfold mayB; rw [decide_eq_true h]; rfl
theorem zero_find : ∀ xs : List Int, (∀ b ∈ xs, 0 ≤ b ∧ b ≤ 255) → (xs.all (fun b => b != 0) = true ∧ Lib.indexByte (Lib.bytesOf xs) 0 = -1) ∨ (xs.all (fun b => b != 0) = false ∧ 0 ≤ Lib.indexByte (Lib.bytesOf xs) 0)
  | [], _ => .inl ⟨rfl, rfl⟩
  | b :: r, h => by
    have hb := h b (by simp)
    have hr := zero_find r (fun c hc => h c (by simp [hc]))
    have hge := Lib.indexByte_ge (Lib.bytesOf r) 0
    have e1 : Lib.bytesOf (b :: r) = b.toNat.toUInt8 :: Lib.bytesOf r := rfl
    rw [e1, List.all_cons]
    unfold Lib.indexByte
    by_cases h0 : b = 0
    · subst h0
      right
      exact ⟨by simp, by simp⟩
    · have h1 : (b.toNat.toUInt8 == 0) = false := by
        rw [beq_eq_false_iff_ne]
        intro e
        have := congrArg UInt8.toNat e
        simp at this
        omega
      have h2 : (b != 0) = true := by simpa using h0
      rw [h1, h2]
      rcases hr with ⟨r1, r2⟩ | ⟨r1, r2⟩
      · left
        exact ⟨by rw [r1]; rfl, by rw [r2]; rfl⟩
      · right
        refine ⟨by rw [r1]; rfl, ?_⟩
        rw [if_neg (by decide), if_neg (by simp; omega)]
        omega
set_option maxHeartbeats 4000000 in
theorem may_calls (x : Nd) (A : Option Addr) (c : Nat) (w : World) (hC : (Kd.int .u8).C w A x.f2.length x.f2) (hok : Ok x) :
    Calls Tryz.prog 13 #[.agg #[.int .i64 x.f0, .string x.f1, .slice A x.f2.length c, .int .i64 x.f3, .int .i64 x.f4]] w fun e w' => e = .returned (.bool (mayB x)) ∧ Below w.heap.size w w' := by
  have hds := hok.ds
  by_cases h1 : x.f3 < 0
  · have e := Lib.hid (show mayB x = false from may_out x (by omega))
    go_enter Tryz.func13, Tryz.ntmps13
    go_wp2
    go_ret
    exact ⟨ret_bool (by first | exact e.out.symm | (rw [e.out]; simp only [decide_eq_true_eq, decide_eq_false_iff_not]; omega)), by repeat (first | with_reducible exact Below.refl _ _ | apply balloc)⟩
  by_cases h2 : 4095 < x.f3
  · have e := Lib.hid (show mayB x = false from may_out x (by omega))
    go_enter Tryz.func13, Tryz.ntmps13
    go_wp2
    go_ret
    exact ⟨ret_bool (by first | exact e.out.symm | (rw [e.out]; simp only [decide_eq_true_eq, decide_eq_false_iff_not]; omega)), by repeat (first | with_reducible exact Below.refl _ _ | apply balloc)⟩
  by_cases h3 : x.f4 < -1099511627776
  · have e := Lib.hid (show mayB x = false from may_out x (by omega))
    go_enter Tryz.func13, Tryz.ntmps13
    go_wp2
    go_ret
    exact ⟨ret_bool (by first | exact e.out.symm | (rw [e.out]; simp only [decide_eq_true_eq, decide_eq_false_iff_not]; omega)), by repeat (first | with_reducible exact Below.refl _ _ | apply balloc)⟩
  by_cases h4 : 1099511627776 < x.f4
  · have e := Lib.hid (show mayB x = false from may_out x (by omega))
    go_enter Tryz.func13, Tryz.ntmps13
    go_wp2
    go_ret
    exact ⟨ret_bool (by first | exact e.out.symm | (rw [e.out]; simp only [decide_eq_true_eq, decide_eq_false_iff_not]; omega)), by repeat (first | with_reducible exact Below.refl _ _ | apply balloc)⟩
  have hin := Lib.hid (may_in x (by omega))
  have hk := Lib.hid (show kindB x = if x.f0 = 1 then decide ((x.f2.length : Int) = 0) else if x.f0 = 2 then decide ((x.f2.length : Int) ≤ 268435456) else if x.f0 = 3 then decide (1 ≤ x.f2.length ∧ x.f2.length ≤ 1024) && x.f2.all (fun b => b != 0) else false from rfl)
  by_cases k1 : x.f0 = 1
  · by_cases d : x.f2.length = 0
    · have e := Lib.hid (show mayB x = true from by rw [hin.out, hk.out, if_pos k1, decide_eq_true (by omega)])
      go_enter Tryz.func13, Tryz.ntmps13
      go_wp2
      go_ret
      exact ⟨ret_bool (by first | exact e.out.symm | (rw [e.out]; simp only [decide_eq_true_eq, decide_eq_false_iff_not]; omega)), by repeat (first | with_reducible exact Below.refl _ _ | apply balloc)⟩
    · have dn : ((x.f2.length : Int) == 0) = false := beq_eq_false_iff_ne.mpr (by omega)
      have e := Lib.hid (show mayB x = false from by rw [hin.out, hk.out, if_pos k1, decide_eq_false (by omega)])
      go_enter Tryz.func13, Tryz.ntmps13
      go_wp2
      go_ret
      exact ⟨ret_bool (by first | exact e.out.symm | (rw [e.out]; simp only [decide_eq_true_eq, decide_eq_false_iff_not]; omega)), by repeat (first | with_reducible exact Below.refl _ _ | apply balloc)⟩
  by_cases k2 : x.f0 = 2
  · have k1n : (x.f0 == 1) = false := beq_eq_false_iff_ne.mpr k1
    by_cases d : x.f2.length ≤ 268435456
    · have e := Lib.hid (show mayB x = true from by rw [hin.out, hk.out, if_neg k1, if_pos k2, decide_eq_true (by omega)])
      go_enter Tryz.func13, Tryz.ntmps13
      go_wp2
      go_ret
      exact ⟨ret_bool (by first | exact e.out.symm | (rw [e.out]; simp only [decide_eq_true_eq, decide_eq_false_iff_not]; omega)), by repeat (first | with_reducible exact Below.refl _ _ | apply balloc)⟩
    · have e := Lib.hid (show mayB x = false from by rw [hin.out, hk.out, if_neg k1, if_pos k2, decide_eq_false (by omega)])
      go_enter Tryz.func13, Tryz.ntmps13
      go_wp2
      go_ret
      exact ⟨ret_bool (by first | exact e.out.symm | (rw [e.out]; simp only [decide_eq_true_eq, decide_eq_false_iff_not]; omega)), by repeat (first | with_reducible exact Below.refl _ _ | apply balloc)⟩
  by_cases k3 : x.f0 = 3
  · have k1n : (x.f0 == 1) = false := beq_eq_false_iff_ne.mpr k1
    have k2n : (x.f0 == 2) = false := beq_eq_false_iff_ne.mpr k2
    by_cases d : x.f2.length = 0
    · have e := Lib.hid (show mayB x = false from by rw [hin.out, hk.out, if_neg k1, if_neg k2, if_pos k3, decide_eq_false (by omega)]; rfl)
      go_enter Tryz.func13, Tryz.ntmps13
      go_wp2
      go_ret
      exact ⟨ret_bool (by first | exact e.out.symm | (rw [e.out]; simp only [decide_eq_true_eq, decide_eq_false_iff_not]; omega)), by repeat (first | with_reducible exact Below.refl _ _ | apply balloc)⟩
    by_cases d2 : 1024 < x.f2.length
    · have e := Lib.hid (show mayB x = false from by rw [hin.out, hk.out, if_neg k1, if_neg k2, if_pos k3, decide_eq_false (by omega)]; rfl)
      go_enter Tryz.func13, Tryz.ntmps13
      go_wp2
      go_ret
      exact ⟨ret_bool (by first | exact e.out.symm | (rw [e.out]; simp only [decide_eq_true_eq, decide_eq_false_iff_not]; omega)), by repeat (first | with_reducible exact Below.refl _ _ | apply balloc)⟩
    obtain ⟨ad, rfl, _⟩ := Kd.at_int hC 0 (by omega) (by omega)
    have hcell := Lib.hid (show ∀ i, i < x.f2.length → w.cell? (ad.add i) = some (.int .u8 (x.f2.getD i 0)) from fun i hi => by
      obtain ⟨ad2, hA2, hx2⟩ := Kd.at_int hC (i : Int) (by omega) (by omega)
      obtain rfl := Option.some.inj hA2
      rw [Int.toNat_natCast] at hx2
      rw [hx2]
      unfold rd
      rw [Int.toNat_natCast])
    have hcall := Lib.hid (fun W (hb : Below w.heap.size w W) => Tryz.bytes_IndexByte_at ad x.f2.length c x.f2 0 W rfl (fun i hi => bkeep hb (hcell.out i hi)))
    rcases zero_find x.f2 hok.by_ with ⟨z1, z2⟩ | ⟨z1, z2⟩
    · have e := Lib.hid (show mayB x = true by rw [hin.out, hk.out, if_neg k1, if_neg k2, if_pos k3, decide_eq_true (by omega), z1]; rfl)
      have hz : Lib.indexByte (Lib.bytesOf x.f2) (0 : Int).toNat.toUInt8 = Lib.indexByte (Lib.bytesOf x.f2) 0 := rfl
      rw [hz] at hcall
      clear hz hin hk z1
      generalize Lib.indexByte (Lib.bytesOf x.f2) 0 = z at *
      go_enter Tryz.func13, Tryz.ntmps13
      go_wp2_with (go_at_call 33; refine (hcall.out _ (by repeat (first | with_reducible exact Below.refl _ _ | apply balloc))).mono ?_; rintro e1 w1 ⟨rfl, rfl⟩)
      go_ret
      exact ⟨ret_bool (by first | exact e.out.symm | (rw [e.out]; simp only [decide_eq_true_eq, decide_eq_false_iff_not]; omega)), by repeat (first | with_reducible exact Below.refl _ _ | apply balloc)⟩
    · have e := Lib.hid (show mayB x = false by rw [hin.out, hk.out, if_neg k1, if_neg k2, if_pos k3, decide_eq_true (by omega), z1]; rfl)
      have hz : Lib.indexByte (Lib.bytesOf x.f2) (0 : Int).toNat.toUInt8 = Lib.indexByte (Lib.bytesOf x.f2) 0 := rfl
      rw [hz] at hcall
      clear hz hin hk z1
      generalize Lib.indexByte (Lib.bytesOf x.f2) 0 = z at *
      go_enter Tryz.func13, Tryz.ntmps13
      go_wp2_with (go_at_call 33; refine (hcall.out _ (by repeat (first | with_reducible exact Below.refl _ _ | apply balloc))).mono ?_; rintro e1 w1 ⟨rfl, rfl⟩)
      go_ret
      exact ⟨ret_bool (by first | exact e.out.symm | (rw [e.out]; simp only [decide_eq_true_eq, decide_eq_false_iff_not]; omega)), by repeat (first | with_reducible exact Below.refl _ _ | apply balloc)⟩
  · have k1n : (x.f0 == 1) = false := beq_eq_false_iff_ne.mpr k1
    have k2n : (x.f0 == 2) = false := beq_eq_false_iff_ne.mpr k2
    have k3n : (x.f0 == 3) = false := beq_eq_false_iff_ne.mpr k3
    have e := Lib.hid (show mayB x = false from by rw [hin.out, hk.out, if_neg k1, if_neg k2, if_neg k3])
    go_enter Tryz.func13, Tryz.ntmps13
    go_wp2
    go_ret
    exact ⟨ret_bool (by first | exact e.out.symm | (rw [e.out]; simp only [decide_eq_true_eq, decide_eq_false_iff_not]; omega)), by repeat (first | with_reducible exact Below.refl _ _ | apply balloc)⟩
end Go.Proofs.YtkmjbakiippfpaaGreatDoor.Tree
set_option linter.unusedVariables false
set_option linter.unusedSimpArgs false
namespace Go.Proofs.YtkmjbakiippfpaaGreatDoor.Tree
open Go.RowKit Go.BigFrame Go.Maps Go.Proofs.YtkmjbakiippfpaaGreatDoor.Reg Go.Proofs.YtkmjbakiippfpaaGreatDoor.Rout Go.Proofs.YtkmjbakiippfpaaGreatDoor.Node Go.Proofs.YtkmjbakiippfpaaGreatDoorW.PrintWords Go.Proofs.YtkmjbakiippfpaaGreatDoorW.PrintLast Go.Proofs.YtkmjbakiippfpaaGreatDoorW.PrintMore
/-! ### plain -/
def isDir (pre : List Nd) (p : ByteArray) : Bool := pre.foldl (fun b n => if n.f1 = p then n.f0 == 1 else b) false
def foldD (pre : List Nd) : DataW Unit := pre.foldl (fun D n => D.put (.string n.f1.data.toList) (.lit (.bool (n.f0 == 1)))) (.map [])
theorem foldD_snoc (pre : List Nd) (n : Nd) : foldD (pre ++ [n]) = (foldD pre).put (.string n.f1.data.toList) (.lit (.bool (n.f0 == 1))) := by unfold foldD; rw [List.foldl_append]; rfl
theorem isDir_snoc (pre : List Nd) (n : Nd) (p : ByteArray) : isDir (pre ++ [n]) p = if n.f1 = p then n.f0 == 1 else isDir pre p := by unfold isDir; rw [List.foldl_append]; rfl
theorem snoc_ind {α : Type} {P : List α → Prop} (h0 : P []) (h1 : ∀ l x, P l → P (l ++ [x])) (l : List α) : P l := by
  have : ∀ n (l : List α), l.length = n → P l := by
    intro n
    induction n with
    | zero => intro l hl; obtain rfl := List.eq_nil_of_length_eq_zero hl; exact h0
    | succ n ih =>
      intro l hl
      have hne : l ≠ [] := by rintro rfl; simp at hl
      rw [← List.dropLast_concat_getLast hne]
      exact h1 _ _ (ih _ (by simp; omega))
  exact this _ l rfl
theorem isMap_foldD (l : List Nd) : IsMap (foldD l) := by
  induction l using snoc_ind with
  | h0 => exact isMap_empty
  | h1 l x ih => rw [foldD_snoc]; exact ih.put _ _
theorem foldD_at (l : List Nd) (p : ByteArray) : (foldD l).atKey (.string p.data.toList) (.lit (.bool false)) = .lit (.bool (isDir l p)) := by
  induction l using snoc_ind with
  | h0 => rfl
  | h1 l x ih =>
    rw [foldD_snoc, isDir_snoc]
    by_cases h : x.f1 = p
    · subst h
      rw [atKey_put_same (isMap_foldD l) (by trivial), if_pos rfl]
    · rw [atKey_put_other (fun e => h (ba_ext (by injection e with e; exact e.symm))), if_neg h, ih]
def errAt (l : List Nd) (k : Nat) : Int :=
  if validB (rdN l k).f1 = false then 20
  else if mayB (rdN l k) = false ∨ 65536 ≤ k then 21
  else if 0 < k ∧ 0 ≤ compB (rdN l (k - 1)).f1 (rdN l k).f1 then 21
  else if (parB (rdN l k).f1).2 = true ∧ isDir (l.take k) (parB (rdN l k).f1).1 = false then 21 else 0
def chkN (l : List Nd) : Nat → Int × Int
  | 0 => (0, 0)
  | f + 1 => if errAt l (l.length - (f + 1)) = 0 then chkN l f else (((l.length - (f + 1) : Nat) : Int), errAt l (l.length - (f + 1)))
def chk (l : List Nd) : Int × Int := chkN l l.length
theorem chkN_step (l : List Nd) (k : Nat) (h : k < l.length) : chkN l (l.length - k) = if errAt l k = 0 then chkN l (l.length - (k + 1)) else ((k : Int), errAt l k) := by
  obtain ⟨f, hf⟩ : ∃ f, l.length - k = f + 1 := ⟨l.length - k - 1, by omega⟩
  rw [hf]
  show (if errAt l (l.length - (f + 1)) = 0 then chkN l f else (((l.length - (f + 1) : Nat) : Int), errAt l (l.length - (f + 1)))) = _
  rw [show l.length - (f + 1) = k by omega, show l.length - (k + 1) = f by omega]
theorem rdN_mem (l : List Nd) (k : Nat) (h : k < l.length) : rdN l (k : Int) ∈ l := by
  unfold rdN
  rw [Int.toNat_natCast, List.getD_eq_getElem?_getD, List.getElem?_eq_getElem h]
  exact List.getElem_mem h
theorem take_rdN (l : List Nd) (k : Nat) (h : k < l.length) : l.take (k + 1) = l.take k ++ [rdN l (k : Int)] := by
  rw [List.take_succ_eq_append_getElem h]
  unfold rdN
  rw [Int.toNat_natCast, List.getD_eq_getElem?_getD, List.getElem?_eq_getElem h]
  rfl
theorem parB_size (s : ByteArray) : (parB s).1.size ≤ s.size := by
  unfold parB
  split
  · rw [ByteArray.size_extract]; omega
  · exact Nat.zero_le _
theorem valid_size (s : ByteArray) (h : validB s = true) : s.size ≤ 1024 := by
  unfold validB at h
  simp at h
  exact h.2
theorem key9 : Keyed Tryz.prog 9 := string_keyed Tryz.underlying9
theorem zero4 (w : World) : (zeroValue 4).run Tryz.prog w = .ok (.bool false) w := by kernel_rfl
abbrev owns (w : World) (b n : Nat) (D : DataW Unit) : Prop := w.ownsMap Tryz.prog 9 (plainElem Tryz.prog 4) b n D
theorem owns_look {w : World} {b n : Nat} {l : List Nd} (h : owns w b n (foldD l)) (p : ByteArray) (hp : p.size ≤ 140737488351232) : (Instr.lookup 38 (.map (some b)) (.string p) false).run Tryz.prog w = .ok (.bool (isDir l p)) w := by
  obtain ⟨v, ps, hrun, hv⟩ := h.lookup key9 Tryz.underlying38 (zero4 w) (plainElem_bool Tryz.underlying4 false) (Go.WideMaps.keyOf_string_mk (s := p) Tryz.underlying9 (by unfold maxLen; omega))
  rw [foldD_at] at hv
  have : v = .bool (isDir l p) := by
    simp only [plainElem, Tryz.underlying4] at hv
    cases v <;> simp at hv
    rw [hv.1]
  rw [hrun, this]
set_option maxRecDepth 100000 in
set_option maxHeartbeats 8000000 in
theorem check_calls (A : Option Addr) (c : Nat) (l : List Nd) (w : World) (hC : kN.C w A l.length l) (hok : ∀ x ∈ l, Ok x) (hl : l.length ≤ 140737488351232) :
    Calls Tryz.prog 7 #[.slice A l.length c] w fun e w' => e = .returned (.tuple #[.int .i64 (chk l).1, .int .i64 (chk l).2]) ∧ Below w.heap.size w w' := by
  have HC := Lib.hid hC
  have HOK := Lib.hid hok
  have hmm := @run_makeMap Tryz.prog
  clear hC hok
  go_enter Tryz.func7, Tryz.ntmps7
  go_wp2
  clear hmm
  go_loopw [5, 6, 7, 8, 12] (fun _ _ _ _ i wr => ∃ k : Nat, i = .int .i64 k ∧ k ≤ l.length ∧ Hid (owns wr w.heap.size k (foldD (l.take k))) ∧ Below w.heap.size w wr ∧ Hid (chkN l (l.length - k) = chk l) ∧ Hid (0 < k → (rdN l (k - 1)).f1.size ≤ 1024)) (fun _ _ _ _ i _ => (l.length - intOf i).toNat)
  case atStart => exact ⟨0, rfl, by omega, Lib.hid (World.ownsMap_made _ _ _ _), balloc (Below.refl _ _) _, Lib.hid rfl, Lib.hid (fun h => by omega)⟩
  case round =>
    obtain ⟨k, rfl, hk, hown, hb, hch, hpz⟩ := hrel
    by_cases hlt : k < l.length
    · obtain ⟨ad, A2, c2, hA, c0, c1, c2', c3, c4, hl2, hd⟩ := atN (Kd.C_below HC.out hb) (k : Int) (by omega) (by omega)
      subst hA
      have hxm := rdN_mem l k hlt
      have hok := HOK.out _ hxm
      have hps := hok.ps
      have HOKX := Lib.hid hok
      have hE := Lib.hid (show errAt l k = if validB (rdN l k).f1 = false then 20 else if mayB (rdN l k) = false ∨ 65536 ≤ k then 21 else if 0 < k ∧ 0 ≤ compB (rdN l (k - 1)).f1 (rdN l k).f1 then 21 else if (parB (rdN l k).f1).2 = true ∧ isDir (l.take k) (parB (rdN l k).f1).1 = false then 21 else 0 from rfl)
      have hst := Lib.hid (chkN_step l k hlt)
      have htk := Lib.hid (take_rdN l k hlt)
      have HD := Lib.hid hd
      have hpv := Lib.hid (fun hp : 0 < k => show ∃ a2, wr.cell? a2 = some (.string (rdN l ((k : Int) - 1)).f1) ∧ a2 = (⟨(ad.add ((k - 1) * 5)).block, (ad.add ((k - 1) * 5)).off + 1, none⟩ : Addr) by
        obtain ⟨ad2, A3, c3, hA3, _, d1, _⟩ := atN (Kd.C_below HC.out hb) ((k : Int) - 1) (by omega) (by omega)
        obtain rfl := Option.some.inj hA3
        rw [show ((k : Int) - 1).toNat = k - 1 by omega] at d1
        exact ⟨_, d1, rfl⟩)
      rw [Int.toNat_natCast] at c0 c1 c2' c3 c4
      clear hok hxm hd
      generalize hx : rdN l (k : Int) = x at *
      have HX := Lib.hid hx
      clear hx
      generalize rdN l ((k : Int) - 1) = y at *
      cases hv : validB x.f1
      · have HR := Lib.hid (show chk l = ((k : Int), 20) by have h2 : errAt l k = 20 := by rw [hE.out, if_pos hv]
                                                            rw [← hch.out, hst.out, h2]; rfl)
        have HV := Lib.hid (fun W => valid_calls x.f1 W (by omega))
        rw [hv] at HV
        clear hE hst hch htk hpv hv
        go_wp2_with (go_at_call 11; refine (HV.out _).mono ?_; rintro e w1 ⟨rfl, hb1⟩)
        go_ret2
        rw [HR.out]
        exact ⟨rfl, bgo (balloc hb _) hb1⟩
      · have hvs := valid_size _ hv
        have HV := Lib.hid (fun W => valid_calls x.f1 W (by omega))
        have HP := Lib.hid (fun W => parent_calls x.f1 W (by omega))
        rw [hv] at HV
        have hE2 := Lib.hid (show errAt l k = if mayB x = false ∨ 65536 ≤ k then 21 else if 0 < k ∧ 0 ≤ compB y.f1 x.f1 then 21 else if (parB x.f1).2 = true ∧ isDir (l.take k) (parB x.f1).1 = false then 21 else 0 by rw [hE.out, if_neg (by rw [hv]; simp)])
        have hq := Lib.hid (show (parB x.f1).1.size ≤ 1024 from Nat.le_trans (parB_size _) hvs)
        clear hE hv
        generalize (parB x.f1).1 = pa at *
        generalize (parB x.f1).2 = inner at *
        go_upto_region 8 with (first
          | (go_at_call 11; refine (HV.out _).mono ?_; rintro e w1 ⟨rfl, hb1⟩; have m0 := bkeep hb1 (show (wr.alloc (.cells #[.int .i64 x.f0, .string x.f1, .slice A2 x.f2.length c2, .int .i64 x.f3, .int .i64 x.f4] 31)).cell? ⟨wr.heap.size, 1, none⟩ = some (.string x.f1) by simp))
          | (go_at_call 12; refine (HP.out _).mono ?_; rintro e w2 ⟨rfl, hb2⟩))
        have hbn := bgo hb1 hb2
        have hsz := hbn.size
        rw [World.size_alloc] at hsz
        have n0 : w2.cell? ⟨wr.heap.size, 0, none⟩ = some (.int .i64 x.f0) := bkeep hbn (by simp)
        have n1 : w2.cell? ⟨wr.heap.size, 1, none⟩ = some (.string x.f1) := bkeep hbn (by simp)
        have n2 : w2.cell? ⟨wr.heap.size, 2, none⟩ = some (.slice A2 x.f2.length c2) := bkeep hbn (by simp)
        have n3 : w2.cell? ⟨wr.heap.size, 3, none⟩ = some (.int .i64 x.f3) := bkeep hbn (by simp)
        have n4 : w2.cell? ⟨wr.heap.size, 4, none⟩ = some (.int .i64 x.f4) := bkeep hbn (by simp)
        have HBN := Lib.hid (show Below wr.heap.size wr w2 from ⟨hbn.os, hbn.tape, hbn.output, by omega, fun i hi => (hbn.block i (by simp; omega)).trans (Below.heap_alloc wr _ i hi)⟩)
        have HOWN := Lib.hid (show owns w2 w.heap.size k (foldD (l.take k)) from hown.out.kept (row := none) (grownBy_of_below HBN.out) (by simp))
        have HW := Lib.hid (bgo hb HBN.out)
        clear hb1 hb2 hbn m0 c0 c1 c2' c3 c4 HV HP hb hown
        have HM := Lib.hid (fun n : Abv w2 => may_calls x A2 c2 n.w (Kd.C_below HD.out (bgo HBN.out n.bel)) HOKX.out)
        have HCM := Lib.hid (fun (W : World) (h : y.f1.size ≤ 1024) => compare_calls y.f1 x.f1 W h (by omega))
        have HL := Lib.hid (fun n : Abv w2 => owns_look (w := n.w) (HOWN.out.kept (row := none) (grownBy_of_below n.bel) (by simp)) pa (by have := hq.out; omega))
        have hpc := Lib.hid (fun hp : 0 < k => show w2.cell? ⟨(ad.add ((k - 1) * 5)).block, (ad.add ((k - 1) * 5)).off + 1, none⟩ = some (.string y.f1) by
          obtain ⟨a2, h1, h2⟩ := hpv.out hp
          rw [← h2]
          exact bkeep HBN.out h1)
        clear hpv
        have hkI : 0 ≤ (k : Int) := by omega
        cases hm : mayB x
        · skip
          have HR := Lib.hid (show chk l = ((k : Int), 21) by rw [← hch.out, hst.out, show errAt l k = 21 by rw [hE2.out, if_pos (.inl hm)]]; rfl)
          rw [hm] at HM
          clear hE2 hst hch htk hpc hm HCM HL
          refine wp_region_above (by kernel_rfl) (by kernel_rfl) ?_
          intro ne
          have q0 : ∀ n : Abv w2, n.w.cell? ⟨wr.heap.size, 0, none⟩ = some (.int .i64 x.f0) := fun n => n.cell n0
          have q1 : ∀ n : Abv w2, n.w.cell? ⟨wr.heap.size, 1, none⟩ = some (.string x.f1) := fun n => n.cell n1
          have q2 : ∀ n : Abv w2, n.w.cell? ⟨wr.heap.size, 2, none⟩ = some (.slice A2 x.f2.length c2) := fun n => n.cell n2
          have q3 : ∀ n : Abv w2, n.w.cell? ⟨wr.heap.size, 3, none⟩ = some (.int .i64 x.f3) := fun n => n.cell n3
          have q4 : ∀ n : Abv w2, n.w.cell? ⟨wr.heap.size, 4, none⟩ = some (.int .i64 x.f4) := fun n => n.cell n4
          repeat (go_big_quiet_step ((go_at_call 13; exact Abv.call _ (HM.out _))))
          refine quiet_above ?_
          intro w4 hb4
          go_wp2
          go_ret2
          rw [HR.out]
          exact ⟨rfl, bgo HW.out hb4⟩
        · rw [hm] at HM
          by_cases hbig : 65536 ≤ k
          · skip
            have HR := Lib.hid (show chk l = ((k : Int), 21) by rw [← hch.out, hst.out, show errAt l k = 21 by rw [hE2.out, if_pos (.inr hbig)]]; rfl)
            have hbd : decide (65536 ≤ (k : Int)) = true := decide_eq_true (by omega)
            clear hE2 hst hch htk hpc hm HCM HL
            refine wp_region_above (by kernel_rfl) (by kernel_rfl) ?_
            intro ne
            have q0 : ∀ n : Abv w2, n.w.cell? ⟨wr.heap.size, 0, none⟩ = some (.int .i64 x.f0) := fun n => n.cell n0
            have q1 : ∀ n : Abv w2, n.w.cell? ⟨wr.heap.size, 1, none⟩ = some (.string x.f1) := fun n => n.cell n1
            have q2 : ∀ n : Abv w2, n.w.cell? ⟨wr.heap.size, 2, none⟩ = some (.slice A2 x.f2.length c2) := fun n => n.cell n2
            have q3 : ∀ n : Abv w2, n.w.cell? ⟨wr.heap.size, 3, none⟩ = some (.int .i64 x.f3) := fun n => n.cell n3
            have q4 : ∀ n : Abv w2, n.w.cell? ⟨wr.heap.size, 4, none⟩ = some (.int .i64 x.f4) := fun n => n.cell n4
            repeat (go_big_quiet_step ((go_at_call 13; exact Abv.call _ (HM.out _))))
            refine quiet_above ?_
            intro w4 hb4
            go_wp2
            go_ret2
            rw [HR.out]
            exact ⟨rfl, bgo HW.out hb4⟩
          · have hE3 := Lib.hid (show errAt l k = if 0 < k ∧ 0 ≤ compB y.f1 x.f1 then 21 else if inner = true ∧ isDir (l.take k) pa = false then 21 else 0 by rw [hE2.out, if_neg (by rw [hm]; simp; omega)])
            clear hE2 hm
            have hbd : decide (65536 ≤ (k : Int)) = false := decide_eq_false (by omega)
            by_cases hk0 : 0 < k
            · have hys := hpz.out hk0
              have hpcv := hpc.out hk0
              by_cases hcmp : 0 ≤ compB y.f1 x.f1
              · skip
                have HR := Lib.hid (show chk l = ((k : Int), 21) by rw [← hch.out, hst.out, show errAt l k = 21 by rw [hE3.out, if_pos ⟨hk0, hcmp⟩]]; rfl)
                clear hE3 hst hch htk hpc HL
                generalize compB y.f1 x.f1 = z at *
                have hzd : decide (0 ≤ z) = true := decide_eq_true hcmp
                refine wp_region_above (by kernel_rfl) (by kernel_rfl) ?_
                intro ne
                have q0 : ∀ n : Abv w2, n.w.cell? ⟨wr.heap.size, 0, none⟩ = some (.int .i64 x.f0) := fun n => n.cell n0
                have q1 : ∀ n : Abv w2, n.w.cell? ⟨wr.heap.size, 1, none⟩ = some (.string x.f1) := fun n => n.cell n1
                have q2 : ∀ n : Abv w2, n.w.cell? ⟨wr.heap.size, 2, none⟩ = some (.slice A2 x.f2.length c2) := fun n => n.cell n2
                have q3 : ∀ n : Abv w2, n.w.cell? ⟨wr.heap.size, 3, none⟩ = some (.int .i64 x.f3) := fun n => n.cell n3
                have q4 : ∀ n : Abv w2, n.w.cell? ⟨wr.heap.size, 4, none⟩ = some (.int .i64 x.f4) := fun n => n.cell n4
                have q5 : ∀ n : Abv w2, n.w.cell? ⟨(ad.add ((k - 1) * 5)).block, (ad.add ((k - 1) * 5)).off + 1, none⟩ = some (.string y.f1) := fun n => n.cell hpcv
                repeat (go_big_quiet_step ((first | (go_at_call 13; exact Abv.call _ (HM.out _)) | (go_at_call 14; exact Abv.call _ (HCM.out _ hys)))))
                refine quiet_above ?_
                intro w4 hb4
                go_wp2
                go_ret2
                rw [HR.out]
                exact ⟨rfl, bgo HW.out hb4⟩
              · have hcn := Lib.hid (show ¬ (0 < k ∧ 0 ≤ compB y.f1 x.f1) from fun h => hcmp h.2)
                have hcmp2 : compB y.f1 x.f1 < 0 := by omega
                clear hcmp
                have hE4 := Lib.hid (show errAt l k = if inner = true ∧ isDir (l.take k) pa = false then 21 else 0 by rw [hE3.out, if_neg hcn.out])
                clear hcn
                generalize compB y.f1 x.f1 = z at *
                have hzd : decide (0 ≤ z) = false := decide_eq_false (by omega)
                cases inner
                · skip
                  have HR := Lib.hid (show chkN l (l.length - (k + 1)) = chk l by rw [← hch.out, hst.out, show errAt l k = 0 by rw [hE4.out, if_neg (by simp)]]; rfl)
                  clear hE3 hE4 hst hch hpc HL
                  refine wp_region_above (by kernel_rfl) (by kernel_rfl) ?_
                  intro ne
                  have q0 : ∀ n : Abv w2, n.w.cell? ⟨wr.heap.size, 0, none⟩ = some (.int .i64 x.f0) := fun n => n.cell n0
                  have q1 : ∀ n : Abv w2, n.w.cell? ⟨wr.heap.size, 1, none⟩ = some (.string x.f1) := fun n => n.cell n1
                  have q2 : ∀ n : Abv w2, n.w.cell? ⟨wr.heap.size, 2, none⟩ = some (.slice A2 x.f2.length c2) := fun n => n.cell n2
                  have q3 : ∀ n : Abv w2, n.w.cell? ⟨wr.heap.size, 3, none⟩ = some (.int .i64 x.f3) := fun n => n.cell n3
                  have q4 : ∀ n : Abv w2, n.w.cell? ⟨wr.heap.size, 4, none⟩ = some (.int .i64 x.f4) := fun n => n.cell n4
                  have q5 : ∀ n : Abv w2, n.w.cell? ⟨(ad.add ((k - 1) * 5)).block, (ad.add ((k - 1) * 5)).off + 1, none⟩ = some (.string y.f1) := fun n => n.cell hpcv
                  repeat (go_big_quiet_step ((first | (go_at_call 13; exact Abv.call _ (HM.out _)) | (go_at_call 14; exact Abv.call _ (HCM.out _ hys)))))
                  refine quiet_above ?_
                  intro w4 hb4
                  have r0 := bkeep hb4 n0
                  have r1 := bkeep hb4 n1
                  have HO4 := Lib.hid (show owns w4 w.heap.size k (foldD (l.take k)) from HOWN.out.kept (row := none) (grownBy_of_below hb4) (by simp))
                  have HB4 := Lib.hid (bgo HW.out hb4)
                  have HZ := Lib.hid (show 0 < k + 1 → (rdN l (((k + 1 : Nat) : Int) - 1)).f1.size ≤ 1024 from fun _ => by rw [show (((k + 1 : Nat) : Int) - 1) = (k : Int) by omega, HX.out]; exact hvs)
                  clear hb4
                  go_wp2_with (at_mapUpdate; refine wpList_mapUpdate_own _ rfl _ _ _ 38 rfl 9 4 key9 Tryz.underlying38 _ w.heap.size k _ rfl HO4.out (by unfold maxLen; omega) _ _ _ rfl rfl (Go.WideMaps.keyOf_string_mk Tryz.underlying9 (by unfold maxLen; omega)) _ [] (plainElem_bool Tryz.underlying4 _) ?_; intro w5 hown5 hgr5)
                  have HB5 := Lib.hid (HB4.out.grown hgr5 HB4.out.size (fun j e => by injection e with e; omega))
                  have HO5 := Lib.hid (show owns w5 w.heap.size (k + 1) (foldD (l.take (k + 1))) by rw [htk.out, foldD_snoc]; exact hown5)
                  clear hown5 hgr5
                  go_wp2
                  go_roundw
                  case rel => exact ⟨k + 1, by go_num, by omega, HO5, HB5.out, HR, HZ⟩
                  case measure => simp [intOf]; omega
                · cases hdir : isDir (l.take k) pa
                  · skip
                    have HR := Lib.hid (show chk l = ((k : Int), 21) by rw [← hch.out, hst.out, show errAt l k = 21 by rw [hE4.out, if_pos ⟨rfl, hdir⟩]]; rfl)
                    rw [hdir] at HL
                    clear hE3 hE4 hst hch htk hpc hdir
                    refine wp_region_above (by kernel_rfl) (by kernel_rfl) ?_
                    intro ne
                    have q0 : ∀ n : Abv w2, n.w.cell? ⟨wr.heap.size, 0, none⟩ = some (.int .i64 x.f0) := fun n => n.cell n0
                    have q1 : ∀ n : Abv w2, n.w.cell? ⟨wr.heap.size, 1, none⟩ = some (.string x.f1) := fun n => n.cell n1
                    have q2 : ∀ n : Abv w2, n.w.cell? ⟨wr.heap.size, 2, none⟩ = some (.slice A2 x.f2.length c2) := fun n => n.cell n2
                    have q3 : ∀ n : Abv w2, n.w.cell? ⟨wr.heap.size, 3, none⟩ = some (.int .i64 x.f3) := fun n => n.cell n3
                    have q4 : ∀ n : Abv w2, n.w.cell? ⟨wr.heap.size, 4, none⟩ = some (.int .i64 x.f4) := fun n => n.cell n4
                    have q5 : ∀ n : Abv w2, n.w.cell? ⟨(ad.add ((k - 1) * 5)).block, (ad.add ((k - 1) * 5)).off + 1, none⟩ = some (.string y.f1) := fun n => n.cell hpcv
                    have q6 := HL.out
                    repeat (go_big_quiet_step ((first | (go_at_call 13; exact Abv.call _ (HM.out _)) | (go_at_call 14; exact Abv.call _ (HCM.out _ hys)))))
                    refine quiet_above ?_
                    intro w4 hb4
                    go_wp2
                    go_ret2
                    rw [HR.out]
                    exact ⟨rfl, bgo HW.out hb4⟩
                  · skip
                    have HR := Lib.hid (show chkN l (l.length - (k + 1)) = chk l by rw [← hch.out, hst.out, show errAt l k = 0 by rw [hE4.out, if_neg (by rw [hdir]; simp)]]; rfl)
                    rw [hdir] at HL
                    clear hE3 hE4 hst hch hpc hdir
                    refine wp_region_above (by kernel_rfl) (by kernel_rfl) ?_
                    intro ne
                    have q0 : ∀ n : Abv w2, n.w.cell? ⟨wr.heap.size, 0, none⟩ = some (.int .i64 x.f0) := fun n => n.cell n0
                    have q1 : ∀ n : Abv w2, n.w.cell? ⟨wr.heap.size, 1, none⟩ = some (.string x.f1) := fun n => n.cell n1
                    have q2 : ∀ n : Abv w2, n.w.cell? ⟨wr.heap.size, 2, none⟩ = some (.slice A2 x.f2.length c2) := fun n => n.cell n2
                    have q3 : ∀ n : Abv w2, n.w.cell? ⟨wr.heap.size, 3, none⟩ = some (.int .i64 x.f3) := fun n => n.cell n3
                    have q4 : ∀ n : Abv w2, n.w.cell? ⟨wr.heap.size, 4, none⟩ = some (.int .i64 x.f4) := fun n => n.cell n4
                    have q5 : ∀ n : Abv w2, n.w.cell? ⟨(ad.add ((k - 1) * 5)).block, (ad.add ((k - 1) * 5)).off + 1, none⟩ = some (.string y.f1) := fun n => n.cell hpcv
                    have q6 := HL.out
                    repeat (go_big_quiet_step ((first | (go_at_call 13; exact Abv.call _ (HM.out _)) | (go_at_call 14; exact Abv.call _ (HCM.out _ hys)))))
                    refine quiet_above ?_
                    intro w4 hb4
                    have r0 := bkeep hb4 n0
                    have r1 := bkeep hb4 n1
                    have HO4 := Lib.hid (show owns w4 w.heap.size k (foldD (l.take k)) from HOWN.out.kept (row := none) (grownBy_of_below hb4) (by simp))
                    have HB4 := Lib.hid (bgo HW.out hb4)
                    have HZ := Lib.hid (show 0 < k + 1 → (rdN l (((k + 1 : Nat) : Int) - 1)).f1.size ≤ 1024 from fun _ => by rw [show (((k + 1 : Nat) : Int) - 1) = (k : Int) by omega, HX.out]; exact hvs)
                    clear hb4
                    go_wp2_with (at_mapUpdate; refine wpList_mapUpdate_own _ rfl _ _ _ 38 rfl 9 4 key9 Tryz.underlying38 _ w.heap.size k _ rfl HO4.out (by unfold maxLen; omega) _ _ _ rfl rfl (Go.WideMaps.keyOf_string_mk Tryz.underlying9 (by unfold maxLen; omega)) _ [] (plainElem_bool Tryz.underlying4 _) ?_; intro w5 hown5 hgr5)
                    have HB5 := Lib.hid (HB4.out.grown hgr5 HB4.out.size (fun j e => by injection e with e; omega))
                    have HO5 := Lib.hid (show owns w5 w.heap.size (k + 1) (foldD (l.take (k + 1))) by rw [htk.out, foldD_snoc]; exact hown5)
                    clear hown5 hgr5
                    go_wp2
                    go_roundw
                    case rel => exact ⟨k + 1, by go_num, by omega, HO5, HB5.out, HR, HZ⟩
                    case measure => simp [intOf]; omega
            · have hkn : ¬ (0 : Int) < (k : Int) := by omega
              have hkd : decide ((0 : Int) < (k : Int)) = false := decide_eq_false hkn
              have hE4 := Lib.hid (show errAt l k = if inner = true ∧ isDir (l.take k) pa = false then 21 else 0 by rw [hE3.out, if_neg (fun h => hk0 h.1)])
              cases inner
              · skip
                have HR := Lib.hid (show chkN l (l.length - (k + 1)) = chk l by rw [← hch.out, hst.out, show errAt l k = 0 by rw [hE4.out, if_neg (by simp)]]; rfl)
                clear hE3 hE4 hst hch hpc HCM HL
                refine wp_region_above (by kernel_rfl) (by kernel_rfl) ?_
                intro ne
                have q0 : ∀ n : Abv w2, n.w.cell? ⟨wr.heap.size, 0, none⟩ = some (.int .i64 x.f0) := fun n => n.cell n0
                have q1 : ∀ n : Abv w2, n.w.cell? ⟨wr.heap.size, 1, none⟩ = some (.string x.f1) := fun n => n.cell n1
                have q2 : ∀ n : Abv w2, n.w.cell? ⟨wr.heap.size, 2, none⟩ = some (.slice A2 x.f2.length c2) := fun n => n.cell n2
                have q3 : ∀ n : Abv w2, n.w.cell? ⟨wr.heap.size, 3, none⟩ = some (.int .i64 x.f3) := fun n => n.cell n3
                have q4 : ∀ n : Abv w2, n.w.cell? ⟨wr.heap.size, 4, none⟩ = some (.int .i64 x.f4) := fun n => n.cell n4
                repeat (go_big_quiet_step ((go_at_call 13; exact Abv.call _ (HM.out _))))
                refine quiet_above ?_
                intro w4 hb4
                have r0 := bkeep hb4 n0
                have r1 := bkeep hb4 n1
                have HO4 := Lib.hid (show owns w4 w.heap.size k (foldD (l.take k)) from HOWN.out.kept (row := none) (grownBy_of_below hb4) (by simp))
                have HB4 := Lib.hid (bgo HW.out hb4)
                have HZ := Lib.hid (show 0 < k + 1 → (rdN l (((k + 1 : Nat) : Int) - 1)).f1.size ≤ 1024 from fun _ => by rw [show (((k + 1 : Nat) : Int) - 1) = (k : Int) by omega, HX.out]; exact hvs)
                clear hb4
                go_wp2_with (at_mapUpdate; refine wpList_mapUpdate_own _ rfl _ _ _ 38 rfl 9 4 key9 Tryz.underlying38 _ w.heap.size k _ rfl HO4.out (by unfold maxLen; omega) _ _ _ rfl rfl (Go.WideMaps.keyOf_string_mk Tryz.underlying9 (by unfold maxLen; omega)) _ [] (plainElem_bool Tryz.underlying4 _) ?_; intro w5 hown5 hgr5)
                have HB5 := Lib.hid (HB4.out.grown hgr5 HB4.out.size (fun j e => by injection e with e; omega))
                have HO5 := Lib.hid (show owns w5 w.heap.size (k + 1) (foldD (l.take (k + 1))) by rw [htk.out, foldD_snoc]; exact hown5)
                clear hown5 hgr5
                go_wp2
                go_roundw
                case rel => exact ⟨k + 1, by go_num, by omega, HO5, HB5.out, HR, HZ⟩
                case measure => simp [intOf]; omega
              · cases hdir : isDir (l.take k) pa
                · skip
                  have HR := Lib.hid (show chk l = ((k : Int), 21) by rw [← hch.out, hst.out, show errAt l k = 21 by rw [hE4.out, if_pos ⟨rfl, hdir⟩]]; rfl)
                  rw [hdir] at HL
                  clear hE3 hE4 hst hch htk hpc hdir HCM
                  refine wp_region_above (by kernel_rfl) (by kernel_rfl) ?_
                  intro ne
                  have q0 : ∀ n : Abv w2, n.w.cell? ⟨wr.heap.size, 0, none⟩ = some (.int .i64 x.f0) := fun n => n.cell n0
                  have q1 : ∀ n : Abv w2, n.w.cell? ⟨wr.heap.size, 1, none⟩ = some (.string x.f1) := fun n => n.cell n1
                  have q2 : ∀ n : Abv w2, n.w.cell? ⟨wr.heap.size, 2, none⟩ = some (.slice A2 x.f2.length c2) := fun n => n.cell n2
                  have q3 : ∀ n : Abv w2, n.w.cell? ⟨wr.heap.size, 3, none⟩ = some (.int .i64 x.f3) := fun n => n.cell n3
                  have q4 : ∀ n : Abv w2, n.w.cell? ⟨wr.heap.size, 4, none⟩ = some (.int .i64 x.f4) := fun n => n.cell n4
                  have q6 := HL.out
                  repeat (go_big_quiet_step ((go_at_call 13; exact Abv.call _ (HM.out _))))
                  refine quiet_above ?_
                  intro w4 hb4
                  go_wp2
                  go_ret2
                  rw [HR.out]
                  exact ⟨rfl, bgo HW.out hb4⟩
                · skip
                  have HR := Lib.hid (show chkN l (l.length - (k + 1)) = chk l by rw [← hch.out, hst.out, show errAt l k = 0 by rw [hE4.out, if_neg (by rw [hdir]; simp)]]; rfl)
                  rw [hdir] at HL
                  clear hE3 hE4 hst hch hpc hdir HCM
                  refine wp_region_above (by kernel_rfl) (by kernel_rfl) ?_
                  intro ne
                  have q0 : ∀ n : Abv w2, n.w.cell? ⟨wr.heap.size, 0, none⟩ = some (.int .i64 x.f0) := fun n => n.cell n0
                  have q1 : ∀ n : Abv w2, n.w.cell? ⟨wr.heap.size, 1, none⟩ = some (.string x.f1) := fun n => n.cell n1
                  have q2 : ∀ n : Abv w2, n.w.cell? ⟨wr.heap.size, 2, none⟩ = some (.slice A2 x.f2.length c2) := fun n => n.cell n2
                  have q3 : ∀ n : Abv w2, n.w.cell? ⟨wr.heap.size, 3, none⟩ = some (.int .i64 x.f3) := fun n => n.cell n3
                  have q4 : ∀ n : Abv w2, n.w.cell? ⟨wr.heap.size, 4, none⟩ = some (.int .i64 x.f4) := fun n => n.cell n4
                  have q6 := HL.out
                  repeat (go_big_quiet_step ((go_at_call 13; exact Abv.call _ (HM.out _))))
                  refine quiet_above ?_
                  intro w4 hb4
                  have r0 := bkeep hb4 n0
                  have r1 := bkeep hb4 n1
                  have HO4 := Lib.hid (show owns w4 w.heap.size k (foldD (l.take k)) from HOWN.out.kept (row := none) (grownBy_of_below hb4) (by simp))
                  have HB4 := Lib.hid (bgo HW.out hb4)
                  have HZ := Lib.hid (show 0 < k + 1 → (rdN l (((k + 1 : Nat) : Int) - 1)).f1.size ≤ 1024 from fun _ => by rw [show (((k + 1 : Nat) : Int) - 1) = (k : Int) by omega, HX.out]; exact hvs)
                  clear hb4
                  go_wp2_with (at_mapUpdate; refine wpList_mapUpdate_own _ rfl _ _ _ 38 rfl 9 4 key9 Tryz.underlying38 _ w.heap.size k _ rfl HO4.out (by unfold maxLen; omega) _ _ _ rfl rfl (Go.WideMaps.keyOf_string_mk Tryz.underlying9 (by unfold maxLen; omega)) _ [] (plainElem_bool Tryz.underlying4 _) ?_; intro w5 hown5 hgr5)
                  have HB5 := Lib.hid (HB4.out.grown hgr5 HB4.out.size (fun j e => by injection e with e; omega))
                  have HO5 := Lib.hid (show owns w5 w.heap.size (k + 1) (foldD (l.take (k + 1))) by rw [htk.out, foldD_snoc]; exact hown5)
                  clear hown5 hgr5
                  go_wp2
                  go_roundw
                  case rel => exact ⟨k + 1, by go_num, by omega, HO5, HB5.out, HR, HZ⟩
                  case measure => simp [intOf]; omega
    · have hz : k = l.length := by omega
      have HR := Lib.hid (show chk l = (0, 0) by rw [← hch.out, hz, Nat.sub_self]; rfl)
      clear hch hpz hz
      go_wp2
      go_ret2
      rw [HR.out]
      exact ⟨rfl, hb⟩
end Go.Proofs.YtkmjbakiippfpaaGreatDoor.Tree
set_option linter.unusedVariables false
set_option linter.unusedSimpArgs false
namespace Go.Proofs.YtkmjbakiippfpaaGreatDoor.Tree
open Go.RowKit Go.BigFrame Go.Maps Go.Proofs.YtkmjbakiippfpaaGreatDoor.Reg Go.Proofs.YtkmjbakiippfpaaGreatDoor.Rout Go.Proofs.YtkmjbakiippfpaaGreatDoor.Node Go.Proofs.YtkmjbakiippfpaaGreatDoorW.PrintWords Go.Proofs.YtkmjbakiippfpaaGreatDoorW.PrintLast Go.Proofs.YtkmjbakiippfpaaGreatDoorW.PrintMore
theorem infoN : (Tryz.prog.info? 31).map (fun i => (i.zero, i.size, i.bytes)) = some (some (.agg #[.int .i64 0, .string ⟨#[]⟩, .slice none 0 0, .int .i64 0, .int .i64 0]), 5, 64) := by kernel_rfl
/-! ### bytes.Clone -/
theorem bclone_calls (A : Option Addr) (c : Nat) (xs : List Int) (w : World) (hC : (Kd.int .u8).C w A xs.length xs) (hl : xs.length ≤ 140737488355328) :
    Calls Tryz.prog 53 #[.slice A xs.length c] w fun e w' => ∃ v, e = .returned v ∧ (Kd.int .u8).R 5 w' w.heap.size (fun _ => True) v xs ∧ Below w.heap.size w w' := by
  cases A with
  | none =>
    have h0 : xs.length = 0 := by
      rcases Nat.eq_zero_or_pos xs.length with h | h
      · exact h
      · obtain ⟨ad, he, _⟩ := Kd.at_int hC 0 (by omega) (by omega)
        cases he
    obtain rfl : xs = [] := List.eq_nil_of_length_eq_zero h0
    refine (Tryz.bytes_Clone_nil 0 c w).mono fun e w' ⟨he, hw⟩ => ⟨_, he, ?_, ?_⟩
    · rw [hw]; exact Kd.R_nil _ _ _ _ _
    · rw [hw]; exact Below.refl _ _
  | some ad =>
    refine (Tryz.bytes_Clone_at ad xs.length c xs w rfl hl (fun i hi => ?_)).mono fun e w' ⟨v, he, hown, _, hb⟩ => ⟨v, he, Kd.R_of_own hown (fun _ _ => trivial), hb⟩
    obtain ⟨ad2, hA2, hx2⟩ := Kd.at_int hC (i : Int) (by omega) (by omega)
    obtain rfl := Option.some.inj hA2
    rw [Int.toNat_natCast] at hx2
    rw [hx2]
    unfold rd
    rw [Int.toNat_natCast]
/-! ### slices.Clone of nodes: the bytes are shared -/
theorem own_zeroN (w : World) : (Kd.fixed kN w).R 31 (w.alloc (.cells #[] 31)) w.heap.size (fun _ => True) (.slice (some ⟨w.heap.size, 0, none⟩) 0 0) [] := by
  have h := World.ownsRow_lit (base := w.heap.size) (e := 31) (size := 5) w #[] 0 (Nat.le_refl _) (by decide) (by simp)
  exact ⟨fun _ _ => trivial, [], h, Reps.none _ _⟩
set_option maxHeartbeats 4000000 in
theorem clone_calls (A : Option Addr) (c : Nat) (l : List Nd) (w : World) (hC : kN.C w A l.length l) (hl : l.length * 64 ≤ 140737488355328) :
    Calls Tryz.prog 72 #[.slice A l.length c] w fun e w' => ∃ v, e = .returned v ∧ (Kd.fixed kN w).R 31 w' w.heap.size (fun _ => True) v l ∧ Below w.heap.size w w' := by
  cases A with
  | none =>
    have h0 : l.length = 0 := by
      rcases Nat.eq_zero_or_pos l.length with h | h
      · exact h
      · obtain ⟨ad, _, _, he, _⟩ := atN hC 0 (by omega) (by omega)
        cases he
    obtain rfl : l = [] := List.eq_nil_of_length_eq_zero h0
    have heq : ∀ W : World, (binOp .eql 22 (.slice none 0 c) (.slice none 0 0)).run Tryz.prog W = .ok (.bool true) W := fun W => Lib.run_eql_slice_nil W _ _ none _ _ _ _ Tryz.underlying22
    clear hC
    go_enter Tryz.func72, Tryz.ntmps72
    go_wp2
    go_ret
    exact ⟨_, rfl, Kd.R_nil _ _ _ _ _, Below.refl _ _⟩
  | some ad =>
    have heq : ∀ W : World, (binOp .eql 22 (.slice (some ad) l.length c) (.slice none 0 0)).run Tryz.prog W = .ok (.bool false) W := fun W => Lib.run_eql_slice_nil W _ _ (some ad) _ _ _ _ Tryz.underlying22
    have HO := Lib.hid (own_zeroN w)
    have HR := Lib.hid (show ReadsRow (kN.K w) 5 (w.alloc (.cells #[] 31)) (some ad) l.length l from ReadsRow.imp_ hC (balloc (Below.refl _ _) _) (fun _ _ h => h))
    clear hC
    go_enter Tryz.func72, Tryz.ntmps72
    go_wp2_with (at_builtin; refine Kd.R_append_rows (Kd.fixed kN w) (Rr := kN.K w) (w0 := w) w.heap.size rfl (.tmp 5) (.tmp 6) 22 31 (.agg #[.int .i64 0, .string ⟨#[]⟩, .slice none 0 0, .int .i64 0, .int .i64 0]) 64 rfl Tryz.underlying22 infoN rfl (show 0 < 5 by decide) (by omega) _ [] l (some ad) l.length c (fun _ => True) (fun _ => False) rfl rfl HO.out HR.out (fun _ _ h => h) (fun _ h => h.elim) (fun _ _ => trivial) (balloc (Below.refl _ _) _) (by simp) (by simp; omega) ?_; intro v1 w1 hR1 hb1 hg1 hat1; rw [List.nil_append] at hR1)
    go_ret
    exact ⟨_, rfl, hR1, hb1⟩
/-! ### a row of nodes at block g, element by element -/
/-- E j cs: what element j's cells say. -/
def GRow (W : World) (base g cap n : Nat) (E : Nat → List Value → Prop) : Prop :=
  ∃ cells, W.ownsRow base 31 5 (.slice (some ⟨g, 0, none⟩) n cap) n cells ∧ ∀ j, j < n → E j ((cells.drop (j * 5)).take 5)
theorem GRow.imp {W : World} {base g cap n : Nat} {E E' : Nat → List Value → Prop} (h : GRow W base g cap n E) (hE : ∀ j cs, j < n → E j cs → E' j cs) : GRow W base g cap n E' := by
  obtain ⟨cells, ho, he⟩ := h
  exact ⟨cells, ho, fun j hj => hE j _ hj (he j hj)⟩
theorem GRow.kept {W W' : World} {base g cap n : Nat} {E : Nat → List Value → Prop} (h : GRow W base g cap n E) {row : Option Nat} (hg : W.grownBy W' row) (hne : some g ≠ row) : GRow W' base g cap n E := by
  obtain ⟨cells, ho, he⟩ := h
  exact ⟨cells, ho.kept hg (.inr hne), he⟩
theorem GRow.below {W W' : World} {base g cap n : Nat} {E : Nat → List Value → Prop} (h : GRow W base g cap n E) (hb : Below W.heap.size W W') : GRow W' base g cap n E := h.kept (row := none) (grownBy_of_below hb) (by simp)
theorem elem_set (cells : List Value) (k i j : Nat) (v : Value) (hi : i < 5) : ((cells.set (k * 5 + i) v).drop (j * 5)).take 5 = if j = k then ((cells.drop (j * 5)).take 5).set i v else (cells.drop (j * 5)).take 5 := by
  rw [List.drop_set]
  by_cases h1 : k * 5 + i < j * 5
  · rw [if_pos h1, if_neg (by omega)]
  · rw [if_neg h1, List.take_set]
    by_cases h2 : j = k
    · subst h2
      rw [if_pos rfl, show j * 5 + i - j * 5 = i by omega]
    · rw [if_neg h2, List.set_eq_of_length_le (by rw [List.length_take]; omega)]
/-- One cell of element k written. -/
theorem GRow.set {W : World} {base g cap n : Nat} {E E' : Nat → List Value → Prop} (h : GRow W base g cap n E) (k i : Nat) (v : Value) (hi : i < 5) (hk : ∀ cs, E k cs → E' k (cs.set i v)) (ho : ∀ j cs, j ≠ k → E j cs → E' j cs) :
    GRow (W.setCell ⟨g, k * 5 + i, none⟩ v) base g cap n E' ∧ W.grownBy (W.setCell ⟨g, k * 5 + i, none⟩ v) (some g) := by
  obtain ⟨cells, how, he⟩ := h
  have hs := how.stored (k * 5 + i) v
  refine ⟨⟨_, hs.1, fun j hj => ?_⟩, hs.2⟩
  rw [elem_set _ _ _ _ _ hi]
  by_cases h2 : j = k
  · subst h2; rw [if_pos rfl]; exact hk _ (he j hj)
  · rw [if_neg h2]; exact ho j _ h2 (he j hj)
/-- A cell of element k, as it is read; and it may be written. -/
theorem GRow.at_ {W : World} {base g cap n : Nat} {E : Nat → List Value → Prop} (h : GRow W base g cap n E) (k : Nat) (hk : k < n) :
    ∃ cs, E k cs ∧ (∀ i u, cs[i]? = some u → W.cell? ⟨g, k * 5 + i, none⟩ = some u) ∧ ∀ i, W.frozen? ⟨g, i, none⟩ = false := by
  obtain ⟨cells, how, he⟩ := h
  refine ⟨_, he k hk, fun i u hu => ?_, fun i => ?_⟩
  · rw [List.getElem?_take] at hu
    split at hu
    · rw [List.getElem?_drop] at hu
      have hc := how.cells (g := g) rfl _ u hu
      rwa [add_plain] at hc
    · cases hu
  · rcases how.2 with ⟨h', _⟩ | ⟨g', cap', cur, h', _, hh, _⟩
    · cases h'
    · have : g = g' := by injection h' with h'; injection h' with h'; injection h' with h'
      subst this
      simp [World.frozen?, hh]
theorem GRow.lt {W : World} {base g cap n : Nat} {E : Nat → List Value → Prop} (h : GRow W base g cap n E) : base ≤ g ∧ g < W.heap.size := by
  obtain ⟨cells, how, _⟩ := h
  exact ⟨own_base how g rfl, own_lt how g rfl⟩
/-- Into a row of nodes, all made; and out of a row. -/
theorem GRow.made {W : World} {base g cap : Nat} {l : List Nd} {ok : Nat → Prop} (h : GRow W base g cap l.length (fun j cs => ∀ x, l[j]? = some x → kN.M W base (fun q => ok q ∧ q ≠ g) x cs)) (hok : ok g) : kN.R 31 W base ok (.slice (some ⟨g, 0, none⟩) l.length cap) l := by
  obtain ⟨cells, how, he⟩ := h
  refine ⟨fun k hk => ?_, cells, how, how.1, fun j p hj => ?_⟩
  · simp [Value.ownBlock] at hk; subst hk; exact hok
  · exact kN.M_mono (fun q hq => ⟨hq.1, by simp [Value.ownBlock]; exact hq.2⟩) (he j (List.getElem?_eq_some_iff.1 hj).1 p hj)
theorem GRow.of_fixed {w0 W : World} {base g cap : Nat} {l : List Nd} {ok : Nat → Prop} (h : (Kd.fixed kN w0).R 31 W base ok (.slice (some ⟨g, 0, none⟩) l.length cap) l) : GRow W base g cap l.length (fun j cs => ∀ x, l[j]? = some x → kN.K w0 x cs) := by
  obtain ⟨_, cells, how, hr⟩ := h
  exact ⟨cells, how, fun j hj x hx => hr.2 j x hx⟩
/-! ### lent -/
def Half (l : List Nd) (w0 W : World) (base g k : Nat) (j : Nat) (cs : List Value) : Prop :=
  ∀ x, l[j]? = some x → if j < k then kN.M W base (fun q => q ≠ g) x cs else kN.K w0 x cs
theorem half_move {l : List Nd} {w0 W W' : World} {base g k j : Nat} {cs : List Value} (h : Half l w0 W base g k j cs) (hm : ∀ q, q ≠ g → q < W.heap.size → W'.heap[q]? = W.heap[q]?) : Half l w0 W' base g k j cs := by
  intro x hx
  have h1 := h x hx
  split
  · rename_i hjk
    rw [if_pos hjk] at h1
    exact Kd.M_step h1 (fun q hq hlt => hm q hq hlt)
  · rename_i hjk
    rw [if_neg hjk] at h1
    exact h1
set_option maxRecDepth 100000 in
set_option maxHeartbeats 4000000 in
theorem lent_calls (A : Option Addr) (c : Nat) (l : List Nd) (w : World) (hC : kN.C w A l.length l) (hok : ∀ x ∈ l, Ok x) (hl : l.length * 64 ≤ 140737488355328) :
    Calls Tryz.prog 45 #[.slice A l.length c] w fun e w' => ∃ v, e = .returned v ∧ kN.R 31 w' w.heap.size (fun _ => True) v l ∧ Below w.heap.size w w' := by
  have HCL := Lib.hid (clone_calls A c l w hC hl)
  have HC := Lib.hid hC
  have HOK := Lib.hid hok
  clear hC hok
  go_enter Tryz.func45, Tryz.ntmps45
  by_cases h0 : l.length = 0
  · obtain rfl : l = [] := List.eq_nil_of_length_eq_zero h0
    go_wp2_with (go_at_call 72; refine HCL.out.mono ?_; rintro e w1 ⟨v, rfl, hR, hb1⟩; obtain ⟨A1, c1, rfl, _, _⟩ := Kd.R_reads hR; have HR := Lib.hid hR; clear hR)
    refine wp_loop_rounds 1 ?_
    rw [rounds_succ]
    go_wp2
    go_ret
    obtain ⟨h1, cells, how, hr⟩ := HR.out
    exact ⟨_, rfl, ⟨h1, cells, how, ⟨hr.1, fun j p hj => by simp at hj⟩⟩, hb1⟩
  · go_wp2_with (go_at_call 72; refine HCL.out.mono ?_; rintro e w1 ⟨v, rfl, hR, hb1⟩; obtain ⟨g, cap, rfl, hgb, hgl, _⟩ := Kd.R_form hR (by omega); have HR := Lib.hid hR; clear hR)
    have HG0 := Lib.hid ((GRow.of_fixed HR.out).imp (E' := Half l w w1 w.heap.size g 0) (fun j cs _ h x hx => by rw [if_neg (by omega)]; exact h x hx))
    clear HR HCL
    go_loopw [4, 9] (fun _ i wr => ∃ k : Nat, i = .int .i64 k ∧ k ≤ l.length ∧ Hid (GRow wr w.heap.size g cap l.length (Half l w wr w.heap.size g k)) ∧ Below w.heap.size w wr ∧ g < wr.heap.size) (fun _ i _ => (l.length - intOf i).toNat)
    case atStart => exact ⟨0, rfl, by omega, HG0, hb1, hgl⟩
    case round =>
      obtain ⟨k, rfl, hk, hG, hbr, hgr⟩ := hrel
      by_cases hlt : k < l.length
      · obtain ⟨cs, hE, hcell, hfr⟩ := hG.out.at_ k hlt
        have hxk : l[k]? = some (rdN l (k : Int)) := by
          unfold rdN
          rw [Int.toNat_natCast, List.getD_eq_getElem?_getD, List.getElem?_eq_getElem hlt]
          rfl
        have hE2 := hE _ hxk
        rw [if_neg (by omega)] at hE2
        obtain ⟨A2, c2, rfl, hl2, hd⟩ := kN_open hE2
        have hds := (HOK.out _ (rdN_mem l k hlt)).ds
        have HB := Lib.hid (bclone_calls A2 c2 (rdN l (k : Int)).f2 wr (Kd.C_below hd hbr) (by omega))
        have q1 := hcell 2 _ rfl
        have q2 := hfr (k * 5 + 2)
        have k0 : (0 : Int) ≤ (k : Int) := by omega
        have k1 : (k : Int) < l.length := by omega
        have HXK := Lib.hid hxk
        clear hE hE2 hcell hfr hd hxk
        generalize rdN l (k : Int) = x at *
        go_wp2_with (go_at_call 53; refine HB.out.mono ?_; rintro e w3 ⟨v2, rfl, hR2, hb3⟩; obtain ⟨A3, c3, rfl, hl3, hC3⟩ := Kd.R_reads hR2; have q3 := bkeep hb3 q1; have q4 := (hb3.frozen (p := ⟨g, k * 5 + 2, none⟩) hgr).trans q2; have HR2 := Lib.hid hR2; clear hR2 hC3)
        have hs3 := hb3.size
        have HN := Lib.hid (GRow.set (E' := Half l w (w3.setCell ⟨g, k * 5 + 2, none⟩ (.slice A3 x.f2.length c3)) w.heap.size g (k + 1)) ((hG.out.below hb3).imp (fun j cs _ h => half_move h (fun q _ hlt => hb3.block q hlt))) k 2 (.slice A3 x.f2.length c3) (by omega)
          (fun cs h y hy => by
            have e := HXK.out.symm.trans hy
            obtain rfl := Option.some.inj e
            have h1 := h _ hy
            rw [if_neg (by omega)] at h1
            obtain ⟨A4, c4, rfl, _, _⟩ := kN_open h1
            rw [if_pos (by omega)]
            refine kN_mkM _ _ _ _ (v2 := .slice A3 x.f2.length c3) ?_
            have r1 := Kd.R_lower HR2.out hbr.size
            have r2 := Kd.R_bound HR2.out
            have r3 : (Kd.int .u8).R 5 w3 w.heap.size (fun q => q ≠ g) (.slice A3 x.f2.length c3) x.f2 := Kd.R_mono (Kd.R_lower r2 hbr.size) (fun q hq => by have := hq.2.1; omega)
            exact Kd.R_far (p := ⟨g, k * 5 + 2, none⟩) r3 (fun q hq => hq) _)
          (fun j cs hj h y hy => by
            have h1 := h y hy
            by_cases hjk : j < k
            · rw [if_pos hjk] at h1
              rw [if_pos (by omega)]
              exact Kd.M_far (p := ⟨g, k * 5 + 2, none⟩) h1 (fun q hq => hq) _
            · rw [if_neg hjk] at h1
              rw [if_neg (by omega)]
              exact h1))
        have HBN := Lib.hid (((bgo hbr hb3).grown HN.out.2 (by have := hbr.size; omega) (fun q e => by injection e with e; omega)))
        have HGN := Lib.hid HN.out.1
        have hgn : g < w3.heap.size := by omega
        clear HN hb3 HB q1 q2
        go_wp2
        go_roundw
        case rel => exact ⟨k + 1, by go_num, by omega, HGN, HBN.out, by simpa [World.setCell] using hgn⟩
        case measure => simp [intOf]; omega
      · obtain rfl : k = l.length := by omega
        go_wp2
        go_ret
        exact ⟨_, rfl, GRow.made (ok := fun _ => True) (hG.out.imp (fun j cs hj h x hx => by have h1 := h x hx; rw [if_pos hj] at h1; exact kN.M_mono (fun q hq => ⟨trivial, hq⟩) h1)) trivial, hbr⟩
end Go.Proofs.YtkmjbakiippfpaaGreatDoor.Tree
