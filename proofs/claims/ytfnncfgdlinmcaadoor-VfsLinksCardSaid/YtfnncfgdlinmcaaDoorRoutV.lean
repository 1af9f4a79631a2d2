/- route.Valid walked: a range over strings.SplitSeq. -/
import Derived.Test.YtfnncfgdlinmcaaDoorRoutS
set_option linter.unusedVariables false
set_option linter.unusedSimpArgs false
namespace Go.Proofs.YtfnncfgdlinmcaaDoor.Rout
open Go.RowKit Go.Shelf Go.Proofs.YtfnncfgdlinmcaaDoor.Reg
attribute [local go_sem] Oper.semAt_some
/-- How a round's body may be left. -/
def keptPost {α : Type} (B : Nat) (I : List α → World → Prop) (Ix : Code → List α → World → Prop) (xs : List α) (W : World) : Exit → Act → World → Prop
  | .normal, _, W' => KeepsOthers W W' ∧ Kept B W W' ∧ I xs W'
  | .ret, _, W' => KeepsOthers W W' ∧ Ix .ret xs W'
  | .exit id, _, W' => KeepsOthers W W' ∧ Ix (.exit id) xs W'
  | .goto t, _, W' => KeepsOthers W W' ∧ Ix (.goto t) xs W'
  | .panic _, _, _ => False
  | .outgrown, _, _ => False
section
variable {F : Fence} {n : Nat} {P : Program}
/-- A range over a function whose iterator writes one cell of its own (in block B). -/
theorem wpIn_range_kept {α : Type} {g : Operand} {ps : Array Tmp} {assign body : Code} {Q : Exit → Act → World → Prop} {a : Act} {w : World}
    (hro : F.round = none) (h1 : 1 ≤ n) {gf : Nat} {lb : Array Value} (hg : a.eval g = .func (.func gf) #[] lb) (hFg : F.fn gf) (eg : ∀ args w, (callFunc gf args).run P w = .ok (.enter gf args) w)
    {encs : α → Array Value} {S Sp : List α → Prop} {ok : α → Prop} {B : Nat} {P0 : World → Prop} (hP0 : ∀ W o, P0 W → P0 (W.alloc o)) (hBw : B + 2 < w.heap.size) (hw0 : P0 w)
    (hseq : ∀ (l : Nat) (J Jx : List α → World → Prop) (W : World), (∀ pre W v, J pre W → J pre (W.setCell ⟨B, 0, none⟩ v)) →
      (∀ pre x W1, J pre W1 → ok x → YieldAt F (n - 1 - 1) P l (encs x) W1 fun e W' => (e = .returned (.bool true) ∧ J (pre ++ [x]) W' ∧ Kept B W1 W') ∨ (e = .returned (.bool false) ∧ Jx (pre ++ [x]) W')) →
      P0 W → J [] W → CallsIn F (n - 1) P gf (#[.func (.yield l) #[] #[]] ++ lb) W fun e W' => (∃ v, e = .returned v) ∧ ((∃ xs, S xs ∧ J xs W') ∨ (∃ pre, Sp pre ∧ Jx pre W')))
    (hps : ∀ x, (encs x).size = ps.size)
    (I : List α → World → Prop) (Ix : Code → List α → World → Prop) (hIa : ∀ s W o, I s W → I s (W.alloc o)) (hIp : ∀ s W l o o', I s W → w.heap.size ≤ l → W.heap[l]? = some o → o.isCells = false → I s (W.putObj l o'))
    (hIxp : ∀ c s W l o o', Ix c s W → w.heap.size ≤ l → W.heap[l]? = some o → o.isCells = false → Ix c s (W.putObj l o')) (hIB : ∀ s W v, I s W → I s (W.setCell ⟨B, 0, none⟩ v)) (h0 : I [] w) (a₁ : α → Act)
    (hassign : ∀ (l : Nat) (x : α) (W : World) (K : Act → World → Prop), K (a₁ x) W →
      assign.wpIn (F.inRound l) (n - 1 - 1) P (Exit.then K (fun _ _ _ => False)) { tmps := (ps.zip (encs x)).foldl (fun t (p, v) => t.setIfInBounds p v) a.tmps, defers := [] } W)
    (hbody : ∀ (l : Nat) (pre : List α) (x : α) (W : World), I pre W → ok x → body.wpIn (F.inRound l) (n - 1 - 1) P (keptPost B I Ix (pre ++ [x]) W) (a₁ x) W)
    (hdone : ∀ (D : Nat) (xs : List α) (W : World), w.heap.size ≤ D → S xs → I xs W → W.heap[D]? = some (.deferred (some [])) → Q .normal { a with defers := { target := .collected D, args := #[] } :: a.defers } W)
    (hstop : ∀ (D : Nat) (c : Code) (pre : List α) (W : World), w.heap.size ≤ D → Sp pre → Ix c pre W → W.heap[D]? = some (.deferred (some [])) → c.wpIn F n P Q { a with defers := { target := .collected D, args := #[] } :: a.defers } W) :
    (Code.rangeFunc g ps assign body).wpIn F n P Q a w := by
  refine wpIn_rangeFunc ?_
  intro fn hfn
  rw [hro]
  obtain ⟨rec, hrec⟩ : ∃ rec : LoopState → Option Code → Loop, rec = fun st pe => { state := st, pending := pe, fn, tmps := a.tmps, params := ps, assign, body, defers := w.heap.size } := ⟨_, rfl⟩
  obtain ⟨W1, hW1⟩ : ∃ W1, (w.alloc (.deferred (some []))).alloc (.loop (rec .ready none)) = W1 := ⟨_, rfl⟩
  have hL1 : W1.heap[w.heap.size + 1]? = some (.loop (rec .ready none)) := by
    rw [← hW1]; have := World.alloc_heap_new (w.alloc (.deferred (some []))) (.loop (rec .ready none)); rwa [World.size_alloc] at this
  have hK1 : W1.heap[w.heap.size]? = some (.deferred (some [])) := by
    rw [← hW1]; exact (Below.heap_alloc _ _ _ (by simp)).trans (World.alloc_heap_new w _)
  have hI1 : I [] W1 := by rw [← hW1]; exact hIa _ _ _ (hIa _ _ _ h0)
  have hp1 : P0 W1 := by rw [← hW1]; exact hP0 _ _ (hP0 _ _ hw0)
  have hfar : ∀ (W : World) (v : Value) (k : Nat), w.heap.size ≤ k → (W.setCell ⟨B, 0, none⟩ v).heap[k]? = W.heap[k]? := fun W v k hk => Below.heap_setCell W ⟨B, 0, none⟩ v k (by simp; omega)
  refine ⟨w.heap.size + 1, [{ target := .collected w.heap.size, args := #[] }], W1, { target := .fn (.func gf) lb, args := #[.func (.yield (w.heap.size + 1)) #[] #[]] }, W1, gf,
    #[.func (.yield (w.heap.size + 1)) #[] #[]] ++ lb, W1, ?_, ?_, ?_, ?_, fun _ => h1, ?_⟩
  · rw [← hW1, hrec]; exact run_enterLoop_outer _ _ _ _ _
  · simp only [resolve, hg]
    simp [go_sem]
  · intro f' hf'; simp [Target.leads] at hf'; subst hf'; exact hFg
  · simp [invoke, go_sem, eg]
  · refine (hseq (w.heap.size + 1)
      (fun pre W => I pre W ∧ W.heap[w.heap.size + 1]? = some (.loop (rec .ready none)) ∧ W.heap[w.heap.size]? = some (.deferred (some [])))
      (fun pre W => ∃ c, Ix c pre W ∧ W.heap[w.heap.size + 1]? = some (.loop (rec .done (some c))) ∧ W.heap[w.heap.size]? = some (.deferred (some [])))
      W1 (fun pre W v hs => ⟨hIB _ _ _ hs.1, (hfar W v _ (by omega)).trans hs.2.1, (hfar W v _ (by omega)).trans hs.2.2⟩) ?_ hp1 ⟨hI1, hL1, hK1⟩).mono ?_
    · rintro pre x W ⟨hi, hl, hk⟩ hok
      have hlt : w.heap.size + 1 < W.heap.size := (Array.getElem?_eq_some_iff.1 hl).1
      have hy := run_yield (P := P) (args := encs x) hl (by rw [hrec]; exact hps x)
      rw [hrec] at hy
      refine ⟨fn, _, assign, body, hy, roundIn_of_wpIn hfn (hassign _ x W _ ⟨_, run_beginRound hl (by rw [hrec]), ?_⟩)⟩
      have hl2 : (W.putObj (w.heap.size + 1) (.loop { rec .ready none with state := .busy })).heap[w.heap.size + 1]? = some (.loop { rec .ready none with state := .busy }) := World.putObj_heap_same hlt
      have hk2 : (W.putObj (w.heap.size + 1) (.loop { rec .ready none with state := .busy })).heap[w.heap.size]? = some (.deferred (some [])) := (World.putObj_heap_other (by omega)).trans hk
      have hw2 : Kept B W (W.putObj (w.heap.size + 1) (.loop { rec .ready none with state := .busy })) := fun k hk => World.putObj_heap_other (by omega)
      refine wpIn_mono (hbody _ pre x _ (hIp _ _ _ _ _ hi (by omega) hl rfl) hok) ?_
      have fin : ∀ (jump : Option Code) (W3 : World), KeepsOthers (W.putObj (w.heap.size + 1) (.loop { rec .ready none with state := .busy })) W3 →
          (Instr.endRound (w.heap.size + 1) jump).run P W3 = .ok (.bool jump.isNone) (W3.putObj (w.heap.size + 1) (.loop (rec (if jump.isNone then .ready else .done) jump))) ∧
          W3.heap[w.heap.size + 1]? = some (.loop { rec .ready none with state := .busy }) ∧
          (W3.putObj (w.heap.size + 1) (.loop (rec (if jump.isNone then .ready else .done) jump))).heap[w.heap.size + 1]? = some (.loop (rec (if jump.isNone then .ready else .done) jump)) ∧
          (W3.putObj (w.heap.size + 1) (.loop (rec (if jump.isNone then .ready else .done) jump))).heap[w.heap.size]? = some (.deferred (some [])) := fun jump W3 hk3 => by
        have hl3 := hk3.same _ _ hl2 rfl
        have := run_endRound (P := P) jump hl3
        rw [hrec] at this ⊢
        exact ⟨this, by rw [hrec] at hl3; exact hl3, World.putObj_heap_same (Array.getElem?_eq_some_iff.1 hl3).1, (World.putObj_heap_other (by omega)).trans (hk3.same _ _ hk2 rfl)⟩
      rintro e a3 W3 hp
      cases e with
      | normal =>
        obtain ⟨hk3, hkb, hi3⟩ := hp
        obtain ⟨hr, hl3, hl4, hk4⟩ := fin none W3 hk3
        exact ⟨_, _, hr, .inl ⟨rfl, ⟨hIp _ _ _ _ _ hi3 (by omega) hl3 rfl, hl4, hk4⟩, fun k hk => (World.putObj_heap_other (by omega)).trans ((hkb k hk).trans (hw2 k hk))⟩⟩
      | ret =>
        obtain ⟨hk3, hi3⟩ := hp
        obtain ⟨hr, hl3, hl4, hk4⟩ := fin (some .ret) W3 hk3
        exact ⟨_, _, hr, .inr ⟨rfl, .ret, hIxp _ _ _ _ _ _ hi3 (by omega) hl3 rfl, hl4, hk4⟩⟩
      | exit id =>
        obtain ⟨hk3, hi3⟩ := hp
        obtain ⟨hr, hl3, hl4, hk4⟩ := fin (some (.exit id)) W3 hk3
        exact ⟨_, _, hr, .inr ⟨rfl, .exit id, hIxp _ _ _ _ _ _ hi3 (by omega) hl3 rfl, hl4, hk4⟩⟩
      | goto t =>
        obtain ⟨hk3, hi3⟩ := hp
        obtain ⟨hr, hl3, hl4, hk4⟩ := fin (some (.goto t)) W3 hk3
        exact ⟨_, _, hr, .inr ⟨rfl, .goto t, hIxp _ _ _ _ _ _ hi3 (by omega) hl3 rfl, hl4, hk4⟩⟩
      | panic ch => exact hp.elim
      | outgrown => exact hp.elim
    · rintro e W2 ⟨⟨v, rfl⟩, (⟨xs, hS, hi, hl, hk⟩ | ⟨pre, hSp, c, hi, hl, hk⟩)⟩
      · exact ⟨none, _, by have := run_endLoop (P := P) hl (by rw [hrec]; simp); rw [hrec] at this; exact this, hdone _ xs _ (Nat.le_refl _) hS (hIp _ _ _ _ _ hi (by omega) hl rfl) ((World.putObj_heap_other (by omega)).trans hk)⟩
      · exact ⟨some c, _, by have := run_endLoop (P := P) hl (by rw [hrec]; simp); rw [hrec] at this; exact this, hstop _ c pre _ (Nat.le_refl _) hSp (hIxp _ _ _ _ _ _ hi (by omega) hl rfl) ((World.putObj_heap_other (by omega)).trans hk)⟩
end
def Good (pre : List ByteArray) : Prop := pre.all nameB = true ∧ pre.length ≤ 64
def Bad (pre : List ByteArray) : Prop := pre.all nameB = false ∨ 64 < pre.length
theorem putObj_box {W : World} {l k : Nat} {o o' : Obj} {t : TypeId} {v : Value} (h : Boxed W k t v) (hl : W.heap[l]? = some o) (ho : o.isCells = false) : Boxed (W.putObj l o') k t v := by
  have hne : k ≠ l := by
    rintro rfl
    rw [show W.heap[k]? = _ from h] at hl
    cases hl
    cases ho
  exact (World.putObj_heap_other hne).trans h
theorem putObj_below {w W : World} {l : Nat} {o : Obj} (h : Below w.heap.size w W) (hl : w.heap.size ≤ l) : Below w.heap.size w (W.putObj l o) :=
  ⟨h.os, h.tape, h.output, by simpa using h.size, fun k hk => (World.putObj_heap_other (by omega)).trans (h.block k hk)⟩
theorem others_of_below {W W' : World} (h : Below W.heap.size W W') : KeepsOthers W W' := ⟨h.size, fun k o hk _ => (h.block k (Array.getElem?_eq_some_iff.1 hk).1).trans hk⟩
theorem grownBy_of_below {W W' : World} (h : Below W.heap.size W W') : W.grownBy W' none := ⟨h.os, h.tape, h.output, h.size, fun i hi _ => h.block i hi⟩
theorem kept_of_below {W W' : World} {B : Nat} (h : Below W.heap.size W W') (hB : B + 2 < W.heap.size) : Kept B W W' := fun k hk => h.block k (by omega)
set_option maxRecDepth 100000 in
set_option maxHeartbeats 4000000 in
theorem valid_calls (s : ByteArray) (w : World) (hs : s.size ≤ 140737488355328) :
    Calls Tryd.prog 16 #[.string s] w fun e w' => e = .returned (.bool (validB s)) ∧ Below w.heap.size w w' := by
  refine (callsIn_wide (n := 8)).1 ?_
  have q1 : Fence.wide.fn 33 := trivial
  have HQ := Lib.hid (fun W : World => callsIn_wide (n := 8 - 1).2 (splitSeq_calls s W))
  refine callsIn_of_wp_marks Tryd.func16 rfl trivial ?_
  simp only [Tryd.ntmps16, List.size_toArray, List.length_cons, List.length_nil, Nat.reduceAdd, Nat.reduceSub, Array.replicate_succ, Array.replicate_zero, List.push_toArray, List.append_toArray, List.nil_append, List.cons_append]
  gi_wp2_with (gi_at_call 33; refine (HQ.out _).mono ?_; rintro e w1 ⟨rfl, hw1⟩; have HW1 := Lib.hid hw1; clear hw1)
  have b0 : Boxed w1 w.heap.size 4 (.bool false) := by rw [HW1.out]; exact ((((Boxed.new _ _ _).alloc _).alloc _).alloc _).alloc _
  have b1 : Boxed w1 (w.heap.size + 1) 3 (.int .i64 (([] : List ByteArray).length : Int)) := by
    rw [HW1.out]
    have h := (((Boxed.new (w.alloc (.cells #[.bool false] 4)) 3 (.int .i64 0)).alloc (.cells #[.string s] 9)).alloc (.cells #[.string ⟨#[47]⟩] 9)).alloc (.cells #[.int .i64 0] 3)
    simpa using h
  have b2 : Seq w1 (w.heap.size + 2) s := by
    rw [HW1.out]
    have h := Seq.new ((w.alloc (.cells #[.bool false] 4)).alloc (.cells #[.int .i64 0] 3)) s
    simpa using h
  have hb : Below w.heap.size w w1 := by rw [HW1.out]; exact balloc (balloc (balloc (balloc (balloc (Below.refl _ _) _) _) _) _) _
  have hsz : w1.heap.size = w.heap.size + 5 := by rw [HW1.out]; simp
  clear HW1 HQ q1
  refine wpIn_range_kept (α := ByteArray) (B := w.heap.size + 2) (P0 := fun W => Seq W (w.heap.size + 2) s) (encs := fun x => #[.string x]) (ok := fun x => x.size ≤ s.size) (S := fun xs => xs = pcs s) (Sp := fun pre => pre <+: pcs s) (gf := 66) (lb := #[.pointer (some ⟨w.heap.size + 3, 0, none⟩), .pointer (some ⟨w.heap.size + 2, 0, none⟩), .pointer (some ⟨w.heap.size + 4, 0, none⟩)])
    rfl (by decide) rfl trivial (enters_of Tryd.func66 (by kernel_rfl) rfl) (fun W o h => ⟨h.s.alloc o, h.p.alloc o, h.v.alloc o⟩) (by omega) b2
    (fun l J Jx W hJB hY hW h0 => (seq_in (8 - 1) l (w.heap.size + 2) s hs (by decide) J Jx hJB hY W hW h0).mono fun e W' ⟨he, h⟩ => ⟨he, h.imp (fun h => ⟨_, rfl, h⟩) (fun ⟨pre, h1, h2⟩ => ⟨pre, h1, h2⟩)⟩)
    (fun _ => rfl)
    (fun pre W => Boxed W w.heap.size 4 (.bool false) ∧ Boxed W (w.heap.size + 1) 3 (.int .i64 (pre.length : Int)) ∧ Hid (Good pre) ∧ w.heap.size + 5 ≤ W.heap.size ∧ Below w.heap.size w W)
    (fun c pre W => c = .ret ∧ Boxed W w.heap.size 4 (.bool false) ∧ Hid (Bad pre) ∧ Below w.heap.size w W)
    (fun pre W o ⟨h1, h2, h3, h5, h4⟩ => ⟨h1.alloc o, h2.alloc o, h3, by simp; omega, balloc h4 o⟩)
    (fun pre W l o o' ⟨h1, h2, h3, h5, h4⟩ hle hl ho => ⟨putObj_box h1 hl ho, putObj_box h2 hl ho, h3, by simpa using h5, putObj_below h4 (by omega)⟩)
    (fun c pre W l o o' ⟨h0, h1, h3, h4⟩ hle hl ho => ⟨h0, putObj_box h1 hl ho, h3, putObj_below h4 (by omega)⟩)
    (fun pre W v ⟨h1, h2, h3, h5, h4⟩ => ⟨(Below.heap_setCell W ⟨w.heap.size + 2, 0, none⟩ _ _ (by simp)).trans h1, (Below.heap_setCell W ⟨w.heap.size + 2, 0, none⟩ _ _ (by simp)).trans h2, h3, by simpa [World.setCell] using h5, h4.setCell (by simp) _⟩)
    ⟨b0, b1, Lib.hid ⟨by simp, by simp⟩, by omega, hb⟩
    (fun x => { tmps := #[.string s, undef, .pointer (some ⟨w.heap.size, 0, none⟩), .pointer (some ⟨w.heap.size + 1, 0, none⟩), .string x, .string s, .func (.func 66) #[] #[.pointer (some ⟨w.heap.size + 3, 0, none⟩), .pointer (some ⟨w.heap.size + 2, 0, none⟩), .pointer (some ⟨w.heap.size + 4, 0, none⟩)], .string x, undef, undef, undef, undef, undef, undef, undef, undef, undef, undef, undef, undef], defers := [] }) ?assign ?body ?done ?stop
  case assign =>
    intro l x W K hK
    gi_wp2
    exact hK
  case body =>
    rintro l pre x W ⟨hb0, hb1, hpre, hW5, hbel⟩ hx
    have c0 := hb0.cell
    have f0 := hb0.frozen
    have c1 := hb1.cell
    have f1 := hb1.frozen
    have hlt0 := hb0.lt
    have q1 : Fence.wide.fn 34 := trivial
    have hne : w.heap.size + 1 ≠ w.heap.size := by omega
    have s0 := Lib.hid (show Boxed (W.setCell ⟨w.heap.size + 1, 0, none⟩ (.int .i64 ((pre.length : Int) + 1))) w.heap.size 4 (.bool false) from (Below.heap_setCell W ⟨w.heap.size + 1, 0, none⟩ _ w.heap.size (by simp)).trans hb0)
    have s1 := Lib.hid (show Boxed (W.setCell ⟨w.heap.size + 1, 0, none⟩ (.int .i64 ((pre.length : Int) + 1))) (w.heap.size + 1) 3 (.int .i64 ((pre.length : Int) + 1)) from hb1.set _)
    have s2 := Lib.hid (show Below w.heap.size w (W.setCell ⟨w.heap.size + 1, 0, none⟩ (.int .i64 ((pre.length : Int) + 1))) from hbel.setCell (by simp) _)
    have s3 := Lib.hid (show Kept (w.heap.size + 2) W (W.setCell ⟨w.heap.size + 1, 0, none⟩ (.int .i64 ((pre.length : Int) + 1))) from fun k hk => Below.heap_setCell W ⟨w.heap.size + 1, 0, none⟩ _ k (by simp; omega))
    have e0 := s0.out.cell
    have e1 := s1.out.cell
    have g0 := s0.out.frozen
    have hpl := hpre.out.2
    by_cases h64 : pre.length = 64
    · have HX := Lib.hid (show Bad (pre ++ [x]) from .inr (by simp; omega))
      clear hpre s1 s3
      have h65 : (64 : Int) < (pre.length : Int) + 1 := by omega
      clear h64
      gi_wp2
      exact ⟨(KeepsOthers.setCell _ _ _).trans (KeepsOthers.setCell _ _ _), rfl, s0.out.set _, HX, s2.out.setCell (Nat.le_refl _) _⟩
    · have h65 : (pre.length : Int) + 1 ≤ 64 := by omega
      clear h64
      cases hnx : nameB x
      · have HC := Lib.hid (fun W' : World => (CallsIn.inRound (F := Fence.wide) (n := 8 - 1 - 1 - 1) l (callsIn_wide.2 (name_calls x W' (by omega)))))
        rw [hnx] at HC
        have HX := Lib.hid (show Bad (pre ++ [x]) from .inl (by simp [hnx]))
        clear hnx
        gi_wp2_with (gi_at_call 34; refine (HC.out _).mono ?_; rintro e w2 ⟨rfl, hb2⟩; have k0 := Boxed.kept (row := none) s0.out (grownBy_of_below hb2) (by simp); have kc := k0.cell; have kf := k0.frozen; have K2 := Lib.hid hb2; clear hb2)
        exact ⟨((KeepsOthers.setCell _ _ _).trans (others_of_below K2.out)).trans (KeepsOthers.setCell _ _ _), rfl, k0.set _, HX, (bgo s2.out K2.out).setCell (Nat.le_refl _) _⟩
      · have HC := Lib.hid (fun W' : World => (CallsIn.inRound (F := Fence.wide) (n := 8 - 1 - 1 - 1) l (callsIn_wide.2 (name_calls x W' (by omega)))))
        rw [hnx] at HC
        have HX := Lib.hid (show Good (pre ++ [x]) from ⟨by simp [hnx, hpre.out.1], by simp; omega⟩)
        clear hnx
        gi_wp2_with (gi_at_call 34; refine (HC.out _).mono ?_; rintro e w2 ⟨rfl, hb2⟩; have k0 := Boxed.kept (row := none) s0.out (grownBy_of_below hb2) (by simp); have k1 := Boxed.kept (row := none) s1.out (grownBy_of_below hb2) (by simp); have kc := k0.cell; have kf := k0.frozen; have K2 := Lib.hid hb2; clear hb2)
        exact ⟨(KeepsOthers.setCell _ _ _).trans (others_of_below K2.out), fun k hk => (kept_of_below K2.out (by simp [World.setCell]; omega) k hk).trans (s3.out k hk), k0, by simpa using k1, HX, Nat.le_trans (by simpa [World.setCell] using hW5) K2.out.size, bgo s2.out K2.out⟩
  case done =>
    rintro D xs W hD rfl ⟨hb0, hb1, hpre, hW5, hbel⟩ hK
    have c0 := hb0.cell
    have f0 := hb0.frozen
    have hK2 := Lib.hid (fun v => (KeepsOthers.setCell W ⟨w.heap.size, 0, none⟩ v).same D _ hK rfl)
    have hv : Hid (validB s = decide ((s.size : Int) ≤ 1024)) := Lib.hid (by
      unfold validB
      rw [hpre.out.1, decide_eq_true hpre.out.2]
      simp
      omega)
    have hbs := Lib.hid (fun v => hb0.set v)
    gi_wp2
    refine ⟨by simp, .inl ⟨_, _, rfl, run_takeDeferred (hK2.out _), ?_⟩⟩
    have hbx := putObj_box (o' := .deferred none) (hbs.out (.bool (decide ((s.size : Int) ≤ 1024)))) (hK2.out _) rfl
    have hcx := hbx.cell
    refine ⟨.bool (decide ((s.size : Int) ≤ 1024)), by simp [results, Tryd.results16, go_sem, hcx], ?_⟩
    rw [hv.out]
    exact ⟨rfl, putObj_below (hbel.setCell (Nat.le_refl _) _) (by omega)⟩
  case stop =>
    rintro D c pre W hD ⟨r, hr⟩ ⟨rfl, hb0, hbad, hbel⟩ hK
    have hv : Hid (validB s = false) := Lib.hid (by
      unfold validB
      rw [← hr, List.all_append, List.length_append]
      rcases hbad.out with h | h
      · rw [h]; simp
      · rw [decide_eq_false (show ¬ (pre.length + r.length ≤ 64) by omega)]; simp)
    have hbx := putObj_box (o' := .deferred none) hb0 hK rfl
    have hcx := Lib.hid hbx.cell
    have HK := Lib.hid hK
    clear hK
    gi_wp2
    refine ⟨by simp, .inl ⟨_, _, rfl, run_takeDeferred HK.out, ?_⟩⟩
    have hcy := hcx.out
    refine ⟨.bool false, by simp [results, Tryd.results16, go_sem, hcy], ?_⟩
    rw [hv.out]
    exact ⟨rfl, putObj_below hbel (by omega)⟩
end Go.Proofs.YtfnncfgdlinmcaaDoor.Rout
