/- deflate.Runs$1: what is told is laid behind both of the captured rows. -/
import Derived.Test.YtmecigllpdeeoaaRunR
import Derived.Test.YtmecigllpdeeoaaStep
set_option linter.unusedVariables false
set_option linter.unusedSimpArgs false
namespace Go.Proofs.Ytmecigllpdeeoaa.Run
open Go.RowKit Go.BigFrame Go.Proofs.Ytmecigllpdeeoaa.By Go.Proofs.Ytmecigllpdeeoaa.Reg Go.Proofs.YtmecigllpdeeoaaW.PrintWords Go.Proofs.YtmecigllpdeeoaaW.PrintLast Go.Proofs.YtmecigllpdeeoaaW.PrintMore Go.Proofs.Ytmecigllpdeeoaa.PPut
/-- The two variables that the closure writes (they hold u0, v0), and two rows. -/
structure St (w0 W : World) (base B : Nat) (u0 v0 u v : Value) (xs ys : List Int) : Prop where
  cu : W.cell? ⟨B, 0, none⟩ = some u0
  cv : W.cell? ⟨B + 1, 0, none⟩ = some v0
  fu : W.frozen? ⟨B, 0, none⟩ = false
  fv : W.frozen? ⟨B + 1, 0, none⟩ = false
  hB : B + 1 < W.heap.size
  ru : RI W base u xs
  rv : RI W base v ys
  nu : ∀ k, u.ownBlock = some k → k ≠ B ∧ k ≠ B + 1
  nv : ∀ k, v.ownBlock = some k → k ≠ B ∧ k ≠ B + 1
  ap : ∀ k, u.ownBlock = some k → some k ≠ v.ownBlock
  hb : base ≤ W.heap.size
  b : Below w0.heap.size w0 W
  lo : w0.heap.size ≤ base ∧ w0.heap.size ≤ B
variable {w0 W w1 : World} {base B : Nat} {u0 v0 u v u1 v1 : Value} {xs ys xs1 : List Int}
theorem R_base (h : RI W base v xs) (k : Nat) (hk : v.ownBlock = some k) : base ≤ k := by
  obtain ⟨_, _, hown, _⟩ := h
  exact own_base hown k hk
theorem St.below (h : St w0 W base B u0 v0 u v xs ys) (k : Below W.heap.size W w1) : St w0 w1 base B u0 v0 u v xs ys :=
  ⟨bkeep k h.cu, bkeep k h.cv, (k.frozen (p := ⟨B, 0, none⟩) (by have := h.hB; simp; omega)).trans h.fu, (k.frozen (p := ⟨B + 1, 0, none⟩) (by have := h.hB; simp; omega)).trans h.fv, Nat.lt_of_lt_of_le h.hB k.size, Kd.R_below h.ru k, Kd.R_below h.rv k, h.nu, h.nv, h.ap, Nat.le_trans h.hb k.size, bgo h.b k, h.lo⟩
theorem St.alloc (h : St w0 W base B u0 v0 u v xs ys) (o : Obj) : St w0 (W.alloc o) base B u0 v0 u v xs ys := h.below (balloc (Below.refl _ _) o)
theorem St.drew (h : St w0 W base B u0 v0 u v xs ys) : St w0 W.drew base B u0 v0 u v xs ys := h.below (bdrew (Below.refl _ _))
theorem grown_cell {row : Option Nat} (hg : W.grownBy w1 row) (p : Addr) (hp : p.block < W.heap.size) (hne : some p.block ≠ row) : w1.cell? p = W.cell? p := World.cell?_of_block (hg.block p.block hp hne)
theorem St.app1 (h : St w0 W base B u0 v0 u v xs ys) (hR : RI w1 base u1 xs1) (hg : W.grownBy w1 u.ownBlock) (hat : u1.ownBlock = u.ownBlock ∨ u1.ownBlock = some W.heap.size) : St w0 w1 base B u0 v0 u1 v xs1 ys := by
  have hB := h.hB
  have e1 : some B ≠ u.ownBlock := fun he => (h.nu B he.symm).1 rfl
  have e2 : some (B + 1) ≠ u.ownBlock := fun he => (h.nu (B + 1) he.symm).2 rfl
  have hlt := fun k hk => R_lt h.rv k hk
  refine ⟨(grown_cell hg ⟨B, 0, none⟩ (by simp; omega) e1).trans h.cu, (grown_cell hg ⟨B + 1, 0, none⟩ (by simp; omega) e2).trans h.cv, ?_, ?_, Nat.lt_of_lt_of_le hB hg.size, hR, ?_, ?_, h.nv, ?_, Nat.le_trans h.hb hg.size, h.b.grown hg h.b.size (fun k hk => Nat.le_trans h.lo.1 (R_base h.ru k hk)), h.lo⟩
  · have := hg.block B (by omega) e1
    have hf := h.fu
    simp only [World.frozen?] at hf ⊢
    rw [this]
    exact hf
  · have := hg.block (B + 1) (by omega) e2
    have hf := h.fv
    simp only [World.frozen?] at hf ⊢
    rw [this]
    exact hf
  · exact Kd.R_grown2 h.rv rfl hg (fun k hk => h.ap k hk)
  · intro k hk
    rcases hat with e | e
    · exact h.nu k (e ▸ hk)
    · rw [e] at hk
      injection hk with hk
      omega
  · intro k hk he
    rcases hat with e | e
    · exact h.ap k (e ▸ hk) he
    · rw [e] at hk
      injection hk with hk
      have := hlt k he.symm
      omega
theorem St.swap (h : St w0 W base B u0 v0 u v xs ys) : True := trivial
theorem St.app2 (h : St w0 W base B u0 v0 u v xs ys) (hR : RI w1 base v1 xs1) (hg : W.grownBy w1 v.ownBlock) (hat : v1.ownBlock = v.ownBlock ∨ v1.ownBlock = some W.heap.size) : St w0 w1 base B u0 v0 u v1 xs xs1 := by
  have hB := h.hB
  have e1 : some B ≠ v.ownBlock := fun he => (h.nv B he.symm).1 rfl
  have e2 : some (B + 1) ≠ v.ownBlock := fun he => (h.nv (B + 1) he.symm).2 rfl
  have hlt := fun k hk => R_lt h.ru k hk
  refine ⟨(grown_cell hg ⟨B, 0, none⟩ (by simp; omega) e1).trans h.cu, (grown_cell hg ⟨B + 1, 0, none⟩ (by simp; omega) e2).trans h.cv, ?_, ?_, Nat.lt_of_lt_of_le hB hg.size, ?_, hR, h.nu, ?_, ?_, Nat.le_trans h.hb hg.size, h.b.grown hg h.b.size (fun k hk => Nat.le_trans h.lo.1 (R_base h.rv k hk)), h.lo⟩
  · have := hg.block B (by omega) e1
    have hf := h.fu
    simp only [World.frozen?] at hf ⊢
    rw [this]
    exact hf
  · have := hg.block (B + 1) (by omega) e2
    have hf := h.fv
    simp only [World.frozen?] at hf ⊢
    rw [this]
    exact hf
  · exact Kd.R_grown2 h.ru rfl hg (fun k hk he => h.ap k he.symm hk.symm)
  · intro k hk
    rcases hat with e | e
    · exact h.nv k (e ▸ hk)
    · rw [e] at hk
      injection hk with hk
      omega
  · intro k hk he
    have := hlt k hk
    rcases hat with e | e
    · exact h.ap k hk (e ▸ he)
    · rw [e] at he
      injection he with he
      omega
theorem R_snoc {x : Int} (h : RI W base v (xs ++ [x])) : ∃ A c, v = .slice A (xs.length + 1) c := by
  obtain ⟨A, c, rfl, _⟩ := Kd.R_reads h
  exact ⟨A, c, by simp⟩
/-- The element's box. -/
theorem box_at {g : Nat} {x : Int} (h : W.heap[g]? = some (.cells #[.int .i64 x] 3 (0, 0))) : ∀ j u, [Value.int .i64 x][j]? = some u → W.cell? ((⟨g, 0, none⟩ : Addr).add j) = some u := World.news_of_block (cs := #[.int .i64 x]) h
theorem box0 (W : World) (x : Int) : ∀ j u, [Value.int .i64 x][j]? = some u → (W.alloc (.cells #[.int .i64 x] 3)).cell? ((⟨W.heap.size, 0, none⟩ : Addr).add j) = some u := box_at (heap_alloc_new W _)
theorem box1 (W : World) (x : Int) (o : Obj) : ∀ j u, [Value.int .i64 x][j]? = some u → ((W.alloc (.cells #[.int .i64 x] 3)).alloc o).cell? ((⟨W.heap.size, 0, none⟩ : Addr).add j) = some u := box_at (blk_alloc (heap_alloc_new W _) o)
theorem box2 (W : World) (x : Int) (o : Obj) : ∀ j u, [Value.int .i64 x][j]? = some u → ((W.alloc o).alloc (.cells #[.int .i64 x] 3)).cell? ((⟨W.heap.size + 1, 0, none⟩ : Addr).add j) = some u := box_at (by have := heap_alloc_new (W.alloc o) (.cells #[.int .i64 x] 3); simpa using this)
theorem box1g {X : World} {x : Int} {o : Obj} {row : Option Nat} (hg : ((X.alloc (.cells #[.int .i64 x] 3)).alloc o).grownBy w1 row) (hr : ∀ k, row = some k → k < X.heap.size) : ∀ j u, [Value.int .i64 x][j]? = some u → w1.cell? ((⟨X.heap.size, 0, none⟩ : Addr).add j) = some u :=
  box_at (blk_grown (blk_alloc (heap_alloc_new X _) o) hg (fun he => by have := hr _ he.symm; omega))
theorem box2g {X : World} {x : Int} {o : Obj} {row : Option Nat} (hg : ((X.alloc o).alloc (.cells #[.int .i64 x] 3)).grownBy w1 row) (hr : ∀ k, row = some k → k < X.heap.size) : ∀ j u, [Value.int .i64 x][j]? = some u → w1.cell? ((⟨X.heap.size + 1, 0, none⟩ : Addr).add j) = some u :=
  box_at (blk_grown (by have := heap_alloc_new (X.alloc o) (.cells #[.int .i64 x] 3); simpa using this) hg (fun he => by have := hr _ he.symm; omega))
/-- Both variables written. -/
theorem St.both (h : St w0 W base B u0 v0 u v xs ys) : St w0 ((W.setCell ⟨B, 0, none⟩ u).setCell ⟨B + 1, 0, none⟩ v) base B u v u v xs ys ∧ St w0 ((W.setCell ⟨B + 1, 0, none⟩ v).setCell ⟨B, 0, none⟩ u) base B u v u v xs ys := by
  have hB := h.hB
  have key : ∀ (X : World) (p : Addr) (x : Value) (z : Value) (zs : List Int), RI X base z zs → (∀ k, z.ownBlock = some k → k ≠ p.block) → RI (X.setCell p x) base z zs := fun X p x z zs hr hne => Kd.R_mono (Kd.R_far (Kd.R_tight rfl hr) (fun k hk => hne k hk.symm) x) (fun k hk => hr.1 k hk.symm)
  have cell2 : ∀ (x y : Value) (i j : Nat), i ≠ j → (∃ z, W.cell? ⟨i, 0, none⟩ = some z) → (∃ z, W.cell? ⟨j, 0, none⟩ = some z) → ((W.setCell ⟨i, 0, none⟩ x).setCell ⟨j, 0, none⟩ y).cell? ⟨i, 0, none⟩ = some x ∧ ((W.setCell ⟨i, 0, none⟩ x).setCell ⟨j, 0, none⟩ y).cell? ⟨j, 0, none⟩ = some y := by
    rintro x y i j hij ⟨a, ha⟩ ⟨b, hb⟩
    have h1 : (W.setCell ⟨i, 0, none⟩ x).cell? ⟨j, 0, none⟩ = some b := (World.cell?_setCell_other W ⟨i, 0, none⟩ ⟨j, 0, none⟩ x (by intro e; injection e with e; exact hij e)).trans hb
    exact ⟨(World.cell?_setCell_other _ ⟨j, 0, none⟩ ⟨i, 0, none⟩ y (by intro e; injection e with e; exact hij e.symm)).trans (World.cell?_setCell_same _ _ _ ha), World.cell?_setCell_same _ _ _ h1⟩
  refine ⟨⟨(cell2 u v B (B + 1) (by omega) ⟨_, h.cu⟩ ⟨_, h.cv⟩).1, (cell2 u v B (B + 1) (by omega) ⟨_, h.cu⟩ ⟨_, h.cv⟩).2, ?_, ?_, ?_, key _ _ _ _ _ (key _ _ _ _ _ h.ru (fun k hk => (h.nu k hk).1)) (fun k hk => (h.nu k hk).2), key _ _ _ _ _ (key _ _ _ _ _ h.rv (fun k hk => (h.nv k hk).1)) (fun k hk => (h.nv k hk).2), h.nu, h.nv, h.ap, ?_, ?_, h.lo⟩, ⟨(cell2 v u (B + 1) B (by omega) ⟨_, h.cv⟩ ⟨_, h.cu⟩).2, (cell2 v u (B + 1) B (by omega) ⟨_, h.cv⟩ ⟨_, h.cu⟩).1, ?_, ?_, ?_, key _ _ _ _ _ (key _ _ _ _ _ h.ru (fun k hk => (h.nu k hk).2)) (fun k hk => (h.nu k hk).1), key _ _ _ _ _ (key _ _ _ _ _ h.rv (fun k hk => (h.nv k hk).2)) (fun k hk => (h.nv k hk).1), h.nu, h.nv, h.ap, ?_, ?_, h.lo⟩⟩
  all_goals first | simpa using h.fu | simpa using h.fv | simpa using hB | simpa using h.hb | exact (h.b.setCell h.lo.2 _).setCell (Nat.le_succ_of_le h.lo.2) _ | exact (h.b.setCell (Nat.le_succ_of_le h.lo.2) _).setCell h.lo.2 _
set_option maxHeartbeats 4000000 in
set_option maxRecDepth 100000 in
theorem put_calls (w0 w : World) (base B : Nat) (u v : Value) (xs ys : List Int) (s m : Int) (hS : St w0 w base B u v u v xs ys) (hx : (xs.length + 1) * 8 ≤ 140737488355328) (hy : (ys.length + 1) * 8 ≤ 140737488355328) :
    Calls Try.prog 39 #[.int .i64 s, .int .i64 m, .pointer (some ⟨B, 0, none⟩), .pointer (some ⟨B + 1, 0, none⟩)] w fun e w' => e = .returned (.tuple #[]) ∧ ∃ u1 v1, St w0 w' base B u1 v1 u1 v1 (xs ++ [s]) (ys ++ [m]) := by
  have hcu := hS.cu
  have hcv := hS.cv
  have n2 := hS.hB
  have n1 := Nat.lt_of_succ_lt n2
  have hst := hS.drew
  have hlu : ∀ k, u.ownBlock = some k → k < w.drew.heap.size := fun k hk => R_lt hst.ru k hk
  have hlv : ∀ k, v.ownBlock = some k → k < w.drew.heap.size := fun k hk => R_lt hst.rv k hk
  have HLU := Lib.hid hlu
  have HLV := Lib.hid hlv
  have HST := Lib.hid hst
  clear hst hlu hlv hS
  go_enter Try.func39, Try.ntmps39
  go_region_law (first
    | (refine Step.R_app_step (Kd.int .i64) base (by rfl) (.tmp 10) (.tmp 12) 25 3 (.int .i64 0) 8 (by rfl) Try.underlying25 infoI rfl (by decide) (by omega) v ys m [.int .i64 m] (fun _ => True) (fun _ => False) _ _ (by rfl) (by rfl) (by first | exact box0 _ _ | exact box1g (X := w.drew) (o := .cells #[.int .i64 s] 3) hgA HLU.out | exact box2g (X := w.drew) (o := .cells #[.int .i64 s] 3) hgA HLU.out) rfl (fun _ h => h.elim) (fun _ _ => trivial) (by first | exact (HsA.out).rv | exact (HsA.out.alloc _).rv) (by first | exact (HsA.out).hb | exact (HsA.out.alloc _).hb) hy ?_; intro v1 wC hRC hgC hatC; obtain ⟨Av1, cv1, rfl⟩ := R_snoc hRC; have sC : St w0 wC base B u v _ _ (xs ++ [s]) (ys ++ [m]) := (by first | exact (HsA.out).app2 hRC hgC hatC | exact (HsA.out.alloc _).app2 hRC hgC hatC); have h1sC := sC.cu; have h2sC := sC.cv; have n2sC := sC.hB; have n1sC := Nat.lt_of_succ_lt n2sC; have h3sC := sC.fu; have h4sC := sC.fv; have HsC := Lib.hid sC; clear sC)
    | (refine Step.R_app_step (Kd.int .i64) base (by rfl) (.tmp 6) (.tmp 8) 25 3 (.int .i64 0) 8 (by rfl) Try.underlying25 infoI rfl (by decide) (by omega) u xs s [.int .i64 s] (fun _ => True) (fun _ => False) _ _ (by rfl) (by rfl) (by first | exact box0 _ _ | exact box1g (X := w.drew) (o := .cells #[.int .i64 m] 3) hgB HLV.out | exact box2g (X := w.drew) (o := .cells #[.int .i64 m] 3) hgB HLV.out) rfl (fun _ h => h.elim) (fun _ _ => trivial) (by first | exact (HsB.out).ru | exact (HsB.out.alloc _).ru) (by first | exact (HsB.out).hb | exact (HsB.out.alloc _).hb) hx ?_; intro u1 wC hRC hgC hatC; obtain ⟨Au1, cu1, rfl⟩ := R_snoc hRC; have sC : St w0 wC base B u v _ _ (xs ++ [s]) (ys ++ [m]) := (by first | exact (HsB.out).app1 hRC hgC hatC | exact (HsB.out.alloc _).app1 hRC hgC hatC); have h1sC := sC.cu; have h2sC := sC.cv; have n2sC := sC.hB; have n1sC := Nat.lt_of_succ_lt n2sC; have h3sC := sC.fu; have h4sC := sC.fv; have HsC := Lib.hid sC; clear sC)
    | (refine Step.R_app_step (Kd.int .i64) base (by rfl) (.tmp 6) (.tmp 8) 25 3 (.int .i64 0) 8 (by rfl) Try.underlying25 infoI rfl (by decide) (by omega) u xs s [.int .i64 s] (fun _ => True) (fun _ => False) _ _ (by rfl) (by rfl) (by first | exact box0 _ _ | exact box1 _ _ _ | exact box2 _ _ _) rfl (fun _ h => h.elim) (fun _ _ => trivial) (by first | exact (HST.out).ru | exact (HST.out.alloc _).ru | exact ((HST.out.alloc _).alloc _).ru) (by first | exact (HST.out).hb | exact (HST.out.alloc _).hb | exact ((HST.out.alloc _).alloc _).hb) hx ?_; intro u1 wA hRA hgA hatA; obtain ⟨Au1, cu1, rfl⟩ := R_snoc hRA; have sA : St w0 wA base B u v _ v (xs ++ [s]) ys := (by first | exact (HST.out).app1 hRA hgA hatA | exact (HST.out.alloc _).app1 hRA hgA hatA | exact ((HST.out.alloc _).alloc _).app1 hRA hgA hatA); have h1sA := sA.cu; have h2sA := sA.cv; have n2sA := sA.hB; have n1sA := Nat.lt_of_succ_lt n2sA; have h3sA := sA.fu; have h4sA := sA.fv; have HsA := Lib.hid sA; clear sA)
    | (refine Step.R_app_step (Kd.int .i64) base (by rfl) (.tmp 10) (.tmp 12) 25 3 (.int .i64 0) 8 (by rfl) Try.underlying25 infoI rfl (by decide) (by omega) v ys m [.int .i64 m] (fun _ => True) (fun _ => False) _ _ (by rfl) (by rfl) (by first | exact box0 _ _ | exact box1 _ _ _ | exact box2 _ _ _) rfl (fun _ h => h.elim) (fun _ _ => trivial) (by first | exact (HST.out).rv | exact (HST.out.alloc _).rv | exact ((HST.out.alloc _).alloc _).rv) (by first | exact (HST.out).hb | exact (HST.out.alloc _).hb | exact ((HST.out.alloc _).alloc _).hb) hy ?_; intro v1 wB hRB hgB hatB; obtain ⟨Av1, cv1, rfl⟩ := R_snoc hRB; have sB : St w0 wB base B u v u _ xs (ys ++ [m]) := (by first | exact (HST.out).app2 hRB hgB hatB | exact (HST.out.alloc _).app2 hRB hgB hatB | exact ((HST.out.alloc _).alloc _).app2 hRB hgB hatB); have h1sB := sB.cu; have h2sB := sB.cv; have n2sB := sB.hB; have n1sB := Nat.lt_of_succ_lt n2sB; have h3sB := sB.fu; have h4sB := sB.fv; have HsB := Lib.hid sB; clear sB))
  all_goals go_wp2
  all_goals go_end0
  all_goals exact ⟨rfl, _, _, (by first | exact HsC.out.both.1 | exact HsC.out.both.2)⟩
end Go.Proofs.Ytmecigllpdeeoaa.Run
