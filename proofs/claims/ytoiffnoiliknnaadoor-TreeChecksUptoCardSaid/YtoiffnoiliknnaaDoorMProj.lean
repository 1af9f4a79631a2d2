/- TreeK, TreeP, TreeS, TreeQ put together. -/
import Derived.Test.YtoiffnoiliknnaaDoorMTree
import Derived.Test.YtoiffnoiliknnaaDoorMTim
set_option linter.unusedVariables false
set_option linter.unusedSimpArgs false
namespace Go.Proofs.YtoiffnoiliknnaaDoor.Tree
open Go.RowKit Go.BigFrame Go.Maps Go.Proofs.YtoiffnoiliknnaaDoor.Reg Go.Proofs.YtoiffnoiliknnaaDoor.Rout Go.Proofs.YtoiffnoiliknnaaDoor.Node Go.Proofs.YtoiffnoiliknnaaDoor.Tim Go.Proofs.YtoiffnoiliknnaaDoorW.PrintWords Go.Proofs.YtoiffnoiliknnaaDoorW.PrintLast Go.Proofs.YtoiffnoiliknnaaDoorW.PrintMore
def dataB : ByteArray := ⟨#[100, 97, 116, 97]⟩
def keptF (x : Nd) (fmt : Int) : Nd × Bool :=
  if fmt = 2 then (if (dosF x.f4).2.2 = 0 then (⟨x.f0, x.f1, x.f2, x.f3, (ofDosF (dosF x.f4).1 (dosF x.f4).2.1).1⟩, true) else (x, false))
  else if fmt = 3 then (if x.f0 = 2 ∧ (parB x.f1).2 = false ∧ 0 ≤ x.f4 ∧ x.f4 ≤ 4294967295 then (⟨x.f0, x.f1, x.f2, 420, x.f4⟩, true) else (x, false))
  else if fmt = 4 ∨ fmt = 5 then (if x.f0 = 2 ∧ x.f1.toList = [100, 97, 116, 97] then (⟨x.f0, x.f1, x.f2, 420, 0⟩, true) else (x, false))
  else (x, true)
theorem two_cells {w w1 : World} {a b : Array Value} {t u : TypeId} (hb : Below ((w.alloc (.cells a t)).alloc (.cells b u)).heap.size ((w.alloc (.cells a t)).alloc (.cells b u)) w1) :
    (∀ j, w1.cell? ⟨w.heap.size, j, none⟩ = a[j]?) ∧ (∀ j, w1.cell? ⟨w.heap.size + 1, j, none⟩ = b[j]?) ∧ (∀ j, w1.frozen? ⟨w.heap.size, j, none⟩ = false) ∧ (∀ j, w1.frozen? ⟨w.heap.size + 1, j, none⟩ = false) ∧ Below w.heap.size w w1 ∧ w.heap.size + 2 ≤ w1.heap.size := by
  have e : ((w.alloc (.cells a t)).alloc (.cells b u)).heap.size = w.heap.size + 2 := by simp
  have b0 : ((w.alloc (.cells a t)).alloc (.cells b u)).heap[w.heap.size]? = some (.cells a t (0, 0)) := blk_alloc (heap_alloc_new w _) _
  have b1 : ((w.alloc (.cells a t)).alloc (.cells b u)).heap[w.heap.size + 1]? = some (.cells b u (0, 0)) := by
    have := heap_alloc_new (w.alloc (.cells a t)) (.cells b u)
    simpa using this
  have c0 := blk_below b0 hb
  have c1 := blk_below b1 hb
  exact ⟨fun j => blk_cell c0 j, fun j => blk_cell c1 j, fun j => blk_frozen c0 j, fun j => blk_frozen c1 j, bgo (balloc (balloc (Below.refl _ _) _) _) hb, by have := hb.size; omega⟩
set_option maxRecDepth 100000 in
set_option maxHeartbeats 8000000 in
theorem kept_calls (x : Nd) (A : Option Addr) (c : Nat) (fmt : Int) (w : World) (hps : x.f1.size ≤ 140737488351232) :
    Calls Tryd.prog 20 #[.agg #[.int .i64 x.f0, .string x.f1, .slice A x.f2.length c, .int .i64 x.f3, .int .i64 x.f4], .int .i64 fmt] w fun e w' => e = .returned (.tuple #[.agg #[.int .i64 (keptF x fmt).1.f0, .string (keptF x fmt).1.f1, .slice A x.f2.length c, .int .i64 (keptF x fmt).1.f3, .int .i64 (keptF x fmt).1.f4], .bool (keptF x fmt).2]) ∧ Below w.heap.size w w' := by
  by_cases f2 : fmt = 2
  · subst f2
    have HD := Lib.hid (fun W => dos_calls x.f4 W)
    by_cases he : (dosF x.f4).2.2 = 0
    · have HO := Lib.hid (fun W => ofDos_calls (dosF x.f4).1 (dosF x.f4).2.1 W)
      have hE := Lib.hid (show keptF x 2 = (⟨x.f0, x.f1, x.f2, x.f3, (ofDosF (dosF x.f4).1 (dosF x.f4).2.1).1⟩, true) by unfold keptF; rw [if_pos rfl, if_pos he])
      rw [he] at HD
      clear he
      generalize (dosF x.f4).1 = da at *
      generalize (dosF x.f4).2.1 = ti at *
      generalize (ofDosF da ti).1 = tm at *
      generalize (ofDosF da ti).2 = em at *
      go_enter Tryd.func20, Tryd.ntmps20
      go_wp2_with (first
        | (go_at_call 41; refine (HD.out _).mono ?_; rintro e w1 ⟨rfl, hb1⟩; obtain ⟨g0, g1, g2, g3, g4, g5⟩ := two_cells hb1; have m0 := g0 0; have m1 := g0 1; have m2 := g0 2; have m3 := g0 3; have m4 := g0 4; have n0 := g1 0; have n1 := g1 1; have n2 := g1 2; have n3 := g1 3; have n4 := g1 4; have G2 := Lib.hid g2; have G3 := Lib.hid g3; clear g0 g1 g2 g3 hb1)
        | (go_at_call 42; refine (HO.out _).mono ?_; rintro e w2 ⟨rfl, hb2⟩; have HB := Lib.hid (bgo g4 hb2); have p0 := bkeep hb2 m0; have p1 := bkeep hb2 m1; have p2 := bkeep hb2 m2; have p3 := bkeep hb2 m3; have p4 := bkeep hb2 m4; have r0 := bkeep hb2 n0; have r1 := bkeep hb2 n1; have r2 := bkeep hb2 n2; have r3 := bkeep hb2 n3; have r4 := bkeep hb2 n4; have G4 := Lib.hid (fun j => (hb2.frozen (p := ⟨w.heap.size, j, none⟩) (by simp; omega)).trans (G2.out j)); have G5 := Lib.hid (fun j => (hb2.frozen (p := ⟨w.heap.size + 1, j, none⟩) (by simp; omega)).trans (G3.out j)); have s4 := G4.out 4; have z0 := G5.out 0; have z1 := G5.out 1; have z2 := G5.out 2; have z3 := G5.out 3; have z4 := G5.out 4; clear hb2))
      refine bodyPost_ret (v := .tuple #[.agg #[.int .i64 x.f0, .string x.f1, .slice A x.f2.length c, .int .i64 x.f3, .int .i64 tm], .bool true]) (by simp [results, Tryd.results20, go_sem, r0, r1, r2, r3, r4]) rfl ⟨?_, ?_⟩
      · rw [hE.out]
      · repeat (first | with_reducible exact HB.out | refine Below.setCell ?_ (by simp) _)
    · have hE := Lib.hid (show keptF x 2 = (x, false) by unfold keptF; rw [if_pos rfl, if_neg he])
      have hz : ((dosF x.f4).2.2 != 0) = true := by simpa using he
      clear he
      generalize (dosF x.f4).1 = da at *
      generalize (dosF x.f4).2.1 = ti at *
      generalize (dosF x.f4).2.2 = er at *
      go_enter Tryd.func20, Tryd.ntmps20
      go_wp2_with (go_at_call 41; refine (HD.out _).mono ?_; rintro e w1 ⟨rfl, hb1⟩; obtain ⟨g0, g1, g2, g3, g4, g5⟩ := two_cells hb1; have HB := Lib.hid g4; have m0 := g0 0; have m1 := g0 1; have m2 := g0 2; have m3 := g0 3; have m4 := g0 4; have r0 := g1 0; have r1 := g1 1; have r2 := g1 2; have r3 := g1 3; have r4 := g1 4; have s3 := g2 3; have z0 := g3 0; have z1 := g3 1; have z2 := g3 2; have z3 := g3 3; have z4 := g3 4; clear g0 g1 g2 g3 hb1)
      refine bodyPost_ret (v := .tuple #[.agg #[.int .i64 x.f0, .string x.f1, .slice A x.f2.length c, .int .i64 x.f3, .int .i64 x.f4], .bool false]) (by simp [results, Tryd.results20, go_sem, r0, r1, r2, r3, r4]) rfl ⟨?_, ?_⟩
      · rw [hE.out]
      · repeat (first | with_reducible exact HB.out | refine Below.setCell ?_ (by simp) _)
  by_cases f3 : fmt = 3
  · subst f3
    have HP := Lib.hid (fun W => parent_calls x.f1 W (by omega))
    have hk := Lib.hid (show keptF x 3 = (if x.f0 = 2 ∧ (parB x.f1).2 = false ∧ 0 ≤ x.f4 ∧ x.f4 ≤ 4294967295 then (⟨x.f0, x.f1, x.f2, 420, x.f4⟩, true) else (x, false)) by unfold keptF; rw [if_neg (by decide), if_pos rfl])
    clear f2
    generalize (parB x.f1).1 = pa at *
    generalize (parB x.f1).2 = inner at *
    by_cases h1 : x.f0 = 2
    · cases inner
      · by_cases h2 : x.f4 < 0
        · have hE := Lib.hid (show keptF x 3 = (x, false) by rw [hk.out, if_neg (by omega)])
          clear hk
          go_enter Tryd.func20, Tryd.ntmps20
          go_wp2_with (go_at_call 29; refine (HP.out _).mono ?_; rintro e w1 ⟨rfl, hb1⟩; obtain ⟨g0, g1, g2, g3, g4, g5⟩ := two_cells hb1; have HB := Lib.hid g4; have m0 := g0 0; have m1 := g0 1; have m2 := g0 2; have m3 := g0 3; have m4 := g0 4; have r0 := g1 0; have r1 := g1 1; have r2 := g1 2; have r3 := g1 3; have r4 := g1 4; have s3 := g2 3; have z0 := g3 0; have z1 := g3 1; have z2 := g3 2; have z3 := g3 3; have z4 := g3 4; clear g0 g1 g2 g3 hb1)
          refine bodyPost_ret (v := .tuple #[.agg #[.int .i64 2, .string x.f1, .slice A x.f2.length c, .int .i64 x.f3, .int .i64 x.f4], .bool false]) (by simp [results, Tryd.results20, go_sem, r0, r1, r2, r3, r4]) rfl ⟨?_, ?_⟩
          · rw [hE.out]; simp only [h1]
          · repeat (first | with_reducible exact HB.out | refine Below.setCell ?_ (by simp) _)
        · by_cases h3 : 4294967295 < x.f4
          · have hE := Lib.hid (show keptF x 3 = (x, false) by rw [hk.out, if_neg (by omega)])
            clear hk
            go_enter Tryd.func20, Tryd.ntmps20
            go_wp2_with (go_at_call 29; refine (HP.out _).mono ?_; rintro e w1 ⟨rfl, hb1⟩; obtain ⟨g0, g1, g2, g3, g4, g5⟩ := two_cells hb1; have HB := Lib.hid g4; have m0 := g0 0; have m1 := g0 1; have m2 := g0 2; have m3 := g0 3; have m4 := g0 4; have r0 := g1 0; have r1 := g1 1; have r2 := g1 2; have r3 := g1 3; have r4 := g1 4; have s3 := g2 3; have z0 := g3 0; have z1 := g3 1; have z2 := g3 2; have z3 := g3 3; have z4 := g3 4; clear g0 g1 g2 g3 hb1)
            refine bodyPost_ret (v := .tuple #[.agg #[.int .i64 2, .string x.f1, .slice A x.f2.length c, .int .i64 x.f3, .int .i64 x.f4], .bool false]) (by simp [results, Tryd.results20, go_sem, r0, r1, r2, r3, r4]) rfl ⟨?_, ?_⟩
            · rw [hE.out]; simp only [h1]
            · repeat (first | with_reducible exact HB.out | refine Below.setCell ?_ (by simp) _)
          · have hE := Lib.hid (show keptF x 3 = (⟨x.f0, x.f1, x.f2, 420, x.f4⟩, true) by rw [hk.out, if_pos ⟨h1, rfl, by omega, by omega⟩])
            clear hk
            go_enter Tryd.func20, Tryd.ntmps20
            go_wp2_with (go_at_call 29; refine (HP.out _).mono ?_; rintro e w1 ⟨rfl, hb1⟩; obtain ⟨g0, g1, g2, g3, g4, g5⟩ := two_cells hb1; have HB := Lib.hid g4; have m0 := g0 0; have m1 := g0 1; have m2 := g0 2; have m3 := g0 3; have m4 := g0 4; have r0 := g1 0; have r1 := g1 1; have r2 := g1 2; have r3 := g1 3; have r4 := g1 4; have s3 := g2 3; have z0 := g3 0; have z1 := g3 1; have z2 := g3 2; have z3 := g3 3; have z4 := g3 4; clear g0 g1 g2 g3 hb1)
            refine bodyPost_ret (v := .tuple #[.agg #[.int .i64 2, .string x.f1, .slice A x.f2.length c, .int .i64 420, .int .i64 x.f4], .bool true]) (by simp [results, Tryd.results20, go_sem, r0, r1, r2, r3, r4]) rfl ⟨?_, ?_⟩
            · rw [hE.out]; simp only [h1]
            · repeat (first | with_reducible exact HB.out | refine Below.setCell ?_ (by simp) _)
      · have hE := Lib.hid (show keptF x 3 = (x, false) by rw [hk.out, if_neg (by simp)])
        clear hk
        go_enter Tryd.func20, Tryd.ntmps20
        go_wp2_with (go_at_call 29; refine (HP.out _).mono ?_; rintro e w1 ⟨rfl, hb1⟩; obtain ⟨g0, g1, g2, g3, g4, g5⟩ := two_cells hb1; have HB := Lib.hid g4; have m0 := g0 0; have m1 := g0 1; have m2 := g0 2; have m3 := g0 3; have m4 := g0 4; have r0 := g1 0; have r1 := g1 1; have r2 := g1 2; have r3 := g1 3; have r4 := g1 4; have s3 := g2 3; have z0 := g3 0; have z1 := g3 1; have z2 := g3 2; have z3 := g3 3; have z4 := g3 4; clear g0 g1 g2 g3 hb1)
        refine bodyPost_ret (v := .tuple #[.agg #[.int .i64 2, .string x.f1, .slice A x.f2.length c, .int .i64 x.f3, .int .i64 x.f4], .bool false]) (by simp [results, Tryd.results20, go_sem, r0, r1, r2, r3, r4]) rfl ⟨?_, ?_⟩
        · rw [hE.out]; simp only [h1]
        · repeat (first | with_reducible exact HB.out | refine Below.setCell ?_ (by simp) _)
    · have hE := Lib.hid (show keptF x 3 = (x, false) by rw [hk.out, if_neg (fun h => h1 h.1)])
      have hz : (x.f0 != 2) = true := by simpa using h1
      clear hk
      go_enter Tryd.func20, Tryd.ntmps20
      go_wp2_with (go_at_call 29; refine (HP.out _).mono ?_; rintro e w1 ⟨rfl, hb1⟩; obtain ⟨g0, g1, g2, g3, g4, g5⟩ := two_cells hb1; have HB := Lib.hid g4; have m0 := g0 0; have m1 := g0 1; have m2 := g0 2; have m3 := g0 3; have m4 := g0 4; have r0 := g1 0; have r1 := g1 1; have r2 := g1 2; have r3 := g1 3; have r4 := g1 4; have s3 := g2 3; have z0 := g3 0; have z1 := g3 1; have z2 := g3 2; have z3 := g3 3; have z4 := g3 4; clear g0 g1 g2 g3 hb1)
      refine bodyPost_ret (v := .tuple #[.agg #[.int .i64 x.f0, .string x.f1, .slice A x.f2.length c, .int .i64 x.f3, .int .i64 x.f4], .bool false]) (by simp [results, Tryd.results20, go_sem, r0, r1, r2, r3, r4]) rfl ⟨?_, ?_⟩
      · rw [hE.out]
      · repeat (first | with_reducible exact HB.out | refine Below.setCell ?_ (by simp) _)
  have f2n : (fmt == 2) = false := beq_eq_false_iff_ne.mpr f2
  have f3n : (fmt == 3) = false := beq_eq_false_iff_ne.mpr f3
  by_cases f45 : fmt = 4 ∨ fmt = 5
  · have hk := Lib.hid (show keptF x fmt = (if x.f0 = 2 ∧ x.f1.toList = [100, 97, 116, 97] then (⟨x.f0, x.f1, x.f2, 420, 0⟩, true) else (x, false)) by unfold keptF; rw [if_neg f2, if_neg f3, if_pos f45])
    have hcase : fmt = 4 ∨ ((fmt == 4) = false ∧ fmt = 5) := by
      rcases f45 with h | h
      · exact .inl h
      · exact .inr ⟨beq_eq_false_iff_ne.mpr (by omega), h⟩
    clear f45
    by_cases h1 : x.f0 = 2
    · cases h2 : (x.f1.toList == [100, 97, 116, 97])
      · have hE := Lib.hid (show keptF x fmt = (x, false) by rw [hk.out, if_neg (fun h => by rw [h.2] at h2; simp at h2)])
        have hz : (x.f1.toList != [100, 97, 116, 97]) = true := by simp [bne, h2]
        rcases hcase with rfl | ⟨f4n, rfl⟩
        all_goals
          go_enter Tryd.func20, Tryd.ntmps20
          go_wp2
          refine bodyPost_ret (v := .tuple #[.agg #[.int .i64 2, .string x.f1, .slice A x.f2.length c, .int .i64 x.f3, .int .i64 x.f4], .bool false]) (by simp [results, Tryd.results20, go_sem]) rfl ⟨?_, ?_⟩
          · rw [hE.out]; simp only [h1]
          · repeat (first | with_reducible exact Below.refl _ _ | apply balloc | refine Below.setCell ?_ (by simp) _)
      · have hE := Lib.hid (show keptF x fmt = (⟨x.f0, x.f1, x.f2, 420, 0⟩, true) by rw [hk.out, if_pos ⟨h1, by simpa using h2⟩])
        have hz : (x.f1.toList != [100, 97, 116, 97]) = false := by simp [bne, h2]
        rcases hcase with rfl | ⟨f4n, rfl⟩
        all_goals
          go_enter Tryd.func20, Tryd.ntmps20
          go_wp2
          refine bodyPost_ret (v := .tuple #[.agg #[.int .i64 2, .string x.f1, .slice A x.f2.length c, .int .i64 420, .int .i64 0], .bool true]) (by simp [results, Tryd.results20, go_sem]) rfl ⟨?_, ?_⟩
          · rw [hE.out]; simp only [h1]
          · repeat (first | with_reducible exact Below.refl _ _ | apply balloc | refine Below.setCell ?_ (by simp) _)
    · have hE := Lib.hid (show keptF x fmt = (x, false) by rw [hk.out, if_neg (fun h => h1 h.1)])
      have hz : (x.f0 != 2) = true := by simpa using h1
      rcases hcase with rfl | ⟨f4n, rfl⟩
      all_goals
        go_enter Tryd.func20, Tryd.ntmps20
        go_wp2
        refine bodyPost_ret (v := .tuple #[.agg #[.int .i64 x.f0, .string x.f1, .slice A x.f2.length c, .int .i64 x.f3, .int .i64 x.f4], .bool false]) (by simp [results, Tryd.results20, go_sem]) rfl ⟨?_, ?_⟩
        · rw [hE.out]
        · repeat (first | with_reducible exact Below.refl _ _ | apply balloc | refine Below.setCell ?_ (by simp) _)
  · have hE := Lib.hid (show keptF x fmt = (x, true) by unfold keptF; rw [if_neg f2, if_neg f3, if_neg f45])
    have f4n : (fmt == 4) = false := beq_eq_false_iff_ne.mpr (by omega)
    have f5n : (fmt == 5) = false := beq_eq_false_iff_ne.mpr (by omega)
    go_enter Tryd.func20, Tryd.ntmps20
    go_wp2
    refine bodyPost_ret (v := .tuple #[.agg #[.int .i64 x.f0, .string x.f1, .slice A x.f2.length c, .int .i64 x.f3, .int .i64 x.f4], .bool true]) (by simp [results, Tryd.results20, go_sem]) rfl ⟨?_, ?_⟩
    · rw [hE.out]
    · repeat (first | with_reducible exact Below.refl _ _ | apply balloc | refine Below.setCell ?_ (by simp) _)
end Go.Proofs.YtoiffnoiliknnaaDoor.Tree
set_option linter.unusedVariables false
set_option linter.unusedSimpArgs false
namespace Go.Proofs.YtoiffnoiliknnaaDoor.Tree
open Go.RowKit Go.BigFrame Go.Maps Go.Proofs.YtoiffnoiliknnaaDoor.Reg Go.Proofs.YtoiffnoiliknnaaDoor.Rout Go.Proofs.YtoiffnoiliknnaaDoor.Node Go.Proofs.YtoiffnoiliknnaaDoor.Tim Go.Proofs.YtoiffnoiliknnaaDoorW.PrintWords Go.Proofs.YtoiffnoiliknnaaDoorW.PrintLast Go.Proofs.YtoiffnoiliknnaaDoorW.PrintMore
def keepsAll (l : List Nd) (fmt : Int) : Bool := l.all (fun x => (keptF x fmt).2)
def projF (l : List Nd) (fmt : Int) : List Nd × Int :=
  if fmt < 1 ∨ 6 < fmt then ([], 16)
  else if (chk l).2 ≠ 0 then ([], 21)
  else if 3 ≤ fmt ∧ fmt ≤ 5 ∧ l.length ≠ 1 then ([], 22)
  else if fmt = 2 ∧ 65535 < l.length then ([], 22)
  else if keepsAll l fmt = true then (l.map (fun x => (keptF x fmt).1), 0) else ([], 22)
theorem five_set (cs : List Value) (h : cs.length = 5) (v0 v1 v2 v3 v4 : Value) : ((((cs.set 0 v0).set 1 v1).set 2 v2).set 3 v3).set 4 v4 = [v0, v1, v2, v3, v4] := by
  match cs, h with
  | [a, b, c, d, e], _ => rfl
/-- All cells of element k written. -/
theorem GRow.set5 {W : World} {base g cap n : Nat} {E E' : Nat → List Value → Prop} (h : GRow W base g cap n E) (k : Nat) (hkn : k < n) (v0 v1 v2 v3 v4 : Value) (hk : E' k [v0, v1, v2, v3, v4]) (ho : ∀ j cs, j ≠ k → E j cs → E' j cs) :
    GRow (((((W.setCell ⟨g, k * 5, none⟩ v0).setCell ⟨g, k * 5 + 1, none⟩ v1).setCell ⟨g, k * 5 + 2, none⟩ v2).setCell ⟨g, k * 5 + 3, none⟩ v3).setCell ⟨g, k * 5 + 4, none⟩ v4) base g cap n E' ∧
      W.grownBy (((((W.setCell ⟨g, k * 5, none⟩ v0).setCell ⟨g, k * 5 + 1, none⟩ v1).setCell ⟨g, k * 5 + 2, none⟩ v2).setCell ⟨g, k * 5 + 3, none⟩ v3).setCell ⟨g, k * 5 + 4, none⟩ v4) (some g) := by
  obtain ⟨cells, how, he⟩ := h
  have s0 := how.stored (k * 5) v0
  have s1 := s0.1.stored (k * 5 + 1) v1
  have s2 := s1.1.stored (k * 5 + 2) v2
  have s3 := s2.1.stored (k * 5 + 3) v3
  have s4 := s3.1.stored (k * 5 + 4) v4
  refine ⟨⟨_, s4.1, fun j hj => ?_⟩, World.grownBy.trans (World.grownBy.trans (World.grownBy.trans (World.grownBy.trans s0.2 s1.2) s2.2) s3.2) s4.2⟩
  have e0 : cells.set (k * 5) v0 = cells.set (k * 5 + 0) v0 := rfl
  rw [elem_set _ _ _ _ _ (by omega), elem_set _ _ _ _ _ (by omega), elem_set _ _ _ _ _ (by omega), elem_set _ _ _ _ _ (by omega), e0, elem_set _ _ _ _ _ (by omega)]
  by_cases h2 : j = k
  · subst h2
    simp only [if_true]
    rw [five_set _ (by rw [List.length_take, List.length_drop, how.1]; have : j * 5 + 5 ≤ n * 5 := by omega
                       omega)]
    exact hk
  · simp only [if_neg h2]
    exact ho j _ h2 (he j hj)
theorem set_grown (W : World) (g o : Nat) (v : Value) : W.grownBy (W.setCell ⟨g, o, none⟩ v) (some g) :=
  ⟨rfl, rfl, rfl, by simp [World.setCell], fun k _ hk => Below.heap_setCell W ⟨g, o, none⟩ v k (fun e => hk (by rw [e]))⟩
def five (W : World) (g k : Nat) (v0 v1 v2 v3 v4 : Value) : World := ((((W.setCell ⟨g, k * 5, none⟩ v0).setCell ⟨g, k * 5 + 1, none⟩ v1).setCell ⟨g, k * 5 + 2, none⟩ v2).setCell ⟨g, k * 5 + 3, none⟩ v3).setCell ⟨g, k * 5 + 4, none⟩ v4
theorem five_grown (W : World) (g k : Nat) (v0 v1 v2 v3 v4 : Value) : W.grownBy (five W g k v0 v1 v2 v3 v4) (some g) :=
  World.grownBy.trans (World.grownBy.trans (World.grownBy.trans (World.grownBy.trans (set_grown _ _ _ _) (set_grown _ _ _ _)) (set_grown _ _ _ _)) (set_grown _ _ _ _)) (set_grown _ _ _ _)
def Done (l : List Nd) (fmt : Int) (W : World) (base g k : Nat) (j : Nat) (cs : List Value) : Prop :=
  ∀ x, l[j]? = some x → kN.M W base (fun q => q ≠ g) (if j < k then (keptF x fmt).1 else x) cs
theorem done_move {l : List Nd} {fmt : Int} {W W' : World} {base g k j : Nat} {cs : List Value} (h : Done l fmt W base g k j cs) (hm : ∀ q, q ≠ g → q < W.heap.size → W'.heap[q]? = W.heap[q]?) : Done l fmt W' base g k j cs :=
  fun x hx => Kd.M_step (h x hx) (fun q hq hlt => hm q hq hlt)
theorem kept_f2 (x : Nd) (fmt : Int) : (keptF x fmt).1.f2 = x.f2 := by
  unfold keptF
  split
  · split <;> rfl
  · split
    · split <;> rfl
    · split
      · split <;> rfl
      · rfl
theorem GRow.of_made {W : World} {base g cap : Nat} {l : List Nd} {ok : Nat → Prop} (h : kN.R 35 W base ok (.slice (some ⟨g, 0, none⟩) l.length cap) l) : GRow W base g cap l.length (fun j cs => ∀ x, l[j]? = some x → kN.M W base (fun q => ok q ∧ q ≠ g) x cs) := by
  obtain ⟨_, cells, how, hr⟩ := h
  exact ⟨cells, how, fun j hj x hx => kN.M_mono (fun q hq => ⟨hq.1, by have := hq.2; simpa [Value.ownBlock] using this⟩) (hr.2 j x hx)⟩
set_option maxRecDepth 100000 in
set_option maxHeartbeats 16000000 in
theorem project_calls (A : Option Addr) (c : Nat) (l : List Nd) (fmt : Int) (w : World) (hC : kN.C w A l.length l) (hok : ∀ x ∈ l, Ok x) (hl : l.length * 64 ≤ 140737488355328) :
    Calls Tryd.prog 8 #[.slice A l.length c, .int .i64 fmt] w fun e w' => ∃ v, e = .returned (.tuple #[v, .int .i64 (projF l fmt).2]) ∧ kN.R 35 w' w.heap.size (fun _ => True) v (projF l fmt).1 ∧ Below w.heap.size w w' := by
  have HP := Lib.hid (show projF l fmt = if fmt < 1 ∨ 6 < fmt then ([], 16) else if (chk l).2 ≠ 0 then ([], 21) else if 3 ≤ fmt ∧ fmt ≤ 5 ∧ l.length ≠ 1 then ([], 22) else if fmt = 2 ∧ 65535 < l.length then ([], 22) else if keepsAll l fmt = true then (l.map (fun x => (keptF x fmt).1), 0) else ([], 22) from rfl)
  by_cases ho : fmt < 1 ∨ 6 < fmt
  · have hE := Lib.hid (show projF l fmt = ([], 16) by rw [HP.out, if_pos ho])
    clear hC hok HP
    rcases ho with ho | ho
    all_goals
      go_enter Tryd.func8, Tryd.ntmps8
      go_wp2
      go_ret2
      rw [hE.out]
      exact ⟨_, rfl, Kd.R_nil _ _ _ _ _, Below.refl _ _⟩
  have HCK := Lib.hid (check_calls A c l w hC hok (by omega))
  by_cases he : (chk l).2 = 0
  · have HLE := Lib.hid (fun w1 (h : Below w.heap.size w w1) => lent_calls A c l w1 (Kd.C_below hC h) hok hl)
    have HOK := Lib.hid hok
    rw [he] at HCK
    have HP2 := Lib.hid (show projF l fmt = if 3 ≤ fmt ∧ fmt ≤ 5 ∧ l.length ≠ 1 then ([], 22) else if fmt = 2 ∧ 65535 < l.length then ([], 22) else if keepsAll l fmt = true then (l.map (fun x => (keptF x fmt).1), 0) else ([], 22) by rw [HP.out, if_neg ho, if_neg (by simpa using he)])
    clear hC hok he HP
    generalize (chk l).1 = at_ at *
    by_cases h1 : 3 ≤ fmt ∧ fmt ≤ 5 ∧ l.length ≠ 1
    · have hE := Lib.hid (show projF l fmt = ([], 22) by rw [HP2.out, if_pos h1])
      have hn : ((l.length : Int) != 1) = true := by simp; omega
      clear HP2 HLE HOK
      obtain rfl | rfl | rfl : fmt = 3 ∨ fmt = 4 ∨ fmt = 5 := by omega
      all_goals
        go_enter Tryd.func8, Tryd.ntmps8
        go_wp2_with (go_at_call 15; refine HCK.out.mono ?_; rintro e w1 ⟨rfl, hb1⟩)
        go_ret2
        rw [hE.out]
        exact ⟨_, rfl, Kd.R_nil _ _ _ _ _, hb1⟩
    · by_cases h2 : fmt = 2 ∧ 65535 < l.length
      · have hE := Lib.hid (show projF l fmt = ([], 22) by rw [HP2.out, if_neg h1, if_pos h2])
        clear HP2 HLE HOK
        obtain ⟨rfl, h3⟩ := h2
        clear h1
        go_enter Tryd.func8, Tryd.ntmps8
        go_wp2_with (go_at_call 15; refine HCK.out.mono ?_; rintro e w1 ⟨rfl, hb1⟩)
        go_ret2
        rw [hE.out]
        exact ⟨_, rfl, Kd.R_nil _ _ _ _ _, hb1⟩
      · have HP3 := Lib.hid (show projF l fmt = if keepsAll l fmt = true then (l.map (fun x => (keptF x fmt).1), 0) else ([], 22) by rw [HP2.out, if_neg h1, if_neg h2])
        by_cases h0 : l.length = 0
        · obtain rfl : l = [] := List.eq_nil_of_length_eq_zero h0
          have hE := Lib.hid (show projF [] fmt = ([], 0) by rw [HP3.out]; rfl)
          clear HP3 HP2 HOK
          have hf : fmt = 1 ∨ fmt = 2 ∨ fmt = 6 := by simp at h1; omega
          clear h1 h2 ho
          obtain rfl | rfl | rfl := hf
          all_goals
            go_enter Tryd.func8, Tryd.ntmps8
            go_wp2_with (first
              | (go_at_call 15; refine HCK.out.mono ?_; rintro e w1 ⟨rfl, hb1⟩)
              | (go_at_call 19; refine (HLE.out _ hb1).mono ?_; rintro e w2 ⟨v, rfl, hR, hb2⟩; obtain ⟨A1, c1, rfl, _, _⟩ := Kd.R_reads hR; have HR := Lib.hid hR; clear hR))
            refine wp_loop_rounds 1 ?_
            rw [rounds_succ]
            go_wp2
            go_ret2
            rw [hE.out]
            exact ⟨_, rfl, Kd.R_lower HR.out hb1.size, bgo hb1 hb2⟩
        · have f1 : 1 ≤ fmt := by omega
          have f6 : fmt ≤ 6 := by omega
          have hs : ((fmt == 3) = true ∧ (fmt == 2) = false ∧ ((l.length : Int) != 1) = false) ∨ ((fmt == 3) = false ∧ (fmt == 4) = true ∧ (fmt == 2) = false ∧ ((l.length : Int) != 1) = false) ∨ ((fmt == 3) = false ∧ (fmt == 4) = false ∧ (fmt == 5) = true ∧ (fmt == 2) = false ∧ ((l.length : Int) != 1) = false) ∨ ((fmt == 3) = false ∧ (fmt == 4) = false ∧ (fmt == 5) = false ∧ (fmt == 2) = true ∧ l.length ≤ 65535) ∨ ((fmt == 3) = false ∧ (fmt == 4) = false ∧ (fmt == 5) = false ∧ (fmt == 2) = false) := by
            simp only [beq_iff_eq, beq_eq_false_iff_ne, bne_eq_false_iff_eq]
            omega
          clear HP2 h1 h2 ho
          rcases hs with ⟨e3, e2, hn⟩ | ⟨e3, e4, e2, hn⟩ | ⟨e3, e4, e5, e2, hn⟩ | ⟨e3, e4, e5, e2, hbig⟩ | ⟨e3, e4, e5, e2⟩
          all_goals
            skip
            go_enter Tryd.func8, Tryd.ntmps8
            go_wp2_with (first
              | (go_at_call 15; refine HCK.out.mono ?_; rintro e w1 ⟨rfl, hb1⟩)
              | (go_at_call 19; refine (HLE.out _ hb1).mono ?_; rintro e w2 ⟨v, rfl, hR, hb2⟩; obtain ⟨g, cap, rfl, hgb, hgl, _⟩ := Kd.R_form hR (by omega); have HR := Lib.hid (Kd.R_lower hR hb1.size); have HB := Lib.hid (bgo hb1 hb2); clear hR))
            have hgb2 : w.heap.size ≤ g := Nat.le_trans hb1.size hgb
            have HG0 := Lib.hid ((GRow.of_made HR.out).imp (E' := Done l fmt w2 w.heap.size g 0) (fun j cs _ h x hx => by rw [if_neg (by omega)]; exact kN.M_mono (fun q hq => hq.2) (h x hx)))
            clear HR HCK HLE hb1 hb2 hgb
            go_loopw [10, 11, 52] (fun _ _ i wr => ∃ k : Nat, i = .int .i64 k ∧ k ≤ l.length ∧ Hid (GRow wr w.heap.size g cap l.length (Done l fmt wr w.heap.size g k)) ∧ Below w.heap.size w wr ∧ g < wr.heap.size ∧ Hid (keepsAll (l.take k) fmt = true)) (fun _ _ i _ => (l.length - intOf i).toNat)
            case atStart => exact ⟨0, rfl, by omega, HG0, HB.out, hgl, Lib.hid rfl⟩
            case round =>
              obtain ⟨k, rfl, hk, hG, hbr, hgr, hall⟩ := hrel
              by_cases hlt : k < l.length
              · obtain ⟨cs, hE, hcell, hfr⟩ := hG.out.at_ k hlt
                have hxk : l[k]? = some (rdN l (k : Int)) := by
                  unfold rdN
                  rw [Int.toNat_natCast, List.getD_eq_getElem?_getD, List.getElem?_eq_getElem hlt]
                  rfl
                have hE2 := hE _ hxk
                rw [if_neg (by omega)] at hE2
                obtain ⟨v2, rfl, hR2⟩ := kN_openM hE2
                obtain ⟨A2, c2, rfl, _, _⟩ := Kd.R_reads hR2
                have hps := (HOK.out _ (rdN_mem l k hlt)).ps
                have c0 := hcell 0 _ rfl
                have c1 := hcell 1 _ rfl
                have c2' := hcell 2 _ rfl
                have c3 := hcell 3 _ rfl
                have c4 := hcell 4 _ rfl
                rw [Nat.add_zero] at c0
                have HFR := Lib.hid hfr
                have k0 : (0 : Int) ≤ (k : Int) := by omega
                have k1 : (k : Int) < l.length := by omega
                have HXK := Lib.hid hxk
                have HTK := Lib.hid (take_rdN l k hlt)
                have HK := Lib.hid (fun W => kept_calls (rdN l (k : Int)) A2 c2 fmt W hps)
                have HR2 := Lib.hid hR2
                have HF2 := Lib.hid (kept_f2 (rdN l (k : Int)) fmt)
                clear hE hE2 hcell hfr hxk hR2
                cases hkb : (keptF (rdN l (k : Int)) fmt).2
                · have hPE := Lib.hid (show projF l fmt = ([], 22) by
                    rw [HP3.out, if_neg]
                    intro h
                    unfold keepsAll at h
                    rw [List.all_eq_true] at h
                    have := h _ (List.mem_of_getElem? HXK.out)
                    rw [hkb] at this
                    cases this)
                  rw [hkb] at HK
                  clear hkb HF2
                  generalize (keptF (rdN l (k : Int)) fmt).1 = y at *
                  generalize rdN l (k : Int) = x at *
                  go_wp2_with (go_at_call 20; refine (HK.out _).mono ?_; rintro e w3 ⟨rfl, hb3⟩; have d0 := bkeep hb3 c0; have d1 := bkeep hb3 c1; have d2 := bkeep hb3 c2'; have d3 := bkeep hb3 c3; have d4 := bkeep hb3 c4; have HF := Lib.hid (fun i => (hb3.frozen (p := ⟨g, i, none⟩) hgr).trans (HFR.out i)); have e0 := HF.out (k * 5); have e1 := HF.out (k * 5 + 1); have e2 := HF.out (k * 5 + 2); have e3 := HF.out (k * 5 + 3); have e4 := HF.out (k * 5 + 4))
                  go_ret2
                  rw [hPE.out]
                  exact ⟨_, rfl, Kd.R_nil _ _ _ _ _, (bgo hbr hb3).grown (five_grown w3 g k _ _ _ _ _) (bgo hbr hb3).size (fun q e => by injection e with e; omega)⟩
                · rw [hkb] at HK
                  have HALL := Lib.hid (show keepsAll (l.take (k + 1)) fmt = true by
                    rw [HTK.out]
                    unfold keepsAll
                    rw [List.all_append]
                    have := hall.out
                    unfold keepsAll at this
                    rw [this]
                    simp [hkb])
                  have HY := Lib.hid (show (keptF (rdN l (k : Int)) fmt).1 = (keptF (rdN l (k : Int)) fmt).1 from rfl)
                  clear hkb
                  generalize hy : (keptF (rdN l (k : Int)) fmt).1 = y at *
                  generalize hx : rdN l (k : Int) = x at *
                  have HYX := Lib.hid hy
                  clear hy hx HY
                  go_wp2_with (go_at_call 20; refine (HK.out _).mono ?_; rintro e w3 ⟨rfl, hb3⟩; have d0 := bkeep hb3 c0; have d1 := bkeep hb3 c1; have d2 := bkeep hb3 c2'; have d3 := bkeep hb3 c3; have d4 := bkeep hb3 c4; have HF := Lib.hid (fun i => (hb3.frozen (p := ⟨g, i, none⟩) hgr).trans (HFR.out i)); have e0 := HF.out (k * 5); have e1 := HF.out (k * 5 + 1); have e2 := HF.out (k * 5 + 2); have e3 := HF.out (k * 5 + 3); have e4 := HF.out (k * 5 + 4); have HB3 := Lib.hid hb3; clear hb3)
                  have HN := Lib.hid (GRow.set5 (E' := Done l fmt (five w3 g k (.int .i64 y.f0) (.string y.f1) (.slice A2 x.f2.length c2) (.int .i64 y.f3) (.int .i64 y.f4)) w.heap.size g (k + 1)) ((hG.out.below HB3.out).imp (fun j cs _ h => done_move h (fun q _ hlt => HB3.out.block q hlt))) k hlt (.int .i64 y.f0) (.string y.f1) (.slice A2 x.f2.length c2) (.int .i64 y.f3) (.int .i64 y.f4)
                    (fun z hz => by
                      obtain rfl := Option.some.inj (HXK.out.symm.trans hz)
                      rw [if_pos (by omega), HYX.out]
                      refine kN_mkM _ _ _ _ (v2 := .slice A2 x.f2.length c2) ?_
                      rw [HF2.out]
                      exact Kd.R_step (Kd.R_below HR2.out HB3.out) (fun q hq hlt => (five_grown w3 g k _ _ _ _ _).block q hlt (fun e => hq (by injection e))))
                    (fun j cs hj h z hz => by
                      have h1 := h z hz
                      have h2 : (if j < k + 1 then (keptF z fmt).1 else z) = (if j < k then (keptF z fmt).1 else z) := by
                        by_cases hjk : j < k
                        · rw [if_pos hjk, if_pos (by omega)]
                        · rw [if_neg hjk, if_neg (by omega)]
                      rw [h2]
                      exact Kd.M_step h1 (fun q hq hlt => (five_grown w3 g k _ _ _ _ _).block q hlt (fun e => hq (by injection e)))))
                  have HBN := Lib.hid ((bgo hbr HB3.out).grown HN.out.2 (bgo hbr HB3.out).size (fun q e => by injection e with e; omega))
                  have HGN := Lib.hid HN.out.1
                  have hgn : g < w3.heap.size := by have := HB3.out.size; omega
                  clear HN HK
                  go_wp2
                  go_roundw
                  case rel => exact ⟨k + 1, by go_num, by omega, HGN, HBN.out, by simpa [World.setCell] using hgn, HALL⟩
                  case measure => simp [intOf]; omega
              · obtain rfl : k = l.length := by omega
                have hPE := Lib.hid (show projF l fmt = (l.map (fun x => (keptF x fmt).1), 0) by rw [HP3.out, if_pos (by have := hall.out; rwa [List.take_length] at this)])
                go_wp2
                go_ret2
                rw [hPE.out]
                refine ⟨_, rfl, ?_, hbr⟩
                have hlm : (l.map (fun x => (keptF x fmt).1)).length = l.length := by rw [List.length_map]
                have hG2 : GRow wr w.heap.size g cap (l.map (fun x => (keptF x fmt).1)).length (fun j cs => ∀ x, (l.map (fun x => (keptF x fmt).1))[j]? = some x → kN.M wr w.heap.size (fun q => True ∧ q ≠ g) x cs) := by
                  rw [hlm]
                  refine hG.out.imp (fun j cs hj h x hx => ?_)
                  rw [List.getElem?_map] at hx
                  obtain ⟨z, hz, rfl⟩ := Option.map_eq_some_iff.1 hx
                  have h1 := h z hz
                  rw [if_pos hj] at h1
                  exact kN.M_mono (fun q hq => ⟨trivial, hq⟩) h1
                have hm := GRow.made (ok := fun _ => True) hG2 trivial
                rw [hlm] at hm
                exact hm
  · have hE := Lib.hid (show projF l fmt = ([], 21) by rw [HP.out, if_neg ho, if_pos he])
    have hz : ((chk l).2 != 0) = true := by simpa using he
    clear hC hok HP he
    generalize (chk l).2 = er at *
    generalize (chk l).1 = at_ at *
    go_enter Tryd.func8, Tryd.ntmps8
    go_wp2_with (go_at_call 15; refine HCK.out.mono ?_; rintro e w1 ⟨rfl, hb1⟩)
    go_ret2
    rw [hE.out]
    exact ⟨_, rfl, Kd.R_nil _ _ _ _ _, hb1⟩
end Go.Proofs.YtoiffnoiliknnaaDoor.Tree
set_option linter.unusedVariables false
set_option linter.unusedSimpArgs false
namespace Go.Proofs.YtoiffnoiliknnaaDoor.Tree
open Go.RowKit Go.BigFrame Go.Maps Go.Proofs.YtoiffnoiliknnaaDoor.Reg Go.Proofs.YtoiffnoiliknnaaDoor.Rout Go.Proofs.YtoiffnoiliknnaaDoor.Node Go.Proofs.YtoiffnoiliknnaaDoorW.PrintWords Go.Proofs.YtoiffnoiliknnaaDoorW.PrintLast Go.Proofs.YtoiffnoiliknnaaDoorW.PrintMore
def oneB (x y : Nd) : Bool := (x.f0 == y.f0) && (x.f1.toList == y.f1.toList) && (x.f2 == y.f2) && (x.f3 == y.f3) && (x.f4 == y.f4)
def sameB : List Nd → List Nd → Bool
  | [], [] => true
  | x :: r, y :: q => oneB x y && sameB r q
  | _, _ => false
theorem bytes_eq : ∀ xs ys : List Int, (∀ b ∈ xs, 0 ≤ b ∧ b ≤ 255) → (∀ b ∈ ys, 0 ≤ b ∧ b ≤ 255) → (Lib.bytesOf xs == Lib.bytesOf ys) = (xs == ys)
  | [], [], _, _ => rfl
  | [], b :: r, _, _ => rfl
  | a :: r, [], _, _ => rfl
  | a :: r, b :: q, hx, hy => by
    have ih := bytes_eq r q (fun c hc => hx c (by simp [hc])) (fun c hc => hy c (by simp [hc]))
    have ha := hx a (by simp)
    have hb := hy b (by simp)
    have e1 : Lib.bytesOf (a :: r) = a.toNat.toUInt8 :: Lib.bytesOf r := rfl
    have e2 : Lib.bytesOf (b :: q) = b.toNat.toUInt8 :: Lib.bytesOf q := rfl
    rw [e1, e2]
    show ((a.toNat.toUInt8 == b.toNat.toUInt8) && (Lib.bytesOf r == Lib.bytesOf q)) = ((a == b) && (r == q))
    rw [ih]
    congr 1
    rw [Bool.eq_iff_iff, beq_iff_eq, beq_iff_eq]
    constructor
    · intro h
      have := congrArg UInt8.toNat h
      simp at this
      omega
    · rintro rfl; rfl
theorem bytesIn {w : World} {A : Option Addr} {xs : List Int} (h : (Kd.int .u8).C w A xs.length xs) : Lib.BytesIn w A xs.length xs := by
  cases A with
  | none =>
    intro hn
    obtain ⟨ad, he, _⟩ := Kd.at_int h 0 (by omega) (by omega)
    cases he
  | some ad =>
    refine Lib.BytesIn.of_cells (fun i hi => ?_)
    obtain ⟨ad2, hA2, hx2⟩ := Kd.at_int h (i : Int) (by omega) (by omega)
    obtain rfl := Option.some.inj hA2
    rw [Int.toNat_natCast] at hx2
    rw [hx2]
    unfold rd
    rw [Int.toNat_natCast]
set_option maxHeartbeats 8000000 in
theorem one_calls (x y : Nd) (A B : Option Addr) (c d : Nat) (w : World) (hA : (Kd.int .u8).C w A x.f2.length x.f2) (hB : (Kd.int .u8).C w B y.f2.length y.f2) (hx : Ok x) (hy : Ok y) :
    Calls Tryd.prog 26 #[.agg #[.int .i64 x.f0, .string x.f1, .slice A x.f2.length c, .int .i64 x.f3, .int .i64 x.f4], .agg #[.int .i64 y.f0, .string y.f1, .slice B y.f2.length d, .int .i64 y.f3, .int .i64 y.f4]] w fun e w' => e = .returned (.bool (oneB x y)) ∧ Below w.heap.size w w' := by
  have HE := Lib.hid (show oneB x y = ((x.f0 == y.f0) && (x.f1.toList == y.f1.toList) && (x.f2 == y.f2) && (x.f3 == y.f3) && (x.f4 == y.f4)) from rfl)
  have hbe := bytes_eq x.f2 y.f2 hx.by_ hy.by_
  have HC := Lib.hid (fun W (h : Below w.heap.size w W) => Tryd.bytes_Equal_all A B x.f2.length c y.f2.length d x.f2 y.f2 W rfl rfl (bytesIn (Kd.C_below hA h)) (bytesIn (Kd.C_below hB h)))
  rw [hbe] at HC
  clear hA hB hx hy hbe
  cases h0 : (x.f0 == y.f0)
  · have hE := Lib.hid (show oneB x y = false by rw [HE.out, h0]; rfl)
    go_enter Tryd.func26, Tryd.ntmps26
    go_wp2
    go_ret
    exact ⟨ret_bool (by first | exact hE.out.symm | (rw [hE.out]; simp)), by repeat (first | with_reducible exact Below.refl _ _ | apply balloc)⟩
  cases h1 : (x.f1.toList == y.f1.toList)
  · have hE := Lib.hid (show oneB x y = false by rw [HE.out, h1]; simp)
    go_enter Tryd.func26, Tryd.ntmps26
    go_wp2
    go_ret
    exact ⟨ret_bool (by first | exact hE.out.symm | (rw [hE.out]; simp)), by repeat (first | with_reducible exact Below.refl _ _ | apply balloc)⟩
  cases h2 : (x.f2 == y.f2)
  · rw [h2] at HC
    have hE := Lib.hid (show oneB x y = false by rw [HE.out, h2]; simp)
    go_enter Tryd.func26, Tryd.ntmps26
    go_wp2_with (go_at_call 27; refine (HC.out _ (by repeat (first | with_reducible exact Below.refl _ _ | apply balloc))).mono ?_; rintro e1 w1 ⟨rfl, rfl⟩)
    go_ret
    exact ⟨ret_bool (by first | exact hE.out.symm | (rw [hE.out]; simp)), by repeat (first | with_reducible exact Below.refl _ _ | apply balloc)⟩
  rw [h2] at HC
  cases h3 : (x.f3 == y.f3)
  · have hE := Lib.hid (show oneB x y = false by rw [HE.out, h3]; simp)
    go_enter Tryd.func26, Tryd.ntmps26
    go_wp2_with (go_at_call 27; refine (HC.out _ (by repeat (first | with_reducible exact Below.refl _ _ | apply balloc))).mono ?_; rintro e1 w1 ⟨rfl, rfl⟩)
    go_ret
    exact ⟨ret_bool (by first | exact hE.out.symm | (rw [hE.out]; simp)), by repeat (first | with_reducible exact Below.refl _ _ | apply balloc)⟩
  cases h4 : (x.f4 == y.f4)
  · have hE := Lib.hid (show oneB x y = false by rw [HE.out, h4]; simp)
    go_enter Tryd.func26, Tryd.ntmps26
    go_wp2_with (go_at_call 27; refine (HC.out _ (by repeat (first | with_reducible exact Below.refl _ _ | apply balloc))).mono ?_; rintro e1 w1 ⟨rfl, rfl⟩)
    go_ret
    exact ⟨ret_bool (by first | exact hE.out.symm | (rw [hE.out]; simp)), by repeat (first | with_reducible exact Below.refl _ _ | apply balloc)⟩
  · have hE := Lib.hid (show oneB x y = true by rw [HE.out, h0, h1, h2, h3, h4]; rfl)
    go_enter Tryd.func26, Tryd.ntmps26
    go_wp2_with (go_at_call 27; refine (HC.out _ (by repeat (first | with_reducible exact Below.refl _ _ | apply balloc))).mono ?_; rintro e1 w1 ⟨rfl, rfl⟩)
    go_ret
    exact ⟨ret_bool (by first | exact hE.out.symm | (rw [hE.out]; simp)), by repeat (first | with_reducible exact Below.refl _ _ | apply balloc)⟩
theorem sameB_len : ∀ xs ys : List Nd, xs.length ≠ ys.length → sameB xs ys = false
  | [], [], h => absurd rfl h
  | [], _ :: _, _ => rfl
  | _ :: _, [], _ => rfl
  | x :: r, y :: q, h => by
    show (oneB x y && sameB r q) = false
    rw [sameB_len r q (by simpa using h), Bool.and_false]
theorem sameB_drop (xs ys : List Nd) (k : Nat) (h : k < xs.length) (h2 : k < ys.length) : sameB (xs.drop k) (ys.drop k) = (oneB (rdN xs k) (rdN ys k) && sameB (xs.drop (k + 1)) (ys.drop (k + 1))) := by
  rw [List.drop_eq_getElem_cons h, List.drop_eq_getElem_cons h2]
  have e1 : rdN xs (k : Int) = xs[k] := by unfold rdN; rw [Int.toNat_natCast, List.getD_eq_getElem?_getD, List.getElem?_eq_getElem h]; rfl
  have e2 : rdN ys (k : Int) = ys[k] := by unfold rdN; rw [Int.toNat_natCast, List.getD_eq_getElem?_getD, List.getElem?_eq_getElem h2]; rfl
  rw [e1, e2]
  rfl
set_option maxRecDepth 100000 in
set_option maxHeartbeats 8000000 in
theorem equal_calls (A B : Option Addr) (c d : Nat) (xs ys : List Nd) (w : World) (hA : kN.C w A xs.length xs) (hB : kN.C w B ys.length ys) (hx : ∀ x ∈ xs, Ok x) (hy : ∀ y ∈ ys, Ok y) (lx : xs.length ≤ 140737488351232) (ly : ys.length ≤ 140737488351232) :
    Calls Tryd.prog 25 #[.slice A xs.length c, .slice B ys.length d, .func (.func 26) #[] #[]] w fun e w' => e = .returned (.bool (sameB xs ys)) ∧ Below w.heap.size w w' := by
  by_cases hne : xs.length = ys.length
  · have HA := Lib.hid hA
    have HB := Lib.hid hB
    have HX := Lib.hid hx
    have HY := Lib.hid hy
    have HL := Lib.hid hne
    have hn2 : ((xs.length : Int) != (ys.length : Int)) = false := by simp; omega
    clear hA hB hx hy hne
    go_enter Tryd.func25, Tryd.ntmps25
    go_wp2
    go_loopw [7, 8, 9, 17] (fun _ _ _ i wr => ∃ k : Nat, i = .int .i64 k ∧ k ≤ xs.length ∧ Hid (sameB (xs.drop k) (ys.drop k) = sameB xs ys) ∧ Below w.heap.size w wr) (fun _ _ _ i _ => (xs.length - intOf i).toNat)
    case atStart => exact ⟨0, rfl, by omega, Lib.hid rfl, Below.refl _ _⟩
    case round =>
      obtain ⟨k, rfl, hk, he, hb⟩ := hrel
      by_cases hlt : k < xs.length
      · have hlt2 : k < ys.length := by have := HL.out; omega
        obtain ⟨ad, A2, c2, hA', a0, a1, a2, a3, a4, _, hd⟩ := atN (Kd.C_below HA.out hb) (k : Int) (by omega) (by omega)
        subst hA'
        obtain ⟨ad2, B2, d2, hB', b0, b1, b2, b3, b4, _, hd2⟩ := atN (Kd.C_below HB.out hb) (k : Int) (by omega) (by omega)
        subst hB'
        rw [Int.toNat_natCast] at a0 a1 a2 a3 a4 b0 b1 b2 b3 b4
        have hs := Lib.hid (sameB_drop xs ys k hlt hlt2)
        have hxb := World.block_lt_of_cell? wr _ b0
        have hyb := World.block_lt_of_cell? wr _ b1
        have HO := Lib.hid (fun W (h : Below wr.heap.size wr W) => one_calls (rdN xs (k : Int)) (rdN ys (k : Int)) A2 B2 c2 d2 W (Kd.C_below hd h) (Kd.C_below hd2 h) (HX.out _ (rdN_mem xs k hlt)) (HY.out _ (rdN_mem ys k hlt2)))
        clear hd hd2
        generalize rdN xs (k : Int) = x at *
        generalize rdN ys (k : Int) = y at *
        have k0 : (0 : Int) ≤ (k : Int) := by omega
        have k1 : (k : Int) < xs.length := by omega
        have k2 : (k : Int) < ys.length := by omega
        cases h1 : oneB x y
        · have HR := Lib.hid (show sameB xs ys = false by rw [← he.out, hs.out, h1]; rfl)
          rw [h1] at HO
          clear he hs h1
          go_wp2_with (go_at_call 26; refine (HO.out _ (by repeat (first | with_reducible exact Below.refl _ _ | apply balloc))).mono ?_; rintro e w1 ⟨rfl, hb1⟩)
          go_ret
          exact ⟨ret_bool HR.out.symm, bgo hb (bgo (balloc (balloc (Below.refl _ _) _) _) hb1)⟩
        · have HR := Lib.hid (show sameB (xs.drop (k + 1)) (ys.drop (k + 1)) = sameB xs ys by rw [← he.out, hs.out, h1]; rfl)
          rw [h1] at HO
          clear he hs h1
          go_wp2_with (go_at_call 26; refine (HO.out _ (by repeat (first | with_reducible exact Below.refl _ _ | apply balloc))).mono ?_; rintro e w1 ⟨rfl, hb1⟩; have HB1 := Lib.hid (bgo hb (bgo (balloc (balloc (Below.refl _ _) _) _) hb1)); clear hb1)
          go_roundw
          case rel => exact ⟨k + 1, by go_num, by omega, HR, HB1.out⟩
          case measure => simp [intOf]; omega
      · have HR := Lib.hid (show sameB xs ys = true by rw [← he.out, List.drop_of_length_le (by omega), List.drop_of_length_le (by have := HL.out; omega)]; rfl)
        clear he
        go_wp2
        go_ret
        exact ⟨ret_bool HR.out.symm, hb⟩
  · have HR := Lib.hid (sameB_len xs ys hne)
    have hn2 : ((xs.length : Int) != (ys.length : Int)) = true := by simp; omega
    clear hA hB hx hy hne
    go_enter Tryd.func25, Tryd.ntmps25
    go_wp2
    go_ret
    exact ⟨ret_bool HR.out.symm, Below.refl _ _⟩
theorem same_calls (A B : Option Addr) (c d : Nat) (xs ys : List Nd) (w : World) (hA : kN.C w A xs.length xs) (hB : kN.C w B ys.length ys) (hx : ∀ x ∈ xs, Ok x) (hy : ∀ y ∈ ys, Ok y) (lx : xs.length ≤ 140737488351232) (ly : ys.length ≤ 140737488351232) :
    Calls Tryd.prog 14 #[.slice A xs.length c, .slice B ys.length d] w fun e w' => e = .returned (.bool (sameB xs ys)) ∧ Below w.heap.size w w' := by
  have H := Lib.hid (equal_calls A B c d xs ys w hA hB hx hy lx ly)
  clear hA hB hx hy
  go_enter Tryd.func14, Tryd.ntmps14
  go_wp2_with (go_at_call 25; refine H.out.mono ?_; rintro e w1 ⟨rfl, hb1⟩)
  go_ret
  exact ⟨rfl, hb1⟩
end Go.Proofs.YtoiffnoiliknnaaDoor.Tree
set_option linter.unusedVariables false
set_option linter.unusedSimpArgs false
namespace Go.Proofs.YtoiffnoiliknnaaDoor.Tree
open Go.RowKit Go.Proofs.YtoiffnoiliknnaaDoor.Rout Go.Proofs.YtoiffnoiliknnaaDoor.Node Go.Proofs.YtoiffnoiliknnaaDoor.Tim
theorem day_late (t : Int) (h0 : -1099511627776 ≤ t) (h1 : t ≤ 1099511627776) (hy : 1980 ≤ (dayF t).y) : 86400 ≤ t := by
  obtain ⟨a, b⟩ := day_secs t h0 h1
  have hb := day_bd t h0 h1
  rcases Int.lt_or_le t 86400 with h | h
  · exfalso
    have hyd : yd (dayF t).y ≤ t / 86400 := by
      unfold secs at b
      have hc := cum_bd (dayF t).y ((dayF t).m - 1).toNat
      omega
    have : yd (dayF t).y ≥ 3652 := by unfold yd; omega
    omega
  · exact h
/-- A second less, where the second is odd: the same day, the same half. -/
theorem dosOf_less (t : Int) (ho : (dayF t).s % 2 = 1) : dosOf (dayF (t - 1)) = dosOf (dayF t) := by
  have hs : (dayF t).s = t % 86400 % 60 := by unfold dayF sixOf; split <;> rfl
  rw [hs] at ho
  have h1 : (t - 1) / 86400 = t / 86400 := by omega
  have h2 : (t - 1) % 86400 = t % 86400 - 1 := by omega
  have q1 : (t % 86400 - 1) / 3600 = t % 86400 / 3600 := by omega
  have q2 : (t % 86400 - 1) / 60 % 60 = t % 86400 / 60 % 60 := by omega
  have q3 : (t % 86400 - 1) % 60 / 2 = t % 86400 % 60 / 2 := by omega
  unfold dayF
  rw [h1, h2]
  unfold sixOf
  split
  · unfold dosOf; dsimp only; rw [q1, q2, q3]
  · unfold dosOf; dsimp only; rw [q1, q2, q3]
/-- Zip's form of a time, read, has that form again. -/
theorem zip_again (t : Int) (h0 : -1099511627776 ≤ t) (h1 : t ≤ 1099511627776) (hd : (dosF t).2.2 = 0) :
    dosF (ofDosF (dosF t).1 (dosF t).2.1).1 = dosF t ∧ -1099511627776 ≤ (ofDosF (dosF t).1 (dosF t).2.1).1 ∧ (ofDosF (dosF t).1 (dosF t).2.1).1 ≤ 1099511627776 := by
  have hF : dosF t = dosOf (dayF t) := by unfold dosF; rw [if_neg (by omega)]
  rw [hF] at hd ⊢
  have hy : 1980 ≤ (dayF t).y ∧ (dayF t).y ≤ 2107 := by
    unfold dosOf at hd
    split at hd
    · simp at hd
    · omega
  have ht := day_late t h0 h1 hy.1
  rw [ofDos_dos t h0 h1 hy.1 hy.2]
  rcases (show (dayF t).s % 2 = 0 ∨ (dayF t).s % 2 = 1 by omega) with h | h
  · rw [h]
    exact ⟨by rw [show t - 0 = t by omega]; exact hF, by omega, by omega⟩
  · rw [h]
    refine ⟨?_, by dsimp only; omega, by dsimp only; omega⟩
    have : dosF (t - 1) = dosOf (dayF (t - 1)) := by unfold dosF; rw [if_neg (by omega)]
    rw [this, dosOf_less t h]
theorem may_time (x : Nd) (h : mayB x = true) : 0 ≤ x.f3 ∧ x.f3 ≤ 4095 ∧ -1099511627776 ≤ x.f4 ∧ x.f4 ≤ 1099511627776 := by
  unfold mayB at h
  rw [Bool.and_eq_true] at h
  exact of_decide_eq_true h.1
theorem may_other (x : Nd) (m t : Int) (h : mayB x = true) (hm : 0 ≤ m ∧ m ≤ 4095) (ht : -1099511627776 ≤ t ∧ t ≤ 1099511627776) : mayB ⟨x.f0, x.f1, x.f2, m, t⟩ = true := by
  unfold mayB at h ⊢
  rw [Bool.and_eq_true] at h ⊢
  exact ⟨decide_eq_true ⟨hm.1, hm.2, ht.1, ht.2⟩, h.2⟩
theorem kept_same (x : Nd) (fmt : Int) : (keptF x fmt).1.f0 = x.f0 ∧ (keptF x fmt).1.f1 = x.f1 ∧ (keptF x fmt).1.f2 = x.f2 := by
  unfold keptF
  split
  · split <;> exact ⟨rfl, rfl, rfl⟩
  · split
    · split <;> exact ⟨rfl, rfl, rfl⟩
    · split
      · split <;> exact ⟨rfl, rfl, rfl⟩
      · exact ⟨rfl, rfl, rfl⟩
theorem kept_again (x : Nd) (fmt : Int) (hm : mayB x = true) (hk : (keptF x fmt).2 = true) : keptF (keptF x fmt).1 fmt = ((keptF x fmt).1, true) ∧ mayB (keptF x fmt).1 = true := by
  obtain ⟨m0, m1, t0, t1⟩ := may_time x hm
  by_cases f2 : fmt = 2
  · have e : ∀ z, keptF z fmt = if (dosF z.f4).2.2 = 0 then (⟨z.f0, z.f1, z.f2, z.f3, (ofDosF (dosF z.f4).1 (dosF z.f4).2.1).1⟩, true) else (z, false) := fun z => by unfold keptF; rw [if_pos f2]
    by_cases hd : (dosF x.f4).2.2 = 0
    · obtain ⟨z1, z2, z3⟩ := zip_again x.f4 t0 t1 hd
      rw [e x, if_pos hd]
      refine ⟨?_, may_other x _ _ hm ⟨m0, m1⟩ ⟨z2, z3⟩⟩
      rw [e]
      dsimp only
      rw [z1, if_pos hd]
    · rw [e x, if_neg hd] at hk
      cases hk
  by_cases f3 : fmt = 3
  · have e : ∀ z, keptF z fmt = if z.f0 = 2 ∧ (parB z.f1).2 = false ∧ 0 ≤ z.f4 ∧ z.f4 ≤ 4294967295 then (⟨z.f0, z.f1, z.f2, 420, z.f4⟩, true) else (z, false) := fun z => by unfold keptF; rw [if_neg f2, if_pos f3]
    by_cases hd : x.f0 = 2 ∧ (parB x.f1).2 = false ∧ 0 ≤ x.f4 ∧ x.f4 ≤ 4294967295
    · rw [e x, if_pos hd]
      exact ⟨by rw [e, if_pos hd], may_other x _ _ hm (by omega) ⟨t0, t1⟩⟩
    · rw [e x, if_neg hd] at hk
      cases hk
  by_cases f45 : fmt = 4 ∨ fmt = 5
  · have e : ∀ z, keptF z fmt = if z.f0 = 2 ∧ z.f1.toList = [100, 97, 116, 97] then (⟨z.f0, z.f1, z.f2, 420, 0⟩, true) else (z, false) := fun z => by unfold keptF; rw [if_neg f2, if_neg f3, if_pos f45]
    by_cases hd : x.f0 = 2 ∧ x.f1.toList = [100, 97, 116, 97]
    · rw [e x, if_pos hd]
      exact ⟨by rw [e, if_pos hd], may_other x _ _ hm (by omega) (by omega)⟩
    · rw [e x, if_neg hd] at hk
      cases hk
  · have e : ∀ z, keptF z fmt = (z, true) := fun z => by unfold keptF; rw [if_neg f2, if_neg f3, if_neg f45]
    rw [e x]
    exact ⟨e x, hm⟩
/-! ### trees -/
theorem chkN_ok (l : List Nd) : ∀ f, f ≤ l.length → ((chkN l f).2 = 0 ↔ ∀ k, l.length - f ≤ k → k < l.length → errAt l k = 0)
  | 0, _ => ⟨fun _ k h1 h2 => by omega, fun _ => rfl⟩
  | f + 1, hf => by
    have ih := chkN_ok l f (by omega)
    show (if errAt l (l.length - (f + 1)) = 0 then chkN l f else (((l.length - (f + 1) : Nat) : Int), errAt l (l.length - (f + 1)))).2 = 0 ↔ _
    by_cases h : errAt l (l.length - (f + 1)) = 0
    · rw [if_pos h, ih]
      constructor
      · intro h2 k h3 h4
        by_cases hk : k = l.length - (f + 1)
        · rw [hk]; exact h
        · exact h2 k (by omega) h4
      · exact fun h2 k h3 h4 => h2 k (by omega) h4
    · rw [if_neg h]
      exact ⟨fun h2 => absurd h2 h, fun h2 => absurd (h2 _ (Nat.le_refl _) (by omega)) h⟩
theorem chk_ok (l : List Nd) : (chk l).2 = 0 ↔ ∀ k, k < l.length → errAt l k = 0 := by
  unfold chk
  rw [chkN_ok l l.length (Nat.le_refl _)]
  exact ⟨fun h k hk => h k (by omega) hk, fun h k _ hk => h k hk⟩
theorem isDir_map (g : Nd → Nd) (hg : ∀ x, (g x).f0 = x.f0 ∧ (g x).f1 = x.f1) (p : ByteArray) (l : List Nd) : isDir (l.map g) p = isDir l p := by
  induction l using snoc_ind with
  | h0 => rfl
  | h1 l x ih => rw [List.map_append, List.map_singleton, isDir_snoc, isDir_snoc, ih, (hg x).1, (hg x).2]
theorem rdN_map (g : Nd → Nd) (l : List Nd) (k : Nat) (h : k < l.length) : rdN (l.map g) (k : Int) = g (rdN l (k : Int)) := by
  unfold rdN
  rw [Int.toNat_natCast, List.getD_eq_getElem?_getD, List.getD_eq_getElem?_getD, List.getElem?_map, List.getElem?_eq_getElem h]
  rfl
theorem errAt_may (l : List Nd) (k : Nat) (h : errAt l k = 0) : mayB (rdN l k) = true ∧ validB (rdN l k).f1 = true := by
  unfold errAt at h
  cases h1 : validB (rdN l k).f1
  · rw [if_pos h1] at h; omega
  · rw [if_neg (by rw [h1]; simp)] at h
    cases h2 : mayB (rdN l k)
    · rw [if_pos (.inl h2)] at h; omega
    · exact ⟨rfl, rfl⟩
theorem errAt_map (g : Nd → Nd) (hg : ∀ x, (g x).f0 = x.f0 ∧ (g x).f1 = x.f1) (l : List Nd) (k : Nat) (hk : k < l.length) (hm : mayB (g (rdN l k)) = mayB (rdN l k)) : errAt (l.map g) k = errAt l k := by
  unfold errAt
  rw [rdN_map g l k hk, hm, (hg _).2, ← List.map_take, isDir_map g hg]
  by_cases h0 : 0 < k
  · have e : rdN (l.map g) ((k : Int) - 1) = g (rdN l ((k : Int) - 1)) := by
      have := rdN_map g l (k - 1) (by omega)
      rwa [show ((k - 1 : Nat) : Int) = (k : Int) - 1 by omega] at this
    rw [e, (hg _).2]
  · have e1 : ∀ z : Prop, (0 < k ∧ z) = False := fun z => by simp [h0]
    simp only [e1]
theorem chk_map (g : Nd → Nd) (hg : ∀ x, (g x).f0 = x.f0 ∧ (g x).f1 = x.f1) (l : List Nd) (hm : ∀ x ∈ l, mayB x = true → mayB (g x) = true) (h : (chk l).2 = 0) : (chk (l.map g)).2 = 0 := by
  rw [chk_ok] at h ⊢
  intro k hk
  rw [List.length_map] at hk
  have hk0 := h k hk
  obtain ⟨h1, h2⟩ := errAt_may l k hk0
  rw [errAt_map g hg l k hk (by rw [h1, hm _ (rdN_mem l k hk) h1])]
  exact hk0
theorem chk_may (l : List Nd) (h : (chk l).2 = 0) (x : Nd) (hx : x ∈ l) : mayB x = true := by
  obtain ⟨k, hk, rfl⟩ := List.getElem_of_mem hx
  have := (errAt_may l k ((chk_ok l).1 h k hk)).1
  unfold rdN at this
  rw [Int.toNat_natCast, List.getD_eq_getElem?_getD, List.getElem?_eq_getElem hk] at this
  exact this
theorem proj_again (l : List Nd) (fmt : Int) (h : (projF l fmt).2 = 0) :
    (projF l fmt).1 = l.map (fun x => (keptF x fmt).1) ∧ projF (projF l fmt).1 fmt = ((projF l fmt).1, 0) ∧ (chk (projF l fmt).1).2 = 0 := by
  unfold projF at h
  by_cases h1 : fmt < 1 ∨ 6 < fmt
  · rw [if_pos h1] at h; cases h
  rw [if_neg h1] at h
  by_cases h2 : (chk l).2 ≠ 0
  · rw [if_pos h2] at h; cases h
  rw [if_neg h2] at h
  by_cases h3 : 3 ≤ fmt ∧ fmt ≤ 5 ∧ l.length ≠ 1
  · rw [if_pos h3] at h; cases h
  rw [if_neg h3] at h
  by_cases h4 : fmt = 2 ∧ 65535 < l.length
  · rw [if_pos h4] at h; cases h
  rw [if_neg h4] at h
  by_cases h5 : keepsAll l fmt = true
  · have h2' : (chk l).2 = 0 := Classical.byContradiction h2
    have e : projF l fmt = (l.map (fun x => (keptF x fmt).1), 0) := by unfold projF; rw [if_neg h1, if_neg h2, if_neg h3, if_neg h4, if_pos h5]
    rw [e]
    have hall : ∀ x ∈ l, (keptF x fmt).2 = true := fun x hx => by
      unfold keepsAll at h5
      exact List.all_eq_true.1 h5 x hx
    have hag : ∀ x ∈ l, keptF (keptF x fmt).1 fmt = ((keptF x fmt).1, true) ∧ mayB (keptF x fmt).1 = true := fun x hx => kept_again x fmt (chk_may l h2' x hx) (hall x hx)
    have hc : (chk (l.map (fun x => (keptF x fmt).1))).2 = 0 := chk_map (fun x => (keptF x fmt).1) (fun x => ⟨(kept_same x fmt).1, (kept_same x fmt).2.1⟩) l (fun x hx _ => (hag x hx).2) h2'
    refine ⟨rfl, ?_, hc⟩
    have hk2 : keepsAll (l.map (fun x => (keptF x fmt).1)) fmt = true := by
      unfold keepsAll
      rw [List.all_eq_true]
      intro y hy
      obtain ⟨x, hx, rfl⟩ := List.mem_map.1 hy
      rw [(hag x hx).1]
    have hmm : (l.map (fun x => (keptF x fmt).1)).map (fun x => (keptF x fmt).1) = l.map (fun x => (keptF x fmt).1) := by
      rw [List.map_map]
      exact List.map_congr_left (fun x hx => by show (keptF (keptF x fmt).1 fmt).1 = _; rw [(hag x hx).1])
    unfold projF
    rw [if_neg h1, if_neg (by simpa using hc), List.length_map, if_neg h3, if_neg h4, if_pos hk2, hmm]
  · rw [if_neg h5] at h; cases h
theorem oneB_refl (x : Nd) : oneB x x = true := by unfold oneB; simp
theorem sameB_refl : ∀ l, sameB l l = true
  | [] => rfl
  | x :: r => by show (oneB x x && sameB r r) = true; rw [oneB_refl, sameB_refl r]; rfl
theorem Ok.kept {x : Nd} (h : Ok x) (fmt : Int) : Ok (keptF x fmt).1 := by
  obtain ⟨_, h1, h2⟩ := kept_same x fmt
  exact ⟨by rw [h2]; exact h.by_, by rw [h1]; exact h.ps, by rw [h2]; exact h.ds⟩
/-- The law's first trial. -/
def probe : List Nd := [⟨2, ⟨#[100, 97, 116, 97]⟩, [], 0, 9⟩]
end Go.Proofs.YtoiffnoiliknnaaDoor.Tree
