/- tree.kept walked. -/
import Derived.Test.YtoiffnoiliknnaaDoorTreeL
import Derived.Test.YtoiffnoiliknnaaDoorTimDay
set_option linter.unusedVariables false
set_option linter.unusedSimpArgs false
namespace Go.Proofs.YtoiffnoiliknnaaDoor.Tree
open Go.RowKit Go.BigFrame Go.Maps Go.Proofs.YtoiffnoiliknnaaDoor.Reg Go.Proofs.YtoiffnoiliknnaaDoor.Rout Go.Proofs.YtoiffnoiliknnaaDoor.Node Go.Proofs.YtoiffnoiliknnaaDoor.Tim Go.Proofs.YtoiffnoiliknnaaDoorW.PrintWords Go.Proofs.YtoiffnoiliknnaaDoorW.PrintLast Go.Proofs.YtoiffnoiliknnaaDoorW.PrintMore
def dataB : ByteArray := ⟨#[100, 97, 116, 97]⟩
def keptF (x : Nd) (fmt : Int) : Nd × Bool :=
  if fmt = 2 then (if (dosF x.f4).2.2 = 0 then (⟨x.f0, x.f1, x.f2, x.f3, (ofDosF (dosF x.f4).1 (dosF x.f4).2.1).1⟩, true) else (x, false))
  else if fmt = 3 then (if x.f0 = 2 ∧ (parB x.f1).2 = false ∧ 0 ≤ x.f4 ∧ x.f4 ≤ 4294967295 then (⟨x.f0, x.f1, x.f2, 420, x.f4⟩, true) else (x, false))
  else if fmt = 4 ∨ fmt = 5 then (if x.f0 = 2 ∧ x.f1.toList = [100, 97, 116, 97] then (⟨x.f0, x.f1, x.f2, 420, 0⟩, true) else (x, false))
  else (x, true)
theorem two_cells {w w1 : World} {a b : Array Value} {t u : TypeId} (hb : Below ((w.alloc (.cells a t)).alloc (.cells b u)).heap.size ((w.alloc (.cells a t)).alloc (.cells b u)) w1) :
    (∀ j, w1.cell? ⟨w.heap.size, j, none⟩ = a[j]?) ∧ (∀ j, w1.cell? ⟨w.heap.size + 1, j, none⟩ = b[j]?) ∧ (∀ j, w1.frozen? ⟨w.heap.size, j, none⟩ = false) ∧ (∀ j, w1.frozen? ⟨w.heap.size + 1, j, none⟩ = false) ∧ Below w.heap.size w w1 ∧ w.heap.size + 2 ≤ w1.heap.size := by
  have e : ((w.alloc (.cells a t)).alloc (.cells b u)).heap.size = w.heap.size + 2 := by simp
  have b0 : ((w.alloc (.cells a t)).alloc (.cells b u)).heap[w.heap.size]? = some (.cells a t (0, 0)) := blk_alloc (heap_alloc_new w _) _
  have b1 : ((w.alloc (.cells a t)).alloc (.cells b u)).heap[w.heap.size + 1]? = some (.cells b u (0, 0)) := by
    have := heap_alloc_new (w.alloc (.cells a t)) (.cells b u)
    simpa using this
  have c0 := blk_below b0 hb
  have c1 := blk_below b1 hb
  exact ⟨fun j => blk_cell c0 j, fun j => blk_cell c1 j, fun j => blk_frozen c0 j, fun j => blk_frozen c1 j, bgo (balloc (balloc (Below.refl _ _) _) _) hb, by have := hb.size; omega⟩
set_option maxRecDepth 100000 in
set_option maxHeartbeats 8000000 in
theorem kept_calls (x : Nd) (A : Option Addr) (c : Nat) (fmt : Int) (w : World) (hps : x.f1.size ≤ 140737488351232) :
    Calls Tryd.prog 20 #[.agg #[.int .i64 x.f0, .string x.f1, .slice A x.f2.length c, .int .i64 x.f3, .int .i64 x.f4], .int .i64 fmt] w fun e w' => e = .returned (.tuple #[.agg #[.int .i64 (keptF x fmt).1.f0, .string (keptF x fmt).1.f1, .slice A x.f2.length c, .int .i64 (keptF x fmt).1.f3, .int .i64 (keptF x fmt).1.f4], .bool (keptF x fmt).2]) ∧ Below w.heap.size w w' := by
  by_cases f2 : fmt = 2
  · subst f2
    have HD := Lib.hid (fun W => dos_calls x.f4 W)
    by_cases he : (dosF x.f4).2.2 = 0
    · have HO := Lib.hid (fun W => ofDos_calls (dosF x.f4).1 (dosF x.f4).2.1 W)
      have hE := Lib.hid (show keptF x 2 = (⟨x.f0, x.f1, x.f2, x.f3, (ofDosF (dosF x.f4).1 (dosF x.f4).2.1).1⟩, true) by unfold keptF; rw [if_pos rfl, if_pos he])
      rw [he] at HD
      clear he
      generalize (dosF x.f4).1 = da at *
      generalize (dosF x.f4).2.1 = ti at *
      generalize (ofDosF da ti).1 = tm at *
      generalize (ofDosF da ti).2 = em at *
      go_enter Tryd.func20, Tryd.ntmps20
      go_wp2_with (first
        | (go_at_call 41; refine (HD.out _).mono ?_; rintro e w1 ⟨rfl, hb1⟩; obtain ⟨g0, g1, g2, g3, g4, g5⟩ := two_cells hb1; have m0 := g0 0; have m1 := g0 1; have m2 := g0 2; have m3 := g0 3; have m4 := g0 4; have n0 := g1 0; have n1 := g1 1; have n2 := g1 2; have n3 := g1 3; have n4 := g1 4; have G2 := Lib.hid g2; have G3 := Lib.hid g3; clear g0 g1 g2 g3 hb1)
        | (go_at_call 42; refine (HO.out _).mono ?_; rintro e w2 ⟨rfl, hb2⟩; have HB := Lib.hid (bgo g4 hb2); have p0 := bkeep hb2 m0; have p1 := bkeep hb2 m1; have p2 := bkeep hb2 m2; have p3 := bkeep hb2 m3; have p4 := bkeep hb2 m4; have r0 := bkeep hb2 n0; have r1 := bkeep hb2 n1; have r2 := bkeep hb2 n2; have r3 := bkeep hb2 n3; have r4 := bkeep hb2 n4; have G4 := Lib.hid (fun j => (hb2.frozen (p := ⟨w.heap.size, j, none⟩) (by simp; omega)).trans (G2.out j)); have G5 := Lib.hid (fun j => (hb2.frozen (p := ⟨w.heap.size + 1, j, none⟩) (by simp; omega)).trans (G3.out j)); have s4 := G4.out 4; have z0 := G5.out 0; have z1 := G5.out 1; have z2 := G5.out 2; have z3 := G5.out 3; have z4 := G5.out 4; clear hb2))
      refine bodyPost_ret (v := .tuple #[.agg #[.int .i64 x.f0, .string x.f1, .slice A x.f2.length c, .int .i64 x.f3, .int .i64 tm], .bool true]) (by simp [results, Tryd.results20, go_sem, r0, r1, r2, r3, r4]) rfl ⟨?_, ?_⟩
      · rw [hE.out]
      · repeat (first | with_reducible exact HB.out | refine Below.setCell ?_ (by simp) _)
    · have hE := Lib.hid (show keptF x 2 = (x, false) by unfold keptF; rw [if_pos rfl, if_neg he])
      have hz : ((dosF x.f4).2.2 != 0) = true := by simpa using he
      clear he
      generalize (dosF x.f4).1 = da at *
      generalize (dosF x.f4).2.1 = ti at *
      generalize (dosF x.f4).2.2 = er at *
      go_enter Tryd.func20, Tryd.ntmps20
      go_wp2_with (go_at_call 41; refine (HD.out _).mono ?_; rintro e w1 ⟨rfl, hb1⟩; obtain ⟨g0, g1, g2, g3, g4, g5⟩ := two_cells hb1; have HB := Lib.hid g4; have m0 := g0 0; have m1 := g0 1; have m2 := g0 2; have m3 := g0 3; have m4 := g0 4; have r0 := g1 0; have r1 := g1 1; have r2 := g1 2; have r3 := g1 3; have r4 := g1 4; have s3 := g2 3; have z0 := g3 0; have z1 := g3 1; have z2 := g3 2; have z3 := g3 3; have z4 := g3 4; clear g0 g1 g2 g3 hb1)
      refine bodyPost_ret (v := .tuple #[.agg #[.int .i64 x.f0, .string x.f1, .slice A x.f2.length c, .int .i64 x.f3, .int .i64 x.f4], .bool false]) (by simp [results, Tryd.results20, go_sem, r0, r1, r2, r3, r4]) rfl ⟨?_, ?_⟩
      · rw [hE.out]
      · repeat (first | with_reducible exact HB.out | refine Below.setCell ?_ (by simp) _)
  by_cases f3 : fmt = 3
  · subst f3
    have HP := Lib.hid (fun W => parent_calls x.f1 W (by omega))
    have hk := Lib.hid (show keptF x 3 = (if x.f0 = 2 ∧ (parB x.f1).2 = false ∧ 0 ≤ x.f4 ∧ x.f4 ≤ 4294967295 then (⟨x.f0, x.f1, x.f2, 420, x.f4⟩, true) else (x, false)) by unfold keptF; rw [if_neg (by decide), if_pos rfl])
    clear f2
    generalize (parB x.f1).1 = pa at *
    generalize (parB x.f1).2 = inner at *
    by_cases h1 : x.f0 = 2
    · cases inner
      · by_cases h2 : x.f4 < 0
        · have hE := Lib.hid (show keptF x 3 = (x, false) by rw [hk.out, if_neg (by omega)])
          clear hk
          go_enter Tryd.func20, Tryd.ntmps20
          go_wp2_with (go_at_call 29; refine (HP.out _).mono ?_; rintro e w1 ⟨rfl, hb1⟩; obtain ⟨g0, g1, g2, g3, g4, g5⟩ := two_cells hb1; have HB := Lib.hid g4; have m0 := g0 0; have m1 := g0 1; have m2 := g0 2; have m3 := g0 3; have m4 := g0 4; have r0 := g1 0; have r1 := g1 1; have r2 := g1 2; have r3 := g1 3; have r4 := g1 4; have s3 := g2 3; have z0 := g3 0; have z1 := g3 1; have z2 := g3 2; have z3 := g3 3; have z4 := g3 4; clear g0 g1 g2 g3 hb1)
          refine bodyPost_ret (v := .tuple #[.agg #[.int .i64 2, .string x.f1, .slice A x.f2.length c, .int .i64 x.f3, .int .i64 x.f4], .bool false]) (by simp [results, Tryd.results20, go_sem, r0, r1, r2, r3, r4]) rfl ⟨?_, ?_⟩
          · rw [hE.out]; simp only [h1]
          · repeat (first | with_reducible exact HB.out | refine Below.setCell ?_ (by simp) _)
        · by_cases h3 : 4294967295 < x.f4
          · have hE := Lib.hid (show keptF x 3 = (x, false) by rw [hk.out, if_neg (by omega)])
            clear hk
            go_enter Tryd.func20, Tryd.ntmps20
            go_wp2_with (go_at_call 29; refine (HP.out _).mono ?_; rintro e w1 ⟨rfl, hb1⟩; obtain ⟨g0, g1, g2, g3, g4, g5⟩ := two_cells hb1; have HB := Lib.hid g4; have m0 := g0 0; have m1 := g0 1; have m2 := g0 2; have m3 := g0 3; have m4 := g0 4; have r0 := g1 0; have r1 := g1 1; have r2 := g1 2; have r3 := g1 3; have r4 := g1 4; have s3 := g2 3; have z0 := g3 0; have z1 := g3 1; have z2 := g3 2; have z3 := g3 3; have z4 := g3 4; clear g0 g1 g2 g3 hb1)
            refine bodyPost_ret (v := .tuple #[.agg #[.int .i64 2, .string x.f1, .slice A x.f2.length c, .int .i64 x.f3, .int .i64 x.f4], .bool false]) (by simp [results, Tryd.results20, go_sem, r0, r1, r2, r3, r4]) rfl ⟨?_, ?_⟩
            · rw [hE.out]; simp only [h1]
            · repeat (first | with_reducible exact HB.out | refine Below.setCell ?_ (by simp) _)
          · have hE := Lib.hid (show keptF x 3 = (⟨x.f0, x.f1, x.f2, 420, x.f4⟩, true) by rw [hk.out, if_pos ⟨h1, rfl, by omega, by omega⟩])
            clear hk
            go_enter Tryd.func20, Tryd.ntmps20
            go_wp2_with (go_at_call 29; refine (HP.out _).mono ?_; rintro e w1 ⟨rfl, hb1⟩; obtain ⟨g0, g1, g2, g3, g4, g5⟩ := two_cells hb1; have HB := Lib.hid g4; have m0 := g0 0; have m1 := g0 1; have m2 := g0 2; have m3 := g0 3; have m4 := g0 4; have r0 := g1 0; have r1 := g1 1; have r2 := g1 2; have r3 := g1 3; have r4 := g1 4; have s3 := g2 3; have z0 := g3 0; have z1 := g3 1; have z2 := g3 2; have z3 := g3 3; have z4 := g3 4; clear g0 g1 g2 g3 hb1)
            refine bodyPost_ret (v := .tuple #[.agg #[.int .i64 2, .string x.f1, .slice A x.f2.length c, .int .i64 420, .int .i64 x.f4], .bool true]) (by simp [results, Tryd.results20, go_sem, r0, r1, r2, r3, r4]) rfl ⟨?_, ?_⟩
            · rw [hE.out]; simp only [h1]
            · repeat (first | with_reducible exact HB.out | refine Below.setCell ?_ (by simp) _)
      · have hE := Lib.hid (show keptF x 3 = (x, false) by rw [hk.out, if_neg (by simp)])
        clear hk
        go_enter Tryd.func20, Tryd.ntmps20
        go_wp2_with (go_at_call 29; refine (HP.out _).mono ?_; rintro e w1 ⟨rfl, hb1⟩; obtain ⟨g0, g1, g2, g3, g4, g5⟩ := two_cells hb1; have HB := Lib.hid g4; have m0 := g0 0; have m1 := g0 1; have m2 := g0 2; have m3 := g0 3; have m4 := g0 4; have r0 := g1 0; have r1 := g1 1; have r2 := g1 2; have r3 := g1 3; have r4 := g1 4; have s3 := g2 3; have z0 := g3 0; have z1 := g3 1; have z2 := g3 2; have z3 := g3 3; have z4 := g3 4; clear g0 g1 g2 g3 hb1)
        refine bodyPost_ret (v := .tuple #[.agg #[.int .i64 2, .string x.f1, .slice A x.f2.length c, .int .i64 x.f3, .int .i64 x.f4], .bool false]) (by simp [results, Tryd.results20, go_sem, r0, r1, r2, r3, r4]) rfl ⟨?_, ?_⟩
        · rw [hE.out]; simp only [h1]
        · repeat (first | with_reducible exact HB.out | refine Below.setCell ?_ (by simp) _)
    · have hE := Lib.hid (show keptF x 3 = (x, false) by rw [hk.out, if_neg (fun h => h1 h.1)])
      have hz : (x.f0 != 2) = true := by simpa using h1
      clear hk
      go_enter Tryd.func20, Tryd.ntmps20
      go_wp2_with (go_at_call 29; refine (HP.out _).mono ?_; rintro e w1 ⟨rfl, hb1⟩; obtain ⟨g0, g1, g2, g3, g4, g5⟩ := two_cells hb1; have HB := Lib.hid g4; have m0 := g0 0; have m1 := g0 1; have m2 := g0 2; have m3 := g0 3; have m4 := g0 4; have r0 := g1 0; have r1 := g1 1; have r2 := g1 2; have r3 := g1 3; have r4 := g1 4; have s3 := g2 3; have z0 := g3 0; have z1 := g3 1; have z2 := g3 2; have z3 := g3 3; have z4 := g3 4; clear g0 g1 g2 g3 hb1)
      refine bodyPost_ret (v := .tuple #[.agg #[.int .i64 x.f0, .string x.f1, .slice A x.f2.length c, .int .i64 x.f3, .int .i64 x.f4], .bool false]) (by simp [results, Tryd.results20, go_sem, r0, r1, r2, r3, r4]) rfl ⟨?_, ?_⟩
      · rw [hE.out]
      · repeat (first | with_reducible exact HB.out | refine Below.setCell ?_ (by simp) _)
  have f2n : (fmt == 2) = false := beq_eq_false_iff_ne.mpr f2
  have f3n : (fmt == 3) = false := beq_eq_false_iff_ne.mpr f3
  by_cases f45 : fmt = 4 ∨ fmt = 5
  · have hk := Lib.hid (show keptF x fmt = (if x.f0 = 2 ∧ x.f1.toList = [100, 97, 116, 97] then (⟨x.f0, x.f1, x.f2, 420, 0⟩, true) else (x, false)) by unfold keptF; rw [if_neg f2, if_neg f3, if_pos f45])
    have hcase : fmt = 4 ∨ ((fmt == 4) = false ∧ fmt = 5) := by
      rcases f45 with h | h
      · exact .inl h
      · exact .inr ⟨beq_eq_false_iff_ne.mpr (by omega), h⟩
    clear f45
    by_cases h1 : x.f0 = 2
    · cases h2 : (x.f1.toList == [100, 97, 116, 97])
      · have hE := Lib.hid (show keptF x fmt = (x, false) by rw [hk.out, if_neg (fun h => by rw [h.2] at h2; simp at h2)])
        have hz : (x.f1.toList != [100, 97, 116, 97]) = true := by simp [bne, h2]
        rcases hcase with rfl | ⟨f4n, rfl⟩
        all_goals
          go_enter Tryd.func20, Tryd.ntmps20
          go_wp2
          refine bodyPost_ret (v := .tuple #[.agg #[.int .i64 2, .string x.f1, .slice A x.f2.length c, .int .i64 x.f3, .int .i64 x.f4], .bool false]) (by simp [results, Tryd.results20, go_sem]) rfl ⟨?_, ?_⟩
          · rw [hE.out]; simp only [h1]
          · repeat (first | with_reducible exact Below.refl _ _ | apply balloc | refine Below.setCell ?_ (by simp) _)
      · have hE := Lib.hid (show keptF x fmt = (⟨x.f0, x.f1, x.f2, 420, 0⟩, true) by rw [hk.out, if_pos ⟨h1, by simpa using h2⟩])
        have hz : (x.f1.toList != [100, 97, 116, 97]) = false := by simp [bne, h2]
        rcases hcase with rfl | ⟨f4n, rfl⟩
        all_goals
          go_enter Tryd.func20, Tryd.ntmps20
          go_wp2
          refine bodyPost_ret (v := .tuple #[.agg #[.int .i64 2, .string x.f1, .slice A x.f2.length c, .int .i64 420, .int .i64 0], .bool true]) (by simp [results, Tryd.results20, go_sem]) rfl ⟨?_, ?_⟩
          · rw [hE.out]; simp only [h1]
          · repeat (first | with_reducible exact Below.refl _ _ | apply balloc | refine Below.setCell ?_ (by simp) _)
    · have hE := Lib.hid (show keptF x fmt = (x, false) by rw [hk.out, if_neg (fun h => h1 h.1)])
      have hz : (x.f0 != 2) = true := by simpa using h1
      rcases hcase with rfl | ⟨f4n, rfl⟩
      all_goals
        go_enter Tryd.func20, Tryd.ntmps20
        go_wp2
        refine bodyPost_ret (v := .tuple #[.agg #[.int .i64 x.f0, .string x.f1, .slice A x.f2.length c, .int .i64 x.f3, .int .i64 x.f4], .bool false]) (by simp [results, Tryd.results20, go_sem]) rfl ⟨?_, ?_⟩
        · rw [hE.out]
        · repeat (first | with_reducible exact Below.refl _ _ | apply balloc | refine Below.setCell ?_ (by simp) _)
  · have hE := Lib.hid (show keptF x fmt = (x, true) by unfold keptF; rw [if_neg f2, if_neg f3, if_neg f45])
    have f4n : (fmt == 4) = false := beq_eq_false_iff_ne.mpr (by omega)
    have f5n : (fmt == 5) = false := beq_eq_false_iff_ne.mpr (by omega)
    go_enter Tryd.func20, Tryd.ntmps20
    go_wp2
    refine bodyPost_ret (v := .tuple #[.agg #[.int .i64 x.f0, .string x.f1, .slice A x.f2.length c, .int .i64 x.f3, .int .i64 x.f4], .bool true]) (by simp [results, Tryd.results20, go_sem]) rfl ⟨?_, ?_⟩
    · rw [hE.out]
    · repeat (first | with_reducible exact Below.refl _ _ | apply balloc | refine Below.setCell ?_ (by simp) _)
end Go.Proofs.YtoiffnoiliknnaaDoor.Tree
