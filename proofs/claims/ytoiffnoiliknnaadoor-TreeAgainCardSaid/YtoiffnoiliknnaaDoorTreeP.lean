/- tree.Project, tree.Fit walked. -/
import Derived.Test.YtoiffnoiliknnaaDoorTreeK
set_option linter.unusedVariables false
set_option linter.unusedSimpArgs false
namespace Go.Proofs.YtoiffnoiliknnaaDoor.Tree
open Go.RowKit Go.BigFrame Go.Maps Go.Proofs.YtoiffnoiliknnaaDoor.Reg Go.Proofs.YtoiffnoiliknnaaDoor.Rout Go.Proofs.YtoiffnoiliknnaaDoor.Node Go.Proofs.YtoiffnoiliknnaaDoor.Tim Go.Proofs.YtoiffnoiliknnaaDoorW.PrintWords Go.Proofs.YtoiffnoiliknnaaDoorW.PrintLast Go.Proofs.YtoiffnoiliknnaaDoorW.PrintMore
def keepsAll (l : List Nd) (fmt : Int) : Bool := l.all (fun x => (keptF x fmt).2)
def projF (l : List Nd) (fmt : Int) : List Nd × Int :=
  if fmt < 1 ∨ 6 < fmt then ([], 16)
  else if (chk l).2 ≠ 0 then ([], 21)
  else if 3 ≤ fmt ∧ fmt ≤ 5 ∧ l.length ≠ 1 then ([], 22)
  else if fmt = 2 ∧ 65535 < l.length then ([], 22)
  else if keepsAll l fmt = true then (l.map (fun x => (keptF x fmt).1), 0) else ([], 22)
theorem five_set (cs : List Value) (h : cs.length = 5) (v0 v1 v2 v3 v4 : Value) : ((((cs.set 0 v0).set 1 v1).set 2 v2).set 3 v3).set 4 v4 = [v0, v1, v2, v3, v4] := by
  match cs, h with
  | [a, b, c, d, e], _ => rfl
/-- All cells of element k written. -/
theorem GRow.set5 {W : World} {base g cap n : Nat} {E E' : Nat → List Value → Prop} (h : GRow W base g cap n E) (k : Nat) (hkn : k < n) (v0 v1 v2 v3 v4 : Value) (hk : E' k [v0, v1, v2, v3, v4]) (ho : ∀ j cs, j ≠ k → E j cs → E' j cs) :
    GRow (((((W.setCell ⟨g, k * 5, none⟩ v0).setCell ⟨g, k * 5 + 1, none⟩ v1).setCell ⟨g, k * 5 + 2, none⟩ v2).setCell ⟨g, k * 5 + 3, none⟩ v3).setCell ⟨g, k * 5 + 4, none⟩ v4) base g cap n E' ∧
      W.grownBy (((((W.setCell ⟨g, k * 5, none⟩ v0).setCell ⟨g, k * 5 + 1, none⟩ v1).setCell ⟨g, k * 5 + 2, none⟩ v2).setCell ⟨g, k * 5 + 3, none⟩ v3).setCell ⟨g, k * 5 + 4, none⟩ v4) (some g) := by
  obtain ⟨cells, how, he⟩ := h
  have s0 := how.stored (k * 5) v0
  have s1 := s0.1.stored (k * 5 + 1) v1
  have s2 := s1.1.stored (k * 5 + 2) v2
  have s3 := s2.1.stored (k * 5 + 3) v3
  have s4 := s3.1.stored (k * 5 + 4) v4
  refine ⟨⟨_, s4.1, fun j hj => ?_⟩, World.grownBy.trans (World.grownBy.trans (World.grownBy.trans (World.grownBy.trans s0.2 s1.2) s2.2) s3.2) s4.2⟩
  have e0 : cells.set (k * 5) v0 = cells.set (k * 5 + 0) v0 := rfl
  rw [elem_set _ _ _ _ _ (by omega), elem_set _ _ _ _ _ (by omega), elem_set _ _ _ _ _ (by omega), elem_set _ _ _ _ _ (by omega), e0, elem_set _ _ _ _ _ (by omega)]
  by_cases h2 : j = k
  · subst h2
    simp only [if_true]
    rw [five_set _ (by rw [List.length_take, List.length_drop, how.1]; have : j * 5 + 5 ≤ n * 5 := by omega
                       omega)]
    exact hk
  · simp only [if_neg h2]
    exact ho j _ h2 (he j hj)
theorem set_grown (W : World) (g o : Nat) (v : Value) : W.grownBy (W.setCell ⟨g, o, none⟩ v) (some g) :=
  ⟨rfl, rfl, rfl, by simp [World.setCell], fun k _ hk => Below.heap_setCell W ⟨g, o, none⟩ v k (fun e => hk (by rw [e]))⟩
def five (W : World) (g k : Nat) (v0 v1 v2 v3 v4 : Value) : World := ((((W.setCell ⟨g, k * 5, none⟩ v0).setCell ⟨g, k * 5 + 1, none⟩ v1).setCell ⟨g, k * 5 + 2, none⟩ v2).setCell ⟨g, k * 5 + 3, none⟩ v3).setCell ⟨g, k * 5 + 4, none⟩ v4
theorem five_grown (W : World) (g k : Nat) (v0 v1 v2 v3 v4 : Value) : W.grownBy (five W g k v0 v1 v2 v3 v4) (some g) :=
  World.grownBy.trans (World.grownBy.trans (World.grownBy.trans (World.grownBy.trans (set_grown _ _ _ _) (set_grown _ _ _ _)) (set_grown _ _ _ _)) (set_grown _ _ _ _)) (set_grown _ _ _ _)
def Done (l : List Nd) (fmt : Int) (W : World) (base g k : Nat) (j : Nat) (cs : List Value) : Prop :=
  ∀ x, l[j]? = some x → kN.M W base (fun q => q ≠ g) (if j < k then (keptF x fmt).1 else x) cs
theorem done_move {l : List Nd} {fmt : Int} {W W' : World} {base g k j : Nat} {cs : List Value} (h : Done l fmt W base g k j cs) (hm : ∀ q, q ≠ g → q < W.heap.size → W'.heap[q]? = W.heap[q]?) : Done l fmt W' base g k j cs :=
  fun x hx => Kd.M_step (h x hx) (fun q hq hlt => hm q hq hlt)
theorem kept_f2 (x : Nd) (fmt : Int) : (keptF x fmt).1.f2 = x.f2 := by
  unfold keptF
  split
  · split <;> rfl
  · split
    · split <;> rfl
    · split
      · split <;> rfl
      · rfl
theorem GRow.of_made {W : World} {base g cap : Nat} {l : List Nd} {ok : Nat → Prop} (h : kN.R 35 W base ok (.slice (some ⟨g, 0, none⟩) l.length cap) l) : GRow W base g cap l.length (fun j cs => ∀ x, l[j]? = some x → kN.M W base (fun q => ok q ∧ q ≠ g) x cs) := by
  obtain ⟨_, cells, how, hr⟩ := h
  exact ⟨cells, how, fun j hj x hx => kN.M_mono (fun q hq => ⟨hq.1, by have := hq.2; simpa [Value.ownBlock] using this⟩) (hr.2 j x hx)⟩
set_option maxRecDepth 100000 in
set_option maxHeartbeats 16000000 in
theorem project_calls (A : Option Addr) (c : Nat) (l : List Nd) (fmt : Int) (w : World) (hC : kN.C w A l.length l) (hok : ∀ x ∈ l, Ok x) (hl : l.length * 64 ≤ 140737488355328) :
    Calls Tryd.prog 8 #[.slice A l.length c, .int .i64 fmt] w fun e w' => ∃ v, e = .returned (.tuple #[v, .int .i64 (projF l fmt).2]) ∧ kN.R 35 w' w.heap.size (fun _ => True) v (projF l fmt).1 ∧ Below w.heap.size w w' := by
  have HP := Lib.hid (show projF l fmt = if fmt < 1 ∨ 6 < fmt then ([], 16) else if (chk l).2 ≠ 0 then ([], 21) else if 3 ≤ fmt ∧ fmt ≤ 5 ∧ l.length ≠ 1 then ([], 22) else if fmt = 2 ∧ 65535 < l.length then ([], 22) else if keepsAll l fmt = true then (l.map (fun x => (keptF x fmt).1), 0) else ([], 22) from rfl)
  by_cases ho : fmt < 1 ∨ 6 < fmt
  · have hE := Lib.hid (show projF l fmt = ([], 16) by rw [HP.out, if_pos ho])
    clear hC hok HP
    rcases ho with ho | ho
    all_goals
      go_enter Tryd.func8, Tryd.ntmps8
      go_wp2
      go_ret2
      rw [hE.out]
      exact ⟨_, rfl, Kd.R_nil _ _ _ _ _, Below.refl _ _⟩
  have HCK := Lib.hid (check_calls A c l w hC hok (by omega))
  by_cases he : (chk l).2 = 0
  · have HLE := Lib.hid (fun w1 (h : Below w.heap.size w w1) => lent_calls A c l w1 (Kd.C_below hC h) hok hl)
    have HOK := Lib.hid hok
    rw [he] at HCK
    have HP2 := Lib.hid (show projF l fmt = if 3 ≤ fmt ∧ fmt ≤ 5 ∧ l.length ≠ 1 then ([], 22) else if fmt = 2 ∧ 65535 < l.length then ([], 22) else if keepsAll l fmt = true then (l.map (fun x => (keptF x fmt).1), 0) else ([], 22) by rw [HP.out, if_neg ho, if_neg (by simpa using he)])
    clear hC hok he HP
    generalize (chk l).1 = at_ at *
    by_cases h1 : 3 ≤ fmt ∧ fmt ≤ 5 ∧ l.length ≠ 1
    · have hE := Lib.hid (show projF l fmt = ([], 22) by rw [HP2.out, if_pos h1])
      have hn : ((l.length : Int) != 1) = true := by simp; omega
      clear HP2 HLE HOK
      obtain rfl | rfl | rfl : fmt = 3 ∨ fmt = 4 ∨ fmt = 5 := by omega
      all_goals
        go_enter Tryd.func8, Tryd.ntmps8
        go_wp2_with (go_at_call 15; refine HCK.out.mono ?_; rintro e w1 ⟨rfl, hb1⟩)
        go_ret2
        rw [hE.out]
        exact ⟨_, rfl, Kd.R_nil _ _ _ _ _, hb1⟩
    · by_cases h2 : fmt = 2 ∧ 65535 < l.length
      · have hE := Lib.hid (show projF l fmt = ([], 22) by rw [HP2.out, if_neg h1, if_pos h2])
        clear HP2 HLE HOK
        obtain ⟨rfl, h3⟩ := h2
        clear h1
        go_enter Tryd.func8, Tryd.ntmps8
        go_wp2_with (go_at_call 15; refine HCK.out.mono ?_; rintro e w1 ⟨rfl, hb1⟩)
        go_ret2
        rw [hE.out]
        exact ⟨_, rfl, Kd.R_nil _ _ _ _ _, hb1⟩
      · have HP3 := Lib.hid (show projF l fmt = if keepsAll l fmt = true then (l.map (fun x => (keptF x fmt).1), 0) else ([], 22) by rw [HP2.out, if_neg h1, if_neg h2])
        by_cases h0 : l.length = 0
        · obtain rfl : l = [] := List.eq_nil_of_length_eq_zero h0
          have hE := Lib.hid (show projF [] fmt = ([], 0) by rw [HP3.out]; rfl)
          clear HP3 HP2 HOK
          have hf : fmt = 1 ∨ fmt = 2 ∨ fmt = 6 := by simp at h1; omega
          clear h1 h2 ho
          obtain rfl | rfl | rfl := hf
          all_goals
            go_enter Tryd.func8, Tryd.ntmps8
            go_wp2_with (first
              | (go_at_call 15; refine HCK.out.mono ?_; rintro e w1 ⟨rfl, hb1⟩)
              | (go_at_call 19; refine (HLE.out _ hb1).mono ?_; rintro e w2 ⟨v, rfl, hR, hb2⟩; obtain ⟨A1, c1, rfl, _, _⟩ := Kd.R_reads hR; have HR := Lib.hid hR; clear hR))
            refine wp_loop_rounds 1 ?_
            rw [rounds_succ]
            go_wp2
            go_ret2
            rw [hE.out]
            exact ⟨_, rfl, Kd.R_lower HR.out hb1.size, bgo hb1 hb2⟩
        · have f1 : 1 ≤ fmt := by omega
          have f6 : fmt ≤ 6 := by omega
          have hs : ((fmt == 3) = true ∧ (fmt == 2) = false ∧ ((l.length : Int) != 1) = false) ∨ ((fmt == 3) = false ∧ (fmt == 4) = true ∧ (fmt == 2) = false ∧ ((l.length : Int) != 1) = false) ∨ ((fmt == 3) = false ∧ (fmt == 4) = false ∧ (fmt == 5) = true ∧ (fmt == 2) = false ∧ ((l.length : Int) != 1) = false) ∨ ((fmt == 3) = false ∧ (fmt == 4) = false ∧ (fmt == 5) = false ∧ (fmt == 2) = true ∧ l.length ≤ 65535) ∨ ((fmt == 3) = false ∧ (fmt == 4) = false ∧ (fmt == 5) = false ∧ (fmt == 2) = false) := by
            simp only [beq_iff_eq, beq_eq_false_iff_ne, bne_eq_false_iff_eq]
            omega
          clear HP2 h1 h2 ho
          rcases hs with ⟨e3, e2, hn⟩ | ⟨e3, e4, e2, hn⟩ | ⟨e3, e4, e5, e2, hn⟩ | ⟨e3, e4, e5, e2, hbig⟩ | ⟨e3, e4, e5, e2⟩
          all_goals
            skip
            go_enter Tryd.func8, Tryd.ntmps8
            go_wp2_with (first
              | (go_at_call 15; refine HCK.out.mono ?_; rintro e w1 ⟨rfl, hb1⟩)
              | (go_at_call 19; refine (HLE.out _ hb1).mono ?_; rintro e w2 ⟨v, rfl, hR, hb2⟩; obtain ⟨g, cap, rfl, hgb, hgl, _⟩ := Kd.R_form hR (by omega); have HR := Lib.hid (Kd.R_lower hR hb1.size); have HB := Lib.hid (bgo hb1 hb2); clear hR))
            have hgb2 : w.heap.size ≤ g := Nat.le_trans hb1.size hgb
            have HG0 := Lib.hid ((GRow.of_made HR.out).imp (E' := Done l fmt w2 w.heap.size g 0) (fun j cs _ h x hx => by rw [if_neg (by omega)]; exact kN.M_mono (fun q hq => hq.2) (h x hx)))
            clear HR HCK HLE hb1 hb2 hgb
            go_loopw [10, 11, 52] (fun _ _ i wr => ∃ k : Nat, i = .int .i64 k ∧ k ≤ l.length ∧ Hid (GRow wr w.heap.size g cap l.length (Done l fmt wr w.heap.size g k)) ∧ Below w.heap.size w wr ∧ g < wr.heap.size ∧ Hid (keepsAll (l.take k) fmt = true)) (fun _ _ i _ => (l.length - intOf i).toNat)
            case atStart => exact ⟨0, rfl, by omega, HG0, HB.out, hgl, Lib.hid rfl⟩
            case round =>
              obtain ⟨k, rfl, hk, hG, hbr, hgr, hall⟩ := hrel
              by_cases hlt : k < l.length
              · obtain ⟨cs, hE, hcell, hfr⟩ := hG.out.at_ k hlt
                have hxk : l[k]? = some (rdN l (k : Int)) := by
                  unfold rdN
                  rw [Int.toNat_natCast, List.getD_eq_getElem?_getD, List.getElem?_eq_getElem hlt]
                  rfl
                have hE2 := hE _ hxk
                rw [if_neg (by omega)] at hE2
                obtain ⟨v2, rfl, hR2⟩ := kN_openM hE2
                obtain ⟨A2, c2, rfl, _, _⟩ := Kd.R_reads hR2
                have hps := (HOK.out _ (rdN_mem l k hlt)).ps
                have c0 := hcell 0 _ rfl
                have c1 := hcell 1 _ rfl
                have c2' := hcell 2 _ rfl
                have c3 := hcell 3 _ rfl
                have c4 := hcell 4 _ rfl
                rw [Nat.add_zero] at c0
                have HFR := Lib.hid hfr
                have k0 : (0 : Int) ≤ (k : Int) := by omega
                have k1 : (k : Int) < l.length := by omega
                have HXK := Lib.hid hxk
                have HTK := Lib.hid (take_rdN l k hlt)
                have HK := Lib.hid (fun W => kept_calls (rdN l (k : Int)) A2 c2 fmt W hps)
                have HR2 := Lib.hid hR2
                have HF2 := Lib.hid (kept_f2 (rdN l (k : Int)) fmt)
                clear hE hE2 hcell hfr hxk hR2
                cases hkb : (keptF (rdN l (k : Int)) fmt).2
                · have hPE := Lib.hid (show projF l fmt = ([], 22) by
                    rw [HP3.out, if_neg]
                    intro h
                    unfold keepsAll at h
                    rw [List.all_eq_true] at h
                    have := h _ (List.mem_of_getElem? HXK.out)
                    rw [hkb] at this
                    cases this)
                  rw [hkb] at HK
                  clear hkb HF2
                  generalize (keptF (rdN l (k : Int)) fmt).1 = y at *
                  generalize rdN l (k : Int) = x at *
                  go_wp2_with (go_at_call 20; refine (HK.out _).mono ?_; rintro e w3 ⟨rfl, hb3⟩; have d0 := bkeep hb3 c0; have d1 := bkeep hb3 c1; have d2 := bkeep hb3 c2'; have d3 := bkeep hb3 c3; have d4 := bkeep hb3 c4; have HF := Lib.hid (fun i => (hb3.frozen (p := ⟨g, i, none⟩) hgr).trans (HFR.out i)); have e0 := HF.out (k * 5); have e1 := HF.out (k * 5 + 1); have e2 := HF.out (k * 5 + 2); have e3 := HF.out (k * 5 + 3); have e4 := HF.out (k * 5 + 4))
                  go_ret2
                  rw [hPE.out]
                  exact ⟨_, rfl, Kd.R_nil _ _ _ _ _, (bgo hbr hb3).grown (five_grown w3 g k _ _ _ _ _) (bgo hbr hb3).size (fun q e => by injection e with e; omega)⟩
                · rw [hkb] at HK
                  have HALL := Lib.hid (show keepsAll (l.take (k + 1)) fmt = true by
                    rw [HTK.out]
                    unfold keepsAll
                    rw [List.all_append]
                    have := hall.out
                    unfold keepsAll at this
                    rw [this]
                    simp [hkb])
                  have HY := Lib.hid (show (keptF (rdN l (k : Int)) fmt).1 = (keptF (rdN l (k : Int)) fmt).1 from rfl)
                  clear hkb
                  generalize hy : (keptF (rdN l (k : Int)) fmt).1 = y at *
                  generalize hx : rdN l (k : Int) = x at *
                  have HYX := Lib.hid hy
                  clear hy hx HY
                  go_wp2_with (go_at_call 20; refine (HK.out _).mono ?_; rintro e w3 ⟨rfl, hb3⟩; have d0 := bkeep hb3 c0; have d1 := bkeep hb3 c1; have d2 := bkeep hb3 c2'; have d3 := bkeep hb3 c3; have d4 := bkeep hb3 c4; have HF := Lib.hid (fun i => (hb3.frozen (p := ⟨g, i, none⟩) hgr).trans (HFR.out i)); have e0 := HF.out (k * 5); have e1 := HF.out (k * 5 + 1); have e2 := HF.out (k * 5 + 2); have e3 := HF.out (k * 5 + 3); have e4 := HF.out (k * 5 + 4); have HB3 := Lib.hid hb3; clear hb3)
                  have HN := Lib.hid (GRow.set5 (E' := Done l fmt (five w3 g k (.int .i64 y.f0) (.string y.f1) (.slice A2 x.f2.length c2) (.int .i64 y.f3) (.int .i64 y.f4)) w.heap.size g (k + 1)) ((hG.out.below HB3.out).imp (fun j cs _ h => done_move h (fun q _ hlt => HB3.out.block q hlt))) k hlt (.int .i64 y.f0) (.string y.f1) (.slice A2 x.f2.length c2) (.int .i64 y.f3) (.int .i64 y.f4)
                    (fun z hz => by
                      obtain rfl := Option.some.inj (HXK.out.symm.trans hz)
                      rw [if_pos (by omega), HYX.out]
                      refine kN_mkM _ _ _ _ (v2 := .slice A2 x.f2.length c2) ?_
                      rw [HF2.out]
                      exact Kd.R_step (Kd.R_below HR2.out HB3.out) (fun q hq hlt => (five_grown w3 g k _ _ _ _ _).block q hlt (fun e => hq (by injection e))))
                    (fun j cs hj h z hz => by
                      have h1 := h z hz
                      have h2 : (if j < k + 1 then (keptF z fmt).1 else z) = (if j < k then (keptF z fmt).1 else z) := by
                        by_cases hjk : j < k
                        · rw [if_pos hjk, if_pos (by omega)]
                        · rw [if_neg hjk, if_neg (by omega)]
                      rw [h2]
                      exact Kd.M_step h1 (fun q hq hlt => (five_grown w3 g k _ _ _ _ _).block q hlt (fun e => hq (by injection e)))))
                  have HBN := Lib.hid ((bgo hbr HB3.out).grown HN.out.2 (bgo hbr HB3.out).size (fun q e => by injection e with e; omega))
                  have HGN := Lib.hid HN.out.1
                  have hgn : g < w3.heap.size := by have := HB3.out.size; omega
                  clear HN HK
                  go_wp2
                  go_roundw
                  case rel => exact ⟨k + 1, by go_num, by omega, HGN, HBN.out, by simpa [World.setCell] using hgn, HALL⟩
                  case measure => simp [intOf]; omega
              · obtain rfl : k = l.length := by omega
                have hPE := Lib.hid (show projF l fmt = (l.map (fun x => (keptF x fmt).1), 0) by rw [HP3.out, if_pos (by have := hall.out; rwa [List.take_length] at this)])
                go_wp2
                go_ret2
                rw [hPE.out]
                refine ⟨_, rfl, ?_, hbr⟩
                have hlm : (l.map (fun x => (keptF x fmt).1)).length = l.length := by rw [List.length_map]
                have hG2 : GRow wr w.heap.size g cap (l.map (fun x => (keptF x fmt).1)).length (fun j cs => ∀ x, (l.map (fun x => (keptF x fmt).1))[j]? = some x → kN.M wr w.heap.size (fun q => True ∧ q ≠ g) x cs) := by
                  rw [hlm]
                  refine hG.out.imp (fun j cs hj h x hx => ?_)
                  rw [List.getElem?_map] at hx
                  obtain ⟨z, hz, rfl⟩ := Option.map_eq_some_iff.1 hx
                  have h1 := h z hz
                  rw [if_pos hj] at h1
                  exact kN.M_mono (fun q hq => ⟨trivial, hq⟩) h1
                have hm := GRow.made (ok := fun _ => True) hG2 trivial
                rw [hlm] at hm
                exact hm
  · have hE := Lib.hid (show projF l fmt = ([], 21) by rw [HP.out, if_neg ho, if_pos he])
    have hz : ((chk l).2 != 0) = true := by simpa using he
    clear hC hok HP he
    generalize (chk l).2 = er at *
    generalize (chk l).1 = at_ at *
    go_enter Tryd.func8, Tryd.ntmps8
    go_wp2_with (go_at_call 15; refine HCK.out.mono ?_; rintro e w1 ⟨rfl, hb1⟩)
    go_ret2
    rw [hE.out]
    exact ⟨_, rfl, Kd.R_nil _ _ _ _ _, hb1⟩
end Go.Proofs.YtoiffnoiliknnaaDoor.Tree
