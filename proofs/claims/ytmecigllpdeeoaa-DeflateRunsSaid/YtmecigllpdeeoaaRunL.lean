/- hamperlaw08.DeflateRuns walked: any lengths are told as the document says. -/
import Derived.Test.YtmecigllpdeeoaaRunD
set_option linter.unusedVariables false
set_option linter.unusedSimpArgs false
namespace Go.Proofs.Ytmecigllpdeeoaa.Run
open Go.RowKit Go.BigFrame Go.Proofs.Ytmecigllpdeeoaa.By Go.Proofs.Ytmecigllpdeeoaa.Reg Go.Proofs.YtmecigllpdeeoaaW.PrintWords Go.Proofs.YtmecigllpdeeoaaW.PrintLast Go.Proofs.YtmecigllpdeeoaaW.PrintMore Go.Proofs.Ytmecigllpdeeoaa.PPut
theorem set_next (l : List Int) (k : Nat) (hk : k < l.length) : (List.replicate k (-1) ++ l.drop k).set k (-1) = List.replicate (k + 1) (-1) ++ l.drop (k + 1) := by
  rw [List.set_append_right _ _ (by simp), List.length_replicate, Nat.sub_self, List.drop_eq_getElem_cons hk, List.set_cons_zero, List.replicate_succ', List.append_assoc]
  rfl
theorem rd_rest (l : List Int) (k : Nat) (hk : k < l.length) : rd (List.replicate k (-1) ++ l.drop k) (k : Int) = l.getD k 0 := by
  rw [rd_get, List.getD_eq_getElem?_getD, List.getD_eq_getElem?_getD, List.getElem?_append_right (by simp), List.length_replicate, Nat.sub_self, List.getElem?_drop]
  rfl
theorem rest_len (l : List Int) (k : Nat) (hk : k ≤ l.length) : (List.replicate k (-1) ++ l.drop k).length = l.length := by simp; omega
theorem grown_drewN_own {w : World} {base : Nat} {e : TypeId} {size n : Nat} {v : Value} {xs : List Value} (h : w.ownsRow base e size v n xs) (m : Nat) : (w.drewN m).ownsRow base e size v n xs := pw_own_below h (pw_below_drewN (Below.refl _ _) m)
set_option maxHeartbeats 4000000 in
set_option maxRecDepth 100000 in
theorem same_calls (w : World) (b : Nat) (u : Value) (l : List Int) (A : Option Addr) (c : Nat) (hu : RI w b u l) (hC : (Kd.int .i64).C w A l.length l) (hne : ∀ ad, A = some ad → 0 < l.length → some ad.block ≠ u.ownBlock) (hl : l.length * 8 ≤ 140737488355328) :
    Calls Try.prog 17 #[u, .slice A l.length c] w fun e w' => e = .returned (.bool true) ∧ w.grownBy w' u.ownBlock := by
  by_cases h0 : l.length = 0
  · obtain rfl : l = [] := List.eq_nil_of_length_eq_zero h0
    obtain ⟨A1, c1, rfl, _, _⟩ := Kd.R_reads hu
    clear hC hne hu
    go_enter Try.func17, Try.ntmps17
    go_wp2
    refine wp_loop_rounds 1 ?_
    rw [rounds_succ]
    go_wp2
    go_ret
    exact ⟨rfl, World.grownBy.refl _ _⟩
  · obtain ⟨ad, rfl, _⟩ := Kd.at_int hC 0 (by omega) (by omega)
    have hown : w.ownsRow b 3 1 u l.length (nums .i64 l) := Kd.own_of_R hu
    obtain ⟨g, cap, rfl, hgb, hgl⟩ := hown.form (by omega)
    have HU := Lib.hid hown
    have HC := Lib.hid hC
    have hg : ad.block ≠ g := fun he => hne ad rfl (by omega) (by rw [he]; rfl)
    have HG := Lib.hid hg
    clear hg hne hC hu hown
    go_enter Try.func17, Try.ntmps17
    go_wp2
    go_loopw [5] (fun i wr => ∃ k : Nat, i = .int .i64 k ∧ k ≤ l.length ∧ Hid (wr.ownsRow b 3 1 (.slice (some ⟨g, 0, none⟩) l.length cap) l.length (nums .i64 (List.replicate k (-1) ++ l.drop k)) ∧ w.grownBy wr (some g))) (fun i _ => (l.length - intOf i).toNat)
    case atStart => exact ⟨0, rfl, by omega, Lib.hid ⟨by simpa using HU.out, World.grownBy.refl _ _⟩⟩
    case round =>
      obtain ⟨k, rfl, hk, HR⟩ := hrel
      by_cases hlt : k < l.length
      · have ha := own_at HR.out.1 (k : Int) (by omega) (by omega)
        rw [Int.toNat_natCast, rd_rest l k hlt] at ha
        obtain ⟨ha1, ha2⟩ := ha
        have hb : wr.cell? (ad.add k) = some (.int .i64 (l.getD k 0)) := by
          obtain ⟨ad2, hA2, hx2⟩ := Kd.at_int HC.out (k : Int) (by omega) (by omega)
          obtain rfl := Option.some.inj hA2
          rw [Int.toNat_natCast, rd_get] at hx2
          have hbk : (ad.add k).block = ad.block := by unfold Addr.add; split <;> rfl
          exact (World.cell?_of_block (HR.out.2.block (ad.add k).block (World.block_lt_of_cell? w _ hx2) (by rw [hbk]; exact fun he => HG.out (Option.some.inj he)))).trans hx2
        have k0 : (0 : Int) ≤ (k : Int) := by omega
        have k1 : (k : Int) < l.length := by omega
        have HST := Lib.hid (fun n : Nat => show ((wr.drewN n).setCell ⟨g, k, none⟩ (.int .i64 (-1))).ownsRow b 3 1 (.slice (some ⟨g, 0, none⟩) l.length cap) l.length (nums .i64 (List.replicate (k + 1) (-1) ++ l.drop (k + 1))) ∧ w.grownBy ((wr.drewN n).setCell ⟨g, k, none⟩ (.int .i64 (-1))) (some g) by
          have hst := own_store (W := wr.drewN n) (grown_drewN_own HR.out.1 n) (k : Int) (-1)
          rw [Int.toNat_natCast, set_next l k hlt] at hst
          exact ⟨hst.1, World.grownBy.trans (HR.out.2.trans (grown_of_below (pw_below_drewN (Below.refl _ _) n) _)) hst.2⟩)
        generalize l.getD k 0 = z at *
        go_wp2
        go_quiet (fail)
        go_wp2
        go_roundw
        case rel => exact ⟨k + 1, by go_num, by omega, Lib.hid (HST.out _)⟩
        case measure => simp [intOf]; omega
      · go_wp2
        go_ret
        exact ⟨rfl, HR.out.2⟩
/-- Rows of the call's own, no two in one block. -/
structure Rs (w0 w : World) (ps : List (Value × List Int)) : Prop where
  all : ∀ p ∈ ps, RI w w0.heap.size p.1 p.2
  ap : ps.Pairwise fun p q => ∀ k, p.1.ownBlock = some k → some k ≠ q.1.ownBlock
  b : Below w0.heap.size w0 w
theorem R_lower {w : World} {b b' : Nat} {v : Value} {xs : List Int} (h : RI w b v xs) (hb : b' ≤ b) : RI w b' v xs := Kd.R_lower h hb
theorem Rs.pop {w0 w w' : World} {p : Value × List Int} {ps : List (Value × List Int)} (h : Rs w0 w (p :: ps)) (hg : w.grownBy w' p.1.ownBlock) : Rs w0 w' ps := by
  have h1 := List.pairwise_cons.1 h.ap
  refine ⟨fun q hq => ?_, h1.2, h.b.grown hg h.b.size (fun k hk => R_base (h.all p (by simp)) k hk)⟩
  exact Kd.R_grown2 (h.all q (by simp [hq])) rfl hg (fun k hk => h1.1 q hq k hk)
/-- 'same' on the first of them and another one, of the same numbers. -/
theorem Rs.same {w0 w : World} {u v : Value} {xs : List Int} {ps : List (Value × List Int)} (h : Rs w0 w ((u, xs) :: ps)) (hq : (v, xs) ∈ ps) (hl : xs.length * 8 ≤ 140737488355328) :
    Calls Try.prog 17 #[u, v] w fun e w' => e = .returned (.bool true) ∧ Rs w0 w' ps := by
  have hv := h.all _ (List.mem_cons_of_mem _ hq)
  have h1 := (List.pairwise_cons.1 h.ap).1 _ hq
  obtain ⟨A, c, he, _, hC⟩ := Kd.R_reads hv
  simp only at he
  subst he
  refine (same_calls w w0.heap.size u xs A c (h.all (u, xs) (by simp)) hC (fun ad hA hn hk => ?_) hl).mono fun e w' ⟨he, hg⟩ => ⟨he, h.pop hg⟩
  have hown := Kd.own_of_R hv
  obtain ⟨g, cap, e2, _⟩ := hown.form hn
  simp only at e2
  injection e2 with e2
  rw [hA] at e2
  injection e2 with e2
  subst e2
  exact h1 g hk.symm (by rw [hA]; rfl)
theorem Rs.last {w0 w : World} {u : Value} {xs : List Int} {ps : List (Value × List Int)} {A : Option Addr} {c : Nat} (h : Rs w0 w ((u, xs) :: ps)) (hC : (Kd.int .i64).C w0 A xs.length xs) (hl : xs.length * 8 ≤ 140737488355328) :
    Calls Try.prog 17 #[u, .slice A xs.length c] w fun e w' => e = .returned (.bool true) ∧ Below w0.heap.size w0 w' := by
  refine (same_calls w w0.heap.size u xs A c (h.all (u, xs) (by simp)) (Kd.C_below hC h.b) (fun ad hA hn hk => ?_) hl).mono fun e w' ⟨he, hg⟩ => ⟨he, (h.pop hg).b⟩
  obtain ⟨ad2, hA2, hx⟩ := Kd.at_int hC 0 (by omega) (by omega)
  rw [hA] at hA2
  obtain rfl := Option.some.inj hA2
  have h1 := World.block_lt_of_cell? w0 _ hx
  have h2 := R_base (h.all (u, xs) (by simp)) ad.block hk.symm
  have h3 : (ad.add (0 : Int).toNat).block = ad.block := by unfold Addr.add; split <;> rfl
  omega
theorem rs_all {w0 w1 w2 w3 w4 : World} {l fs ss : List Int} {uin a b c d x y : Value} (h1 : Below w0.heap.size w0 w1) (h2 : Below w1.heap.size w1 w2) (h3 : Below w2.heap.size w2 w3) (h4 : Below w3.heap.size w3 w4)
    (hin : RI w1 w0.heap.size uin l) (ha : RI w2 w1.heap.size a fs) (hb : RI w2 w1.heap.size b ss) (hab : ∀ k, a.ownBlock = some k → some k ≠ b.ownBlock)
    (hc : RI w3 w2.heap.size c fs) (hd : RI w3 w2.heap.size d ss) (hcd : ∀ k, c.ownBlock = some k → some k ≠ d.ownBlock)
    (hx : RI w4 w3.heap.size x fs) (hy : RI w4 w3.heap.size y ss) (hxy : ∀ k, x.ownBlock = some k → some k ≠ y.ownBlock) :
    Rs w0 w4 [(a, fs), (b, ss), (c, fs), (d, ss), (uin, l), (x, fs), (y, ss)] := by
  have b24 := bgo h3 h4
  have b14 := bgo h2 b24
  have s1 := h1.size
  have s2 := h2.size
  have s3 := h3.size
  have far : ∀ {w w' : World} {b b' : Nat} {u v : Value} {xs ys : List Int}, RI w b u xs → RI w' b' v ys → w.heap.size ≤ b' → ∀ k, u.ownBlock = some k → some k ≠ v.ownBlock := fun hu hv hle k hk he => by
    have := R_lt hu k hk
    have := R_base hv k he.symm
    omega
  have raf : ∀ {w w' : World} {b b' : Nat} {u v : Value} {xs ys : List Int}, RI w b u xs → RI w' b' v ys → w.heap.size ≤ b' → ∀ k, v.ownBlock = some k → some k ≠ u.ownBlock := fun hu hv hle k hk he => far hu hv hle k he.symm hk.symm
  refine ⟨?_, ?_, bgo h1 b14⟩
  · intro p hp
    simp only [List.mem_cons, List.not_mem_nil, or_false] at hp
    rcases hp with rfl | rfl | rfl | rfl | rfl | rfl | rfl
    · exact R_lower (Kd.R_below ha b24) (by omega)
    · exact R_lower (Kd.R_below hb b24) (by omega)
    · exact R_lower (Kd.R_below hc h4) (by omega)
    · exact R_lower (Kd.R_below hd h4) (by omega)
    · exact Kd.R_below hin b14
    · exact R_lower hx (by omega)
    · exact R_lower hy (by omega)
  · simp only [List.pairwise_cons, List.mem_cons, List.not_mem_nil, or_false, forall_eq_or_imp, forall_eq, false_implies, implies_true, List.Pairwise.nil, and_true]
    exact ⟨⟨hab, far ha hc (by omega), far ha hd (by omega), raf hin ha (by omega), far ha hx (by omega), far ha hy (by omega)⟩, ⟨far hb hc (by omega), far hb hd (by omega), raf hin hb (by omega), far hb hx (by omega), far hb hy (by omega)⟩, ⟨hcd, raf hin hc (by omega), far hc hx (by omega), far hc hy (by omega)⟩, ⟨raf hin hd (by omega), far hd hx (by omega), far hd hy (by omega)⟩, ⟨far hin hx (by omega), far hin hy (by omega)⟩, hxy⟩
def IsRow (k : IntKind) (w : World) (a : Option Addr) (len cap : Nat) (zs : List Int) : Prop :=
  (a = none ∧ len = 0 ∧ cap = 0 ∧ zs = []) ∨
  ∃ x, a = some x ∧ len ≤ cap ∧ cap ≤ maxLen ∧ zs.length = cap ∧ (∀ i, i < zs.length → w.cell? (x.add i) = some (.int k (zs.getD i 0))) ∧ ∀ n ∈ zs, (Lit.int k n).wf = true
theorem IsRow.reads {k : IntKind} {w : World} {a : Option Addr} {len cap : Nat} {zs : List Int} (h : IsRow k w a len cap zs) (hl : len ≤ 140737488355328) : (Kd.int k).C w a (zs.take len).length (zs.take len) ∧ len = (zs.take len).length ∧ (zs.take len).length ≤ cap := by
  rcases h with ⟨rfl, rfl, rfl, rfl⟩ | ⟨x, rfl, h1, h2, h3, h4, h5⟩
  · exact ⟨⟨rfl, by simp, fun h => absurd h (by simp)⟩, rfl, by simp⟩
  · have hlen : (zs.take len).length = len := by rw [List.length_take]; omega
    refine ⟨?_, hlen.symm, by omega⟩
    rw [hlen]
    refine Kd.C_of_reads (enc := Value.int k) (d := (0 : Int)) (h1 := fun _ => rfl) ⟨hlen, by omega, fun hn => ⟨x, rfl, fun j hj => ?_⟩⟩
    rw [h4 j (by omega), List.getD_eq_getElem?_getD, List.getD_eq_getElem?_getD, List.getElem?_take_of_lt hj]
set_option maxHeartbeats 4000000 in
set_option maxRecDepth 100000 in
theorem walkRow (A : Option Addr) (c : Nat) (l : List Int) (w : World) (hC : (Kd.int .i64).C w A l.length l) (hl : l.length * 8 ≤ 140737488351232) :
    Calls Try.prog 5 #[.slice A l.length c] w fun e w' => e = .returned (.bool true) ∧ Below w.heap.size w w' := by
  have HC := Lib.hid hC
  clear hC
  have HR := Lib.hid (show RI (w.alloc (.cells #[] 3)) w.heap.size (.slice (some ⟨w.heap.size, 0, none⟩) 0 0) [] from Kd.R_of_own (enc := Value.int .i64) (by simpa [nums, encs] using own_lit w w.heap.size 3 .i64 [] (Nat.le_refl _) (by simp)) (fun _ _ => trivial))
  have HCw := Lib.hid (Kd.C_below HC.out (balloc (Below.refl _ _) (.cells #[] 3)))
  have hfl : (from_ l 0).length ≤ l.length := by
    have := runs_len l (l.length - 0) 0
    simpa [from_] using this
  have hln : ((from_ l 0).map Prod.fst).length * 8 ≤ 140737488355328 := by rw [List.length_map]; omega
  have hlm : ((from_ l 0).map Prod.snd).length * 8 ≤ 140737488355328 := by rw [List.length_map]; omega
  go_enter Try.func5, Try.ntmps5
  go_upto_region 2 with (at_builtin; refine Kd.R_append_row (Value.int .i64) 0 (w0 := w) w.heap.size rfl (.tmp 10) (.tmp 11) 25 3 (.int .i64 0) 8 rfl Try.underlying25 infoI rfl (by omega) _ [] l A l.length c (fun _ => True) rfl rfl (fun _ _ => trivial) HR.out HCw.out (balloc (Below.refl _ _) _) (by simp) (by simp; omega) ?_; intro v2 w1 hR1 hb1 hg1 hat1; rw [List.nil_append] at hR1; obtain ⟨A2, c2, rfl, hc2, hC2⟩ := Kd.R_reads hR1; clear hg1 hat1)
  have HIN := Lib.hid hR1
  clear hR1
  go_upto_region 3 with (go_at_call 15; refine (runs_calls A2 c2 l w1 hC2 hl).mono ?_; rintro e w2 ⟨ua, ub, rfl, hAB⟩)
  have HAB := Lib.hid hAB
  have hC3 := Kd.C_below hC2 hAB.st.b
  clear hAB hC2
  go_upto_region 4 with (go_at_call 15; refine (runs_calls A2 c2 l w2 hC3 hl).mono ?_; rintro e w3 ⟨uc, ud, rfl, hCD⟩)
  have HCD := Lib.hid hCD
  have hb13 := bgo hb1 (bgo HAB.out.st.b hCD.st.b)
  clear hCD hC3
  go_upto_region 5 with (go_at_call 16; refine (refRuns_calls A c l w3 (Kd.C_below HC.out hb13) hl).mono ?_; rintro e w4 ⟨ux, uy, rfl, hXY⟩)
  have HS := Lib.hid (rs_all hb1 HAB.out.st.b HCD.out.st.b hXY.b HIN.out (R_lower HAB.out.st.ru (by omega)) (R_lower HAB.out.st.rv (by omega)) HAB.out.st.ap (R_lower HCD.out.st.ru (by omega)) (R_lower HCD.out.st.rv (by omega)) HCD.out.st.ap hXY.ru hXY.rv hXY.ap)
  clear hXY hb13 hb1 HIN HAB HCD HR HCw
  go_wp2_with (first
    | (go_at_call 17; refine (H8.out.last HC.out (by omega)).mono ?_; rintro e w9 ⟨rfl, hb9⟩)
    | (go_at_call 17; refine (H7.out.same (by simp) hlm).mono ?_; rintro e w8 ⟨rfl, h8⟩; have H8 := Lib.hid h8; clear h8)
    | (go_at_call 17; refine (H6.out.same (by simp) hln).mono ?_; rintro e w7 ⟨rfl, h7⟩; have H7 := Lib.hid h7; clear h7)
    | (go_at_call 17; refine (H5.out.same (by simp) hlm).mono ?_; rintro e w6 ⟨rfl, h6⟩; have H6 := Lib.hid h6; clear h6)
    | (go_at_call 17; refine (HS.out.same (by simp) hln).mono ?_; rintro e w5 ⟨rfl, h5⟩; have H5 := Lib.hid h5; clear h5))
  go_ret
  exact ⟨rfl, hb9⟩
theorem walk (a : Option Addr) (len cap : Nat) (zs : List Int) (w : World) (h0 : IsRow .i64 w a len cap zs) (h1 : len * 8 ≤ 140737488351232) :
    Calls Try.prog 5 #[.slice a len cap] w fun e w' => e = .returned (.bool true) ∧ Below w.heap.size w w' := by
  obtain ⟨hC, hlen, hcap⟩ := h0.reads (by omega)
  have h := walkRow a cap (zs.take len) w hC (by omega)
  rwa [← hlen] at h
end Go.Proofs.Ytmecigllpdeeoaa.Run
