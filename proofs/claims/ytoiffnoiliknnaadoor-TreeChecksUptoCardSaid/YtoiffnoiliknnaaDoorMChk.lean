/- ChkL, ChkW put together. -/
import Derived.Test.YtoiffnoiliknnaaDoorMProjL
import Derived.Test.YtoiffnoiliknnaaDoorMRefG
import Derived.Test.YtoiffnoiliknnaaDoorMGrowW
import Derived.Test.YtoiffnoiliknnaaDoorRows
set_option linter.unusedVariables false
set_option linter.unusedSimpArgs false
namespace Go.Proofs.YtoiffnoiliknnaaDoor.Tree
open Go.RowKit Go.BigFrame Go.Maps Go.Proofs.YtoiffnoiliknnaaDoor.Reg Go.Proofs.YtoiffnoiliknnaaDoor.Rout Go.Proofs.YtoiffnoiliknnaaDoor.Node Go.Proofs.YtoiffnoiliknnaaDoorW.PrintWords Go.Proofs.YtoiffnoiliknnaaDoorW.PrintLast Go.Proofs.YtoiffnoiliknnaaDoorW.PrintMore
theorem spec_fine (l : List Nd) (hok : ∀ x ∈ l, Ok x) (e0 : Int) (m : List Nd) (h : GrowSpec l e0 m) : (∀ x ∈ m, Ok x) ∧ m.length ≤ l.length * 1026 := by
  rcases h with ⟨_, _, rfl⟩ | ⟨hb, s, hp, _, _, rfl⟩
  · exact ⟨fun x hx => absurd hx (by simp), by simp⟩
  · split
    · exact ⟨fun x hx => (grown_ok l hok hb).1 x (hp.symm.subset hx), by rw [← hp.length_eq]; exact grown_length l hb⟩
    · exact ⟨fun x hx => absurd hx (by simp), by simp⟩
set_option maxRecDepth 100000 in
set_option maxHeartbeats 16000000 in
theorem checks_law (A : Option Addr) (c : Nat) (l : List Nd) (A' : Option Addr) (c' : Nat) (o : List Nd) (w : World) (hc : l.length ≤ c) (hC : kN.C w A l.length l) (hok : ∀ x ∈ l, Ok x) (hl : l.length * 64 ≤ 140737488351232) (hc' : o.length ≤ c') (hC' : kN.C w A' o.length o) (hok' : ∀ x ∈ o, Ok x) (hl' : o.length * 64 ≤ 140737488351232) (hs : l.length ≤ 1048576) :
    Calls Tryd.prog 5 #[.slice A l.length c, .slice A' o.length c'] w fun e w' => e = .returned (.bool true) ∧ Below w.heap.size w w' := by
  have hg : bad [] l = 0 → (grown l).length * 64 ≤ 140737488355328 := fun hb => by have := grown_length l hb; omega
  have HL := Lib.hid (fun W (h : Below w.heap.size w W) => lawlent_calls A c l W (Kd.C_below hC h) hc hok hl)
  have HLO := Lib.hid (fun W (h : Below w.heap.size w W) => lawlent_calls A' c' o W (Kd.C_below hC' h) hc' hok' hl')
  have HCK := Lib.hid (fun B d W (h : kN.C W B l.length l) => check_calls B d l W h hok (by omega))
  have HRK := Lib.hid (fun W (h : Below w.heap.size w W) => refCheck_calls A c l W (Kd.C_below hC h) hok hc (by omega))
  have HGW := Lib.hid (fun B d W (h : kN.C W B l.length l) => grow_calls B d l W h hok (by omega) hg)
  have HRG := Lib.hid (fun W (h : Below w.heap.size w W) => refGrow_calls A c l w W hC h hok hc (by omega) (by omega) hg)
  have HFI := Lib.hid (fun e m (h : GrowSpec l e m) => spec_fine l hok e m h)
  have HSP := Lib.hid (fun (m : List Nd) A1 B1 c1 d1 W ok (e : Int) (hg : GrowSpec l e m) (h1 : kN.C W A1 m.length m) (h2 : kN.C W B1 m.length m) (h3 : m.length ≤ c1) (h4 : m.length ≤ d1) (h5 : NRow W ok A1 (m.map (fun x => x.f2.length))) => spoilt_calls A1 B1 c1 d1 m W ok h1 h2 h3 h4 (spec_fine l hok e m hg).1 (by have := (spec_fine l hok e m hg).2; omega) h5)
  have HSM := Lib.hid (fun B d W (h1 : kN.C W B l.length l) (h2 : kN.C W A l.length l) (h3 : l.length ≤ d) => refSame_calls B A d c l l W h1 h2 h3 hc hok hok (by omega))
  rw [sameB_refl] at HSM
  have HSO := Lib.hid (fun W (h : Below w.heap.size w W) => refSame_calls A A' c c' l o W (Kd.C_below hC h) (Kd.C_below hC' h) hc hc' hok hok' (by omega))
  have HTO := Lib.hid (fun B D d q W (h1 : kN.C W B l.length l) (h2 : kN.C W D o.length o) => same_calls B D d q l o W h1 h2 hok hok' (by omega) (by omega))
  have HTS := Lib.hid (fun B D d q W (h1 : kN.C W B l.length l) (h2 : kN.C W D l.length l) => same_calls B D d q l l W h1 h2 hok hok (by omega) (by omega))
  rw [sameB_refl] at HTS
  have HNM := Lib.hid (fun W => Pnames.hamperlaw18_names.calls true W rfl)
  have HC := Lib.hid hC
  have HON := Lib.hid (spec_one l)
  unfold GrowPost at HRG
  clear hC hok hC' hok' hg
  generalize (chk l).1 = at_ at *
  generalize (chk l).2 = er at *
  generalize sameB l o = sb at *
  have tok1 : True := trivial
  have tok2 : True := trivial
  have tok3 : True := trivial
  go_enter Tryd.func5, Tryd.ntmps5
  go_wp2_with (first
    | (go_at_call 7; have _t := tok1; with_reducible refine (HL.out _ (Below.refl _ _)).mono ?_; rintro e w1 ⟨B, d, rfl, hd, hC1, hb1⟩; have HC1 := Lib.hid hC1; have HB1 := Lib.hid hb1; have HD := Lib.hid hd; clear hC1 hb1 hd tok1)
    | (go_at_call 15; refine (HCK.out _ _ _ HC1.out).mono ?_; rintro e w2 ⟨rfl, hb2⟩; have HC2 := Lib.hid (Kd.C_below HC1.out hb2); have HW2 := Lib.hid (bgo HB1.out hb2); have H12 := Lib.hid hb2; clear hb2)
    | (go_at_call 16; refine (HRK.out _ HW2.out).mono ?_; rintro e w3 ⟨rfl, hb3⟩; have HC3 := Lib.hid (Kd.C_below HC2.out hb3); have HW3 := Lib.hid (bgo HW2.out hb3); have H13 := Lib.hid (bgo H12.out hb3); clear hb3)
    | (go_at_call 17; have _t := tok2; with_reducible refine (HGW.out _ _ _ HC3.out).mono ?_; rintro e w4 ⟨vx, e0, m, rfl, hRx, hb4, hsx⟩; have HSX := Lib.hid hsx; have HRX := Lib.hid (own_from hRx); obtain ⟨A1, c1, rfl, hc1, _⟩ := Kd.R_reads hRx; have HB4 := Lib.hid hb4; have HC4 := Lib.hid (Kd.C_below HC3.out hb4); have HW4 := Lib.hid (bgo HW3.out hb4); have HCX := Lib.hid hc1; have H14 := Lib.hid (bgo H13.out hb4); clear hRx hb4 tok2 hc1 hsx)
    | (go_at_call 17; with_reducible refine (HGW.out _ _ _ HC4.out).mono ?_; rintro e w5 ⟨vy, e1, m1, rfl, hRy, hb5, hsy⟩; obtain ⟨rfl, rfl⟩ := HON.out _ _ _ _ HSX.out hsy; have HRY := Lib.hid (own_from hRy); obtain ⟨A2, c2, rfl, hc2, _⟩ := Kd.R_reads hRy; have HB5 := Lib.hid hb5; have HW5 := Lib.hid (bgo HW4.out hb5); have HCY := Lib.hid hc2; have H15 := Lib.hid (bgo H14.out hb5); clear hRy hb5 hc2 hsy)
    | (go_at_call 18; with_reducible refine (HRG.out _ HW5.out).mono ?_; rintro e w6 ⟨vz, e2, m2, rfl, hRz, hb6, hsz⟩; obtain ⟨rfl, rfl⟩ := HON.out _ _ _ _ HSX.out hsz; have HRZ := Lib.hid (own_from hRz); obtain ⟨A3, c3, rfl, hc3, _⟩ := Kd.R_reads hRz; have HB6 := Lib.hid hb6; have HW6 := Lib.hid (bgo HW5.out hb6); have HCZ := Lib.hid hc3; have H16 := Lib.hid (bgo H15.out hb6); clear hRz hb6 hc3 hsz)
    | (go_at_call 10; have _t := tok3; have HX6 := Lib.hid (Kd.R_below HRX.out (bgo HB5.out HB6.out)); have HZ6 := Lib.hid (fixed_C (Kd.R_reads' HRZ.out).2.2 HW6.out); with_reducible refine (HSP.out _ _ _ _ _ _ (fun q => w3.heap.size ≤ q ∧ q < w4.heap.size) _ HSX.out (Kd.R_reads' HX6.out).2.2 HZ6.out HCX.out HCZ.out (nrow_of HX6.out)).mono ?_; rintro e w7 ⟨rfl, hg7⟩; have HG7 := Lib.hid hg7; clear hg7 tok3; have HY7 := Lib.hid (Kd.R_step (Kd.R_below HRY.out HB6.out) (w1 := w7) (fun q hq hlt => HG7.out.block q hlt (fun k => by omega))); have HZ7 := Lib.hid (Kd.R_step HRZ.out (w1 := w7) (fun q hq hlt => HG7.out.block q hlt (fun k => by have := HB5.out.size; omega))); have HW7 := Lib.hid (chg_C HC.out HW6.out HG7.out (fun q k => by have := HW3.out.size; omega)).2; have HC7 := Lib.hid (chg_C HC1.out H16.out HG7.out (fun q k => by have := H13.out.size; omega)).2; clear HX6 HZ6)
    | (go_at_call 10; with_reducible refine (HSP.out _ _ _ _ _ _ (fun q => w4.heap.size ≤ q ∧ q < w5.heap.size) _ HSX.out (Kd.R_reads' HY7.out).2.2 (fixed_C (Kd.R_reads' HZ7.out).2.2 HW7.out) HCY.out HCZ.out (nrow_of HY7.out)).mono ?_; rintro e w8 ⟨rfl, hg8⟩; have HG8 := Lib.hid hg8; clear hg8; have HW8 := Lib.hid (chg_C HC.out HW7.out HG8.out (fun q k => by have := HW4.out.size; omega)).2; have HC8 := Lib.hid (chg_C HC1.out HC7.out HG8.out (fun q k => by have := H14.out.size; omega)).1)
    | (go_at_call 12; have _t := HC8; with_reducible refine (HSM.out _ _ _ HC8.out (Kd.C_below HC.out HW8.out) HD.out).mono ?_; rintro e w9 ⟨rfl, hb9⟩; have HC9 := Lib.hid (Kd.C_below HC8.out hb9); have HW9 := Lib.hid (bgo HW8.out hb9); clear hb9)
    | (go_at_call 7; with_reducible refine (HLO.out _ HW9.out).mono ?_; rintro e w10 ⟨B', d', rfl, hd', hC10', hb10⟩; have HCO := Lib.hid hC10'; have HC10 := Lib.hid (Kd.C_below HC9.out hb10); have HW10 := Lib.hid (bgo HW9.out hb10); clear hC10' hb10 hd')
    | (go_at_call 14; with_reducible refine (HTO.out _ _ _ _ _ HC10.out HCO.out).mono ?_; rintro e w11 ⟨rfl, hb11⟩; have HC11 := Lib.hid (Kd.C_below HC10.out hb11); have HW11 := Lib.hid (bgo HW10.out hb11); clear hb11)
    | (go_at_call 12; with_reducible refine (HSO.out _ HW11.out).mono ?_; rintro e w12 ⟨rfl, hb12⟩; have HC12 := Lib.hid (Kd.C_below HC11.out hb12); have HW12 := Lib.hid (bgo HW11.out hb12); clear hb12)
    | (go_at_call 7; with_reducible refine (HL.out _ HW12.out).mono ?_; rintro e w13 ⟨B'', d'', rfl, hd'', hC13', hb13⟩; have HCL := Lib.hid hC13'; have HC13 := Lib.hid (Kd.C_below HC12.out hb13); have HW13 := Lib.hid (bgo HW12.out hb13); clear hC13' hb13 hd'')
    | (go_at_call 14; with_reducible refine (HTS.out _ _ _ _ _ HC13.out HCL.out).mono ?_; rintro e w14 ⟨rfl, hb14⟩; have HW14 := Lib.hid (bgo HW13.out hb14); clear hb14)
    | (go_at_call 13; refine (HNM.out _).mono ?_; rintro e w15 ⟨rfl, ⟨nd, rfl⟩⟩))
  go_ret
  exact ⟨rfl, bdrewN HW14.out _⟩
end Go.Proofs.YtoiffnoiliknnaaDoor.Tree
set_option linter.unusedVariables false
namespace Go.Proofs.YtoiffnoiliknnaaDoor.Tree
open Go.RowKit Go.Proofs.YtoiffnoiliknnaaDoor.Node
theorem bulk_one {H : Type} (d : DataW H) : 1 ≤ Rows.uptoBulk d := by
  cases d with
  | lit l => cases l <;> simp [Rows.uptoBulk]
  | _ => simp [Rows.uptoBulk]
theorem bulk_len {H : Type} (l : List (DataW H)) : l.length ≤ Rows.uptoBulkAll l := by
  induction l with
  | nil => simp [Rows.uptoBulkAll]
  | cons x r ih => have := bulk_one x; simp only [Rows.uptoBulkAll, List.length_cons]; omega
set_option maxRecDepth 100000 in
theorem nodes_len {H : Type} {enc : TypeId × Value → H} {W : World} {a : Option Addr} {len cap N : Nat} {d : DataW H} {p : List MemPlace} (h : DataW.Trod enc Tryd.prog W 0 (fun _ => true) true 22 (.slice a len cap) d p) (hs : Rows.uptoBulk d ≤ N) : len ≤ N := by
  obtain ⟨fuel, hf⟩ := h
  rcases DataW.trod_slice Tryd.underlying22 hf with ⟨hcs, _⟩ | ⟨x, l, c, elems, rest, n, _, hcs, hx, _, hl, hm, hlen, hel, _, _⟩
  · simp [Value.cells] at hcs
    obtain ⟨rfl, rfl, rfl⟩ := hcs
    omega
  · simp [Value.cells] at hcs
    obtain ⟨rfl, rfl, rfl⟩ := hcs
    obtain ⟨rfl, _⟩ := Prod.mk.inj hx
    have h1 := bulk_len (elems.map (·.1))
    rw [List.length_map] at h1
    simp only [Rows.uptoBulk] at hs
    omega
theorem checks_walk (A : Option Addr) (c : Nat) (l : List Nd) (A' : Option Addr) (c' : Nat) (o : List Nd) (w : World) (hc : l.length ≤ c) (hC : kN.C w A l.length l) (hok : ∀ x ∈ l, Ok x) (hl : l.length * 64 ≤ 140737488351232) (hc' : o.length ≤ c') (hC' : kN.C w A' o.length o) (hok' : ∀ x ∈ o, Ok x) (hl' : o.length * 64 ≤ 140737488351232) (hs : l.length ≤ 1048576) (_ : o.length ≤ 1048576) :
    Calls Tryd.prog 5 #[.slice A l.length c, .slice A' o.length c'] w fun e w' => e = .returned (.bool true) ∧ Below w.heap.size w w' :=
  checks_law A c l A' c' o w hc hC hok hl hc' hC' hok' hl' hs
end Go.Proofs.YtoiffnoiliknnaaDoor.Tree
