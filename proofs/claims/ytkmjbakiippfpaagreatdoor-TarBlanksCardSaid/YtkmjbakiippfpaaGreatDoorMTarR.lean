/- TarR, TarSm put together. -/
import Derived.Test.YtkmjbakiippfpaaGreatDoorMTarH
import Derived.Test.YtkmjbakiippfpaaGreatDoorMTarGS
import Derived.Deep.LoopGhost
import Derived.WalkMore
import Derived.Test.YtkmjbakiippfpaaGreatDoorMTree
set_option linter.unusedVariables false
set_option linter.unusedSimpArgs false
namespace Go.Proofs.YtkmjbakiippfpaaGreatDoor.Tar
open Go.RowKit Go.BigFrame Go.Maps Go.Proofs.YtkmjbakiippfpaaGreatDoor.Reg Go.Proofs.YtkmjbakiippfpaaGreatDoor.Rout Go.Proofs.YtkmjbakiippfpaaGreatDoor.Node Go.Proofs.YtkmjbakiippfpaaGreatDoor.Tree Go.Proofs.YtkmjbakiippfpaaGreatDoorW.PrintWords Go.Proofs.YtkmjbakiippfpaaGreatDoorW.PrintLast Go.Proofs.YtkmjbakiippfpaaGreatDoorW.PrintMore
open Go.Proofs.YtkmjbakiippfpaaGreatDoor.Oct (Tz octO)
open Go.Proofs.YtkmjbakiippfpaaGreatDoor.Rec (Laid B)
def ReadPost (l : List Nd) (most : Int) (zl : Nat) (w : World) (e : Ending) (w' : World) : Prop :=
  ∃ v, e = .returned (.tuple #[v, .int .i64 (readE l most zl)]) ∧ kN.R 31 w' w.heap.size (fun _ => True) v (if readE l most zl = 0 then l else []) ∧ Below w.heap.size w w'
/-- Where the reader stands. -/
structure RSt (w0 : World) (l0 : List Nd) (Z : List Int) (most0 : Int) (g : Nat) (done todo : List Nd) (fl : Bool) (w : World) : Prop where
  app : done ++ todo = l0
  used : 0 ≤ most0 - usedN done
  at_ : ∃ b o c ys lv m, RdAt w0 w g b o c ys (most0 - usedN done) lv done m ∧ ((fl = false ∧ m = none ∧ ys = restF todo Z) ∨ (fl = true ∧ ∃ x r, todo = x :: r ∧ Waits w m x ∧ ys = ownF x ++ restF r Z))
theorem kind_120 (x : Nd) : ((hdR x).kind == 120) = false := by
  show (kindN x == 120) = false
  unfold kindN
  by_cases h1 : x.f0 = 1
  · rw [if_pos h1]; rfl
  · rw [if_neg h1]
    by_cases h3 : x.f0 = 3
    · rw [if_pos h3]; rfl
    · rw [if_neg h3]; rfl
set_option maxRecDepth 100000 in
set_option maxHeartbeats 16000000 in
theorem readT_calls (l : List Nd) (hok : ∀ x ∈ l, Ok x) (h0 : (chk l).2 = 0) (Z : List Int) (hZ : zeroB Z = true) (hZ5 : 512 ≤ Z.length) (w : World) (b o c : Nat) (hC : (Kd.int .u8).C w (some ⟨b, o, none⟩) (restF l Z).length (restF l Z)) (hby : ∀ x ∈ restF l Z, 0 ≤ x ∧ x ≤ 255) (hc : (restF l Z).length ≤ c) (hbig : c ≤ 9223372036854775807) (hlenB : (restF l Z).length ≤ 140737488355328)
    (most : Int) (hm0 : 0 ≤ most) (hm1 : most ≤ 268435456) (hL : Laid w) :
    Calls Tryz.prog 8 #[.slice (some ⟨b, o, none⟩) (restF l Z).length c, .int .i64 most] w (ReadPost l most Z.length w) := by
  obtain ⟨wb, hwb⟩ : ∃ wb, wb = w.alloc (.cells #[.slice (some ⟨b, o, none⟩) (restF l Z).length c, .int .i64 most, .slice none 0 0, .map none] 47) := ⟨_, rfl⟩
  have hbb : Below w.heap.size w wb := by rw [hwb]; exact balloc (Below.refl _ _) _
  have hR0 : RdAt w wb w.heap.size b o c (restF l Z) most (.slice none 0 0) [] none := ⟨by rw [hwb]; exact heap_alloc_new _ _, hbb, Nat.le_refl _, hC, hby, hc, hbig, hlenB, [], Kd.R_nil _ _ _ _ _, rfl, fun j r x hr => by simp at hr⟩
  have HS0 := Lib.hid (show RSt w l Z most w.heap.size [] l false wb from ⟨rfl, by show 0 ≤ most - 0; omega, b, o, c, _, _, none, by show RdAt w wb w.heap.size b o c (restF l Z) (most - 0) _ [] none; rw [Int.sub_zero]; exact hR0, .inl ⟨rfl, rfl, rfl⟩⟩)
  have HF := Lib.hid (fine_of h0)
  have HOK := Lib.hid hok
  have HL := Lib.hid hL
  have HZ := Lib.hid hZ
  have HWB := Lib.hid hwb
  have hll := (fine_of h0).len
  have H0 := Lib.hid h0
  obtain ⟨nn, hnn⟩ : ∃ nn, nn = (restF l Z).length := ⟨_, rfl⟩
  rw [← hnn] at HWB
  rw [← hnn]
  clear hC hby hok h0 hL hZ hwb hbb hR0 hc hnn hlenB
  go_enter Tryz.func8, Tryz.ntmps8
  go_wp2
  go_step3
  go_wp2
  go_step3
  go_wp2
  rw [← HWB.out]
  go_loopg [7, 8] (2 * l.length + 1) (fun k _ _ wr => ∃ (done todo : List Nd) (fl : Bool), k = 2 * todo.length + (if fl then 0 else 1) ∧ Hid (RSt w l Z most w.heap.size done todo fl wr))
  case atStart => exact ⟨[], l, false, rfl, HS0⟩
  case round =>
    clear HS0
    obtain ⟨done, todo, fl, hk, HS⟩ := hrel
    obtain ⟨b1, o1, c1, ys, lv, m, hR, hst⟩ := HS.out.at_
    have HAP := Lib.hid HS.out.app
    have hus := HS.out.used
    have hus2 := usedN_nonneg done
    have HK := Lib.hid hk
    have HUL := Lib.hid (show usedN l = usedN done + usedN todo by rw [← HS.out.app, usedN_app])
    have cc0 := hR.c0
    have hcap := hR.cap
    have hbg := hR.big
    have HRA := Lib.hid hR
    have HCW := Lib.hid (Kd.C_below hR.bytes hR.below)
    clear hk HS hR
    have hen : (fl = false ∧ m = none ∧ todo = [] ∧ ys = Z) ∨ (∃ x r, todo = x :: r ∧ fl = false ∧ m = none ∧ saidN x ≠ ⟨#[]⟩ ∧ ys = headB (flatF (paxN x)) ++ (wholeF (bytesOf (saidN x)) ++ (ownF x ++ restF r Z))) ∨ (∃ x r, todo = x :: r ∧ Waits wr m x ∧ ys = headB (flatF (hdN x)) ++ (wholeF (dataN x) ++ restF r Z)) := by
      rcases hst with ⟨h1, h2, h3⟩ | ⟨h1, x, r, h2, h3, h4⟩
      · cases todo with
        | nil => exact .inl ⟨h1, h2, rfl, h3⟩
        | cons x r =>
          have hx : x ∈ l := by rw [← HAP.out]; simp
          by_cases hs : saidN x = ⟨#[]⟩
          · refine .inr (.inr ⟨x, r, rfl, ?_, ?_⟩)
            · rw [h2]
              exact said_nil x (HF.out.size x hx) (HF.out.may x hx) hs
            · rw [h3, restF_cons]
              unfold aheadN ownF
              rw [if_pos hs, List.nil_append, List.append_assoc]
          · refine .inr (.inl ⟨x, r, rfl, h1, h2, hs, ?_⟩)
            rw [h3, restF_cons]
            unfold aheadN
            rw [if_neg hs, List.append_assoc]
      · refine .inr (.inr ⟨x, r, h2, h3, ?_⟩)
        rw [h4]
        unfold ownF
        rw [List.append_assoc]
    clear hst
    rcases hen with ⟨h1, h2, h3, h4⟩ | ⟨x, r, h1, h2, h3, h4, h5⟩ | ⟨x, r, h1, h2, h3⟩
    · subst h1 h2 h3 h4
      obtain rfl : done = l := by have := HAP.out; rwa [List.append_nil] at this
      have ht5 : (ys.take 512).length = 512 := by rw [List.length_take]; omega
      have hbl := blank_calls b1 o1 c1 (ys.take 512) wr (Kd.C_take HCW.out (by omega)) (fun b hb => HRA.out.byte b (List.mem_of_mem_take hb)) (by omega) (by omega) (by omega)
      rw [ht5, zero_mem HZ.out] at hbl
      have HBL := Lib.hid hbl
      have hcut : ∀ W, (Instr.slice 23 (.slice (some ⟨b1, o1, none⟩) ys.length c1) none (some (.int .i64 512)) none).run Tryz.prog W = .ok (.slice (some ⟨b1, o1, none⟩) 512 c1) W := Oct.cutT _ ys.length c1 512 (by omega) hcap
      have HEN := Lib.hid (fun n => end_calls w (wr.drewN n) w.heap.size b1 o1 c1 ys (most - usedN done) lv done (HRA.out.drewN n) HZ.out)
      have hlt5 : ¬ ((ys.length : Nat) : Int) < 512 := by omega
      clear ht5 hbl
      have HE := Lib.hid (show readE done most ys.length = if ys.length < 1024 then 10 else 0 by unfold readE; rw [if_neg (by omega)])
      by_cases hz2 : ys.length < 1024
      · rw [if_pos hz2] at HE HEN
        clear hz2
        go_wp2_with (first | (go_at_call 15; refine HBL.out.mono ?_; rintro e w1 ⟨rfl, q1, rfl⟩) | (go_at_call 19; refine (HEN.out q1).mono ?_; rintro e w2 ⟨rfl, q2, rfl⟩))
        (try simp only [Exit.inBlock, Exit.then, Exit.noGoto_ret])
        go_ret2
        unfold ReadPost
        rw [HE.out]
        exact ⟨_, rfl, by rw [if_neg (by decide)]; exact Kd.R_nil _ _ _ _ _, bdrewN HRA.out.below _⟩
      · rw [if_neg hz2] at HE HEN
        obtain ⟨rs, hrs, hnd⟩ := HRA.out.row
        obtain ⟨A9, c9, hlv⟩ := Kd.R_slice hrs
        subst hlv
        have cc2 : ∀ n, (wr.drewN n).cell? ⟨w.heap.size, 2, none⟩ = some (.slice A9 done.length c9) := fun n => by rw [← hnd.1]; exact (HRA.out.drewN n).c2
        have CC2 := Lib.hid cc2
        have HGW := Lib.hid (fun n => (show Calls Tryz.prog 20 #[.slice A9 done.length c9] (wr.drewN n) (fun e w' => ∃ v, e = .returned (.tuple #[v, .int .i64 0]) ∧ Hid (kN.R 31 w' (wr.drewN n).heap.size (fun _ => True) v done) ∧ Hid (Below (wr.drewN n).heap.size (wr.drewN n) w')) from
          (grow_calls A9 c9 done (wr.drewN n) (nodes_C (Kd.R_below hrs (bdrewN (Below.refl _ _) n)) (hnd.keep (Keep8.below (bdrewN (Below.refl _ _) n)))) HOK.out (by omega) (fun _ => by rw [(grow_self done done (List.Perm.refl _) H0.out).2.1]; omega)).mono fun e w' ⟨v, e0, mm, he, hR9, hb9, hsp⟩ => by
            obtain ⟨rfl, rfl⟩ := (grow_self done done (List.Perm.refl _) H0.out).2.2 e0 mm hsp
            exact ⟨v, he, Lib.hid hR9, Lib.hid hb9⟩))
        have hz3 : ¬ ((ys.length : Nat) : Int) < 1024 := by omega
        clear hrs hnd cc2 hz2
        go_upto_region 15 with (go_at_call 15; refine HBL.out.mono ?_; rintro e w1 ⟨rfl, q1, rfl⟩)
        go_upto_region 18 with (go_at_call 19; refine (HEN.out q1).mono ?_; rintro e w2 ⟨rfl, q2, rfl⟩)
        have c2 := CC2.out (q1 + q2)
        have HG2 := Lib.hid (HGW.out (q1 + q2))
        go_wp2_with (go_at_call 20; refine HG2.out.mono ?_; rintro e w3 ⟨v3, rfl, hR3, hB3⟩)
        (try simp only [Exit.inBlock, Exit.then, Exit.noGoto_ret])
        go_ret2
        unfold ReadPost
        rw [HE.out, if_pos rfl]
        exact ⟨v3, rfl, Kd.R_lower hR3.out HRA.out.below.size, bgo (bdrewN HRA.out.below _) hB3.out⟩
    · subst h1 h2 h3
      have hx : x ∈ l := by rw [← HAP.out]; simp
      have hmay := HF.out.may x hx
      have hval := HF.out.val x hx
      have hok := HOK.out x hx
      have hdl := (may_facts x hmay).2.2.2.2.2.1
      have HV := Lib.hid hval
      have HMY := Lib.hid hmay
      have HBY := Lib.hid hok.by_
      have h512 := headB_512 (paxN x) (fit_pax x (valid_size _ hval) hmay)
      have hwl := whole_len' (bytesOf (saidN x))
      have hrl := restF_len r Z
      have hT : Told ys (paxR x) := by rw [h5]; exact told_pax x hval hmay _ (fun b hb => HRA.out.byte b (by rw [h5]; exact List.mem_append_right _ hb))
      have hyl : ys.length = 512 + ((bytesOf (saidN x)).length + padN (bytesOf (saidN x)).length + ((ownF x).length + (restF r Z).length)) := by rw [h5]; simp only [List.length_append, h512, hwl]
      have hzb := told_blank hT (by show (120 : Int) ≠ 0; decide)
      have HD := Lib.hid (show ys.drop 512 = wholeF (bytesOf (saidN x)) ++ (ownF x ++ restF r Z) by rw [h5, ← h512, List.drop_left])
      have HT := Lib.hid hT
      have ht5 : (ys.take 512).length = 512 := by rw [List.length_take]; omega
      have hbl := blank_calls b1 o1 c1 (ys.take 512) wr (Kd.C_take HCW.out (by omega)) (fun b hb => HRA.out.byte b (List.mem_of_mem_take hb)) (by omega) (by omega) (by omega)
      rw [ht5, hzb] at hbl
      have HBL := Lib.hid hbl
      have hcut : ∀ W, (Instr.slice 23 (.slice (some ⟨b1, o1, none⟩) ys.length c1) none (some (.int .i64 512)) none).run Tryz.prog W = .ok (.slice (some ⟨b1, o1, none⟩) 512 c1) W := Oct.cutT _ ys.length c1 512 (by omega) hcap
      have HRH := Lib.hid (fun n => readHead_calls (some ⟨b1, o1, none⟩) c1 ys (paxR x) (wr.drewN n) (Kd.C_below HCW.out (bdrewN (Below.refl _ _) n)) hcap hT (.inr (.inr (.inr rfl))) (HL.out.below (HRA.out.drewN n).below))
      have hlt5 : ¬ ((ys.length : Nat) : Int) < 512 := by omega
      have HYL := Lib.hid hyl
      have hy5 : 512 < ys.length := by omega
      clear h4 h5 hmay hval hok hwl hT hzb ht5 hbl hyl hrl h512
      go_upto_region 7 with (go_at_call 15; refine HBL.out.mono ?_; rintro e w1 ⟨rfl, q1, rfl⟩)
      have HR1 := Lib.hid (HRA.out.drewN q1)
      have cc1 := HR1.out.c0
      have HRC := Lib.hid (HRH.out q1)
      clear HRA HRH HBL cc0 hcut HCW
      revert HR1 cc1 HRC
      generalize wr.drewN q1 = w1
      intro HR1 cc1 HRC
      go_upto_region 8 with (go_at_call 16; refine HRC.out.mono ?_; rintro e w2 ⟨rfl, hb2⟩; have HB2 := Lib.hid hb2; clear hb2)
      have HB3 := Lib.hid (balloc HB2.out (.cells #[.string (paxR x).name, .string (paxR x).link, .int .i64 (paxR x).mode, .int .i64 (paxR x).size, .int .i64 (paxR x).time, .int .u8 (paxR x).kind] 50))
      have HR3 := Lib.hid (HR1.out.kept HB3.out)
      have HX3 := Lib.hid (show BoxH (w2.alloc (.cells #[.string (paxR x).name, .string (paxR x).link, .int .i64 (paxR x).mode, .int .i64 (paxR x).size, .int .i64 (paxR x).time, .int .u8 (paxR x).kind] 50)) w2.heap.size (paxR x) from heap_alloc_new w2 _)
      have hgx : w.heap.size ≠ w2.heap.size := by have h1 := HR1.out.glt; have h2 := HB2.out.size; omega
      clear HR1 cc1 HRC HB2
      revert HR3 HX3
      generalize w2.alloc (.cells #[.string (paxR x).name, .string (paxR x).link, .int .i64 (paxR x).mode, .int .i64 (paxR x).size, .int .i64 (paxR x).time, .int .u8 (paxR x).kind] 50) = w3
      intro HR3 HX3
      have cc3 := HR3.out.c0
      have zz3 := HR3.out.free 0
      have hcutF : ∀ W, (Instr.slice 23 (.slice (some ⟨b1, o1, none⟩) ys.length c1) (some (.int .i64 512)) none none).run Tryz.prog W = .ok (.slice (some ⟨b1, o1 + 512, none⟩) (ys.length - 512) (c1 - 512)) W := fun W => by
        have h1 := Oct.cutF (some ⟨b1, o1, none⟩) ys.length c1 512 (by omega) W
        rw [if_neg (by omega)] at h1
        exact h1
      have HR4 := Lib.hid (HR3.out.next 512 hy5)
      have HX4 := Lib.hid (HX3.out.other (i := 0) hgx (.slice (some ⟨b1, o1 + 512, none⟩) (ys.length - 512) (c1 - 512)))
      go_upto_region 10 with (fail)
      clear cc3 zz3 hcutF HR3 HX3 HB3
      rw [HD.out] at HR4
      revert HR4 HX4
      generalize w3.setCell ⟨w.heap.size, 0, none⟩ (.slice (some ⟨b1, o1 + 512, none⟩) (ys.length - 512) (c1 - 512)) = w4
      intro HR4 HX4
      have y0 := HX4.out.c0
      have y1 := HX4.out.c1
      have y2 := HX4.out.c2
      have y3 := HX4.out.c3
      have y4 := HX4.out.c4
      have y5 := HX4.out.c5
      have hk120 : ((paxR x).kind == 120) = true := rfl
      have hsz := said_size x (valid_size _ HV.out) HMY.out
      have hbl2 : (bytesOf (saidN x)).length ≤ 2200 := by rw [bytesOf_length]; exact hsz.1
      have HES := Lib.hid (saidR_calls w w4 w.heap.size b1 (o1 + 512) (c1 - 512) (wholeF (bytesOf (saidN x)) ++ (ownF x ++ restF r Z)) (most - usedN done) lv done HR4.out (bytesOf (saidN x)).length (by rw [List.length_append, List.length_append, whole_len']; have := restF_len r Z; omega) (by omega) (pairsN x) (by rw [whole_take, str_back]; exact pairs_saids x (valid_size _ HV.out) HMY.out) (by have := pairs_len x; omega) (pairs_fine x HMY.out (valid_size _ HV.out)) (pairs_look x).2.2.2 (paxR x) (by rw [bytesOf_length]; rfl) HL.out)
      clear hsz
      go_wp2_with (go_at_call 17; refine HES.out.mono ?_; rintro e w5 ⟨mb, rfl, hR5, hT5, hmb5⟩)
      rw [whole_drop] at hR5
      have HS5 := Lib.hid (show RSt w l Z most w.heap.size done (x :: r) true w5 from ⟨HAP.out, hus, _, _, _, _, lv, some mb, hR5, .inr ⟨rfl, x, r, rfl, ⟨_, hT5⟩, rfl⟩⟩)
      clear hR5 hT5
      go_roundg (2 * (x :: r).length)
      case rel => exact ⟨done, x :: r, true, rfl, HS5⟩
      case measure =>
        have := HK.out
        rw [this]
        exact Nat.lt_succ_self _
    · subst h1
      have hx : x ∈ l := by rw [← HAP.out]; simp
      have hmay := HF.out.may x hx
      have hval := HF.out.val x hx
      have hok := HOK.out x hx
      have hdl := (may_facts x hmay).2.2.2.2.2.1
      have HV := Lib.hid hval
      have HMY := Lib.hid hmay
      have HBY := Lib.hid hok.by_
      have h512 := headB_512 (hdN x) (fit_hd x (valid_size _ hval) hmay)
      have hwl := whole_len' (dataN x)
      have hrl := restF_len r Z
      have hT : Told ys (hdR x) := by rw [h3]; exact told_own x hval hmay hok.by_ _ (fun b hb => HRA.out.byte b (by rw [h3]; exact List.mem_append_right _ hb))
      have hyl : ys.length = 512 + ((dataN x).length + padN (dataN x).length + (restF r Z).length) := by rw [h3]; simp only [List.length_append, h512, hwl]
      have hzb := told_blank hT (by show kindN x ≠ 0; rcases kind_cases x with e | e | e | e <;> rw [e] <;> decide)
      have HD := Lib.hid (show ys.drop 512 = wholeF (dataN x) ++ restF r Z by rw [h3, ← h512, List.drop_left])
      have HW := Lib.hid h2
      have HT := Lib.hid hT
      have ht5 : (ys.take 512).length = 512 := by rw [List.length_take]; omega
      have hbl := blank_calls b1 o1 c1 (ys.take 512) wr (Kd.C_take HCW.out (by omega)) (fun b hb => HRA.out.byte b (List.mem_of_mem_take hb)) (by omega) (by omega) (by omega)
      rw [ht5, hzb] at hbl
      have HBL := Lib.hid hbl
      have hcut : ∀ W, (Instr.slice 23 (.slice (some ⟨b1, o1, none⟩) ys.length c1) none (some (.int .i64 512)) none).run Tryz.prog W = .ok (.slice (some ⟨b1, o1, none⟩) 512 c1) W := Oct.cutT _ ys.length c1 512 (by omega) hcap
      have HRH := Lib.hid (fun n => readHead_calls (some ⟨b1, o1, none⟩) c1 ys (hdR x) (wr.drewN n) (Kd.C_below HCW.out (bdrewN (Below.refl _ _) n)) hcap hT (kind_cases x) (HL.out.below (HRA.out.drewN n).below))
      have hlt5 : ¬ ((ys.length : Nat) : Int) < 512 := by omega
      have HYL := Lib.hid hyl
      have hy5 : 512 < ys.length := by omega
      clear h2 h3 hmay hval hok hwl hT hzb ht5 hbl hyl hrl h512
      go_upto_region 7 with (go_at_call 15; refine HBL.out.mono ?_; rintro e w1 ⟨rfl, q1, rfl⟩)
      have HR1 := Lib.hid (HRA.out.drewN q1)
      have HW1 := Lib.hid (show Waits (wr.drewN q1) m x by
        have hwt := HW.out
        cases m with
        | none => exact hwt
        | some mb => obtain ⟨n, hT⟩ := hwt; exact ⟨n, hT.below (bdrewN (Below.refl _ _) q1)⟩)
      have cc1 := HR1.out.c0
      have HRC := Lib.hid (HRH.out q1)
      clear HRA HW HRH HBL cc0 hcut HCW
      revert HR1 HW1 cc1 HRC
      generalize wr.drewN q1 = w1
      intro HR1 HW1 cc1 HRC
      go_upto_region 8 with (go_at_call 16; refine HRC.out.mono ?_; rintro e w2 ⟨rfl, hb2⟩; have HB2 := Lib.hid hb2; clear hb2)
      have HB3 := Lib.hid (balloc HB2.out (.cells #[.string (hdR x).name, .string (hdR x).link, .int .i64 (hdR x).mode, .int .i64 (hdR x).size, .int .i64 (hdR x).time, .int .u8 (hdR x).kind] 50))
      have HR3 := Lib.hid (HR1.out.kept HB3.out)
      have HX3 := Lib.hid (show BoxH (w2.alloc (.cells #[.string (hdR x).name, .string (hdR x).link, .int .i64 (hdR x).mode, .int .i64 (hdR x).size, .int .i64 (hdR x).time, .int .u8 (hdR x).kind] 50)) w2.heap.size (hdR x) from heap_alloc_new w2 _)
      have HW3 := Lib.hid (show Waits (w2.alloc (.cells #[.string (hdR x).name, .string (hdR x).link, .int .i64 (hdR x).mode, .int .i64 (hdR x).size, .int .i64 (hdR x).time, .int .u8 (hdR x).kind] 50)) m x by
        have hwt := HW1.out
        cases m with
        | none => exact hwt
        | some mb => obtain ⟨n, hT⟩ := hwt; exact ⟨n, hT.below HB3.out⟩)
      have hgx : w.heap.size ≠ w2.heap.size := by have h1 := HR1.out.glt; have h2 := HB2.out.size; omega
      clear HR1 HW1 cc1 HRC HB2
      revert HR3 HX3 HW3
      generalize w2.alloc (.cells #[.string (hdR x).name, .string (hdR x).link, .int .i64 (hdR x).mode, .int .i64 (hdR x).size, .int .i64 (hdR x).time, .int .u8 (hdR x).kind] 50) = w3
      intro HR3 HX3 HW3
      have cc3 := HR3.out.c0
      have zz3 := HR3.out.free 0
      have hcutF : ∀ W, (Instr.slice 23 (.slice (some ⟨b1, o1, none⟩) ys.length c1) (some (.int .i64 512)) none none).run Tryz.prog W = .ok (.slice (some ⟨b1, o1 + 512, none⟩) (ys.length - 512) (c1 - 512)) W := fun W => by
        have h1 := Oct.cutF (some ⟨b1, o1, none⟩) ys.length c1 512 (by omega) W
        rw [if_neg (by omega)] at h1
        exact h1
      have HR4 := Lib.hid (HR3.out.next 512 hy5)
      have HX4 := Lib.hid (HX3.out.other (i := 0) hgx (.slice (some ⟨b1, o1 + 512, none⟩) (ys.length - 512) (c1 - 512)))
      have HW4 := Lib.hid (show Waits (w3.setCell ⟨w.heap.size, 0, none⟩ (.slice (some ⟨b1, o1 + 512, none⟩) (ys.length - 512) (c1 - 512))) m x by
        have hwt := HW3.out
        cases m with
        | none => exact hwt
        | some mb => obtain ⟨n, hT⟩ := hwt; exact ⟨n, hT.kept (heap_setCell_other _ ⟨w.heap.size, 0, none⟩ mb _ (fun e => hT.noCells _ _ _ (by rw [e]; exact HR3.out.head)))⟩)
      go_upto_region 10 with (fail)
      clear cc3 zz3 hcutF HR3 HX3 HW3 HB3
      rw [HD.out] at HR4
      revert HR4 HX4 HW4
      generalize w3.setCell ⟨w.heap.size, 0, none⟩ (.slice (some ⟨b1, o1 + 512, none⟩) (ys.length - 512) (c1 - 512)) = w4
      intro HR4 HX4 HW4
      have y0 := HX4.out.c0
      have y1 := HX4.out.c1
      have y2 := HX4.out.c2
      have y3 := HX4.out.c3
      have y4 := HX4.out.c4
      have y5 := HX4.out.c5
      have hk120 : ((hdR x).kind == 120) = false := kind_120 x
      by_cases hbg2 : most - usedN done < ((dataN x).length : Nat)
      · have HEB := Lib.hid (entryR_big x w4 w.heap.size (most - usedN done) HR4.out.c1 HMY.out hbg2 hus)
        have HE3 := Lib.hid (show readE l most Z.length = 3 by
          unfold readE
          rw [if_pos]
          rw [HUL.out]
          have h1 := usedN_nonneg r
          have h2 : usedN (x :: r) = ((dataN x).length : Nat) + usedN r := by unfold usedN; simp
          omega)
        go_wp2_with (go_at_call 18; refine HEB.out.mono ?_; rintro e w5 ⟨rfl, hb5⟩)
        (try simp only [Exit.inBlock, Exit.then, Exit.noGoto_ret])
        go_ret2
        unfold ReadPost
        rw [HE3.out]
        exact ⟨_, rfl, by rw [if_neg (by decide)]; exact Kd.R_nil _ _ _ _ _, bgo HR4.out.below hb5⟩
      · have HEO := Lib.hid (entryR_ok x HV.out HMY.out HBY.out w w4 w.heap.size b1 (o1 + 512) (c1 - 512) (wholeF (dataN x) ++ restF r Z) (most - usedN done) lv done m HR4.out HW4.out (by rw [List.length_append, whole_len']; have := restF_len r Z; omega) (whole_take _ _) (by omega) (by omega) (by have := HAP.out; have h2 := congrArg List.length this; rw [List.length_append] at h2; omega) HL.out)
        go_wp2_with (go_at_call 18; refine HEO.out.mono ?_; rintro e w5 ⟨lv5, rfl, hR5⟩)
        rw [whole_drop] at hR5
        have HS5 := Lib.hid (show RSt w l Z most w.heap.size (done ++ [x]) r false w5 from ⟨by rw [← HAP.out]; simp, by rw [usedN_snoc]; omega, _, _, _, _, lv5, none, by rw [usedN_snoc, ← Int.sub_sub]; exact hR5, .inl ⟨rfl, rfl, rfl⟩⟩)
        clear hR5
        go_roundg (2 * r.length + 1)
        case rel => exact ⟨done ++ [x], r, false, rfl, HS5⟩
        case measure =>
          have := HK.out
          rw [this]
          simp only [List.length_cons]
          split <;> omega
end Go.Proofs.YtkmjbakiippfpaaGreatDoor.Tar
set_option linter.unusedVariables false
set_option linter.unusedSimpArgs false
namespace Go.Proofs.YtkmjbakiippfpaaGreatDoor.Tree
open Go.RowKit Go.BigFrame Go.Maps Go.Proofs.YtkmjbakiippfpaaGreatDoor.Reg Go.Proofs.YtkmjbakiippfpaaGreatDoor.Rout Go.Proofs.YtkmjbakiippfpaaGreatDoor.Node Go.Proofs.YtkmjbakiippfpaaGreatDoorW.PrintWords Go.Proofs.YtkmjbakiippfpaaGreatDoorW.PrintLast Go.Proofs.YtkmjbakiippfpaaGreatDoorW.PrintMore
def oneB (x y : Nd) : Bool := (x.f0 == y.f0) && (x.f1.toList == y.f1.toList) && (x.f2 == y.f2) && (x.f3 == y.f3) && (x.f4 == y.f4)
def sameB : List Nd → List Nd → Bool
  | [], [] => true
  | x :: r, y :: q => oneB x y && sameB r q
  | _, _ => false
theorem bytes_eq : ∀ xs ys : List Int, (∀ b ∈ xs, 0 ≤ b ∧ b ≤ 255) → (∀ b ∈ ys, 0 ≤ b ∧ b ≤ 255) → (Lib.bytesOf xs == Lib.bytesOf ys) = (xs == ys)
  | [], [], _, _ => rfl
  | [], b :: r, _, _ => rfl
  | a :: r, [], _, _ => rfl
  | a :: r, b :: q, hx, hy => by
    have ih := bytes_eq r q (fun c hc => hx c (by simp [hc])) (fun c hc => hy c (by simp [hc]))
    have ha := hx a (by simp)
    have hb := hy b (by simp)
    have e1 : Lib.bytesOf (a :: r) = a.toNat.toUInt8 :: Lib.bytesOf r := rfl
    have e2 : Lib.bytesOf (b :: q) = b.toNat.toUInt8 :: Lib.bytesOf q := rfl
    rw [e1, e2]
    show ((a.toNat.toUInt8 == b.toNat.toUInt8) && (Lib.bytesOf r == Lib.bytesOf q)) = ((a == b) && (r == q))
    rw [ih]
    congr 1
    rw [Bool.eq_iff_iff, beq_iff_eq, beq_iff_eq]
    constructor
    · intro h
      have := congrArg UInt8.toNat h
      simp at this
      omega
    · rintro rfl; rfl
theorem bytesIn {w : World} {A : Option Addr} {xs : List Int} (h : (Kd.int .u8).C w A xs.length xs) : Lib.BytesIn w A xs.length xs := by
  cases A with
  | none =>
    intro hn
    obtain ⟨ad, he, _⟩ := Kd.at_int h 0 (by omega) (by omega)
    cases he
  | some ad =>
    refine Lib.BytesIn.of_cells (fun i hi => ?_)
    obtain ⟨ad2, hA2, hx2⟩ := Kd.at_int h (i : Int) (by omega) (by omega)
    obtain rfl := Option.some.inj hA2
    rw [Int.toNat_natCast] at hx2
    rw [hx2]
    unfold rd
    rw [Int.toNat_natCast]
set_option maxHeartbeats 8000000 in
theorem one_calls (x y : Nd) (A B : Option Addr) (c d : Nat) (w : World) (hA : (Kd.int .u8).C w A x.f2.length x.f2) (hB : (Kd.int .u8).C w B y.f2.length y.f2) (hx : Ok x) (hy : Ok y) :
    Calls Tryz.prog 22 #[.agg #[.int .i64 x.f0, .string x.f1, .slice A x.f2.length c, .int .i64 x.f3, .int .i64 x.f4], .agg #[.int .i64 y.f0, .string y.f1, .slice B y.f2.length d, .int .i64 y.f3, .int .i64 y.f4]] w fun e w' => e = .returned (.bool (oneB x y)) ∧ Below w.heap.size w w' := by
  have HE := Lib.hid (show oneB x y = ((x.f0 == y.f0) && (x.f1.toList == y.f1.toList) && (x.f2 == y.f2) && (x.f3 == y.f3) && (x.f4 == y.f4)) from rfl)
  have hbe := bytes_eq x.f2 y.f2 hx.by_ hy.by_
  have HC := Lib.hid (fun W (h : Below w.heap.size w W) => Tryz.bytes_Equal_all A B x.f2.length c y.f2.length d x.f2 y.f2 W rfl rfl (bytesIn (Kd.C_below hA h)) (bytesIn (Kd.C_below hB h)))
  rw [hbe] at HC
  clear hA hB hx hy hbe
  cases h0 : (x.f0 == y.f0)
  · have hE := Lib.hid (show oneB x y = false by rw [HE.out, h0]; rfl)
    go_enter Tryz.func22, Tryz.ntmps22
    go_wp2
    go_ret
    exact ⟨ret_bool (by first | exact hE.out.symm | (rw [hE.out]; simp)), by repeat (first | with_reducible exact Below.refl _ _ | apply balloc)⟩
  cases h1 : (x.f1.toList == y.f1.toList)
  · have hE := Lib.hid (show oneB x y = false by rw [HE.out, h1]; simp)
    go_enter Tryz.func22, Tryz.ntmps22
    go_wp2
    go_ret
    exact ⟨ret_bool (by first | exact hE.out.symm | (rw [hE.out]; simp)), by repeat (first | with_reducible exact Below.refl _ _ | apply balloc)⟩
  cases h2 : (x.f2 == y.f2)
  · rw [h2] at HC
    have hE := Lib.hid (show oneB x y = false by rw [HE.out, h2]; simp)
    go_enter Tryz.func22, Tryz.ntmps22
    go_wp2_with (go_at_call 23; refine (HC.out _ (by repeat (first | with_reducible exact Below.refl _ _ | apply balloc))).mono ?_; rintro e1 w1 ⟨rfl, rfl⟩)
    go_ret
    exact ⟨ret_bool (by first | exact hE.out.symm | (rw [hE.out]; simp)), by repeat (first | with_reducible exact Below.refl _ _ | apply balloc)⟩
  rw [h2] at HC
  cases h3 : (x.f3 == y.f3)
  · have hE := Lib.hid (show oneB x y = false by rw [HE.out, h3]; simp)
    go_enter Tryz.func22, Tryz.ntmps22
    go_wp2_with (go_at_call 23; refine (HC.out _ (by repeat (first | with_reducible exact Below.refl _ _ | apply balloc))).mono ?_; rintro e1 w1 ⟨rfl, rfl⟩)
    go_ret
    exact ⟨ret_bool (by first | exact hE.out.symm | (rw [hE.out]; simp)), by repeat (first | with_reducible exact Below.refl _ _ | apply balloc)⟩
  cases h4 : (x.f4 == y.f4)
  · have hE := Lib.hid (show oneB x y = false by rw [HE.out, h4]; simp)
    go_enter Tryz.func22, Tryz.ntmps22
    go_wp2_with (go_at_call 23; refine (HC.out _ (by repeat (first | with_reducible exact Below.refl _ _ | apply balloc))).mono ?_; rintro e1 w1 ⟨rfl, rfl⟩)
    go_ret
    exact ⟨ret_bool (by first | exact hE.out.symm | (rw [hE.out]; simp)), by repeat (first | with_reducible exact Below.refl _ _ | apply balloc)⟩
  · have hE := Lib.hid (show oneB x y = true by rw [HE.out, h0, h1, h2, h3, h4]; rfl)
    go_enter Tryz.func22, Tryz.ntmps22
    go_wp2_with (go_at_call 23; refine (HC.out _ (by repeat (first | with_reducible exact Below.refl _ _ | apply balloc))).mono ?_; rintro e1 w1 ⟨rfl, rfl⟩)
    go_ret
    exact ⟨ret_bool (by first | exact hE.out.symm | (rw [hE.out]; simp)), by repeat (first | with_reducible exact Below.refl _ _ | apply balloc)⟩
theorem sameB_len : ∀ xs ys : List Nd, xs.length ≠ ys.length → sameB xs ys = false
  | [], [], h => absurd rfl h
  | [], _ :: _, _ => rfl
  | _ :: _, [], _ => rfl
  | x :: r, y :: q, h => by
    show (oneB x y && sameB r q) = false
    rw [sameB_len r q (by simpa using h), Bool.and_false]
theorem sameB_drop (xs ys : List Nd) (k : Nat) (h : k < xs.length) (h2 : k < ys.length) : sameB (xs.drop k) (ys.drop k) = (oneB (rdN xs k) (rdN ys k) && sameB (xs.drop (k + 1)) (ys.drop (k + 1))) := by
  rw [List.drop_eq_getElem_cons h, List.drop_eq_getElem_cons h2]
  have e1 : rdN xs (k : Int) = xs[k] := by unfold rdN; rw [Int.toNat_natCast, List.getD_eq_getElem?_getD, List.getElem?_eq_getElem h]; rfl
  have e2 : rdN ys (k : Int) = ys[k] := by unfold rdN; rw [Int.toNat_natCast, List.getD_eq_getElem?_getD, List.getElem?_eq_getElem h2]; rfl
  rw [e1, e2]
  rfl
set_option maxRecDepth 100000 in
set_option maxHeartbeats 8000000 in
theorem equal_calls (A B : Option Addr) (c d : Nat) (xs ys : List Nd) (w : World) (hA : kN.C w A xs.length xs) (hB : kN.C w B ys.length ys) (hx : ∀ x ∈ xs, Ok x) (hy : ∀ y ∈ ys, Ok y) (lx : xs.length ≤ 140737488351232) (ly : ys.length ≤ 140737488351232) :
    Calls Tryz.prog 21 #[.slice A xs.length c, .slice B ys.length d, .func (.func 22) #[] #[]] w fun e w' => e = .returned (.bool (sameB xs ys)) ∧ Below w.heap.size w w' := by
  by_cases hne : xs.length = ys.length
  · have HA := Lib.hid hA
    have HB := Lib.hid hB
    have HX := Lib.hid hx
    have HY := Lib.hid hy
    have HL := Lib.hid hne
    have hn2 : ((xs.length : Int) != (ys.length : Int)) = false := by simp; omega
    clear hA hB hx hy hne
    go_enter Tryz.func21, Tryz.ntmps21
    go_wp2
    go_loopw [7, 8, 9, 17] (fun _ _ _ i wr => ∃ k : Nat, i = .int .i64 k ∧ k ≤ xs.length ∧ Hid (sameB (xs.drop k) (ys.drop k) = sameB xs ys) ∧ Below w.heap.size w wr) (fun _ _ _ i _ => (xs.length - intOf i).toNat)
    case atStart => exact ⟨0, rfl, by omega, Lib.hid rfl, Below.refl _ _⟩
    case round =>
      obtain ⟨k, rfl, hk, he, hb⟩ := hrel
      by_cases hlt : k < xs.length
      · have hlt2 : k < ys.length := by have := HL.out; omega
        obtain ⟨ad, A2, c2, hA', a0, a1, a2, a3, a4, _, hd⟩ := atN (Kd.C_below HA.out hb) (k : Int) (by omega) (by omega)
        subst hA'
        obtain ⟨ad2, B2, d2, hB', b0, b1, b2, b3, b4, _, hd2⟩ := atN (Kd.C_below HB.out hb) (k : Int) (by omega) (by omega)
        subst hB'
        rw [Int.toNat_natCast] at a0 a1 a2 a3 a4 b0 b1 b2 b3 b4
        have hs := Lib.hid (sameB_drop xs ys k hlt hlt2)
        have hxb := World.block_lt_of_cell? wr _ b0
        have hyb := World.block_lt_of_cell? wr _ b1
        have HO := Lib.hid (fun W (h : Below wr.heap.size wr W) => one_calls (rdN xs (k : Int)) (rdN ys (k : Int)) A2 B2 c2 d2 W (Kd.C_below hd h) (Kd.C_below hd2 h) (HX.out _ (rdN_mem xs k hlt)) (HY.out _ (rdN_mem ys k hlt2)))
        clear hd hd2
        generalize rdN xs (k : Int) = x at *
        generalize rdN ys (k : Int) = y at *
        have k0 : (0 : Int) ≤ (k : Int) := by omega
        have k1 : (k : Int) < xs.length := by omega
        have k2 : (k : Int) < ys.length := by omega
        cases h1 : oneB x y
        · have HR := Lib.hid (show sameB xs ys = false by rw [← he.out, hs.out, h1]; rfl)
          rw [h1] at HO
          clear he hs h1
          go_wp2_with (go_at_call 22; refine (HO.out _ (by repeat (first | with_reducible exact Below.refl _ _ | apply balloc))).mono ?_; rintro e w1 ⟨rfl, hb1⟩)
          go_ret
          exact ⟨ret_bool HR.out.symm, bgo hb (bgo (balloc (balloc (Below.refl _ _) _) _) hb1)⟩
        · have HR := Lib.hid (show sameB (xs.drop (k + 1)) (ys.drop (k + 1)) = sameB xs ys by rw [← he.out, hs.out, h1]; rfl)
          rw [h1] at HO
          clear he hs h1
          go_wp2_with (go_at_call 22; refine (HO.out _ (by repeat (first | with_reducible exact Below.refl _ _ | apply balloc))).mono ?_; rintro e w1 ⟨rfl, hb1⟩; have HB1 := Lib.hid (bgo hb (bgo (balloc (balloc (Below.refl _ _) _) _) hb1)); clear hb1)
          go_roundw
          case rel => exact ⟨k + 1, by go_num, by omega, HR, HB1.out⟩
          case measure => simp [intOf]; omega
      · have HR := Lib.hid (show sameB xs ys = true by rw [← he.out, List.drop_of_length_le (by omega), List.drop_of_length_le (by have := HL.out; omega)]; rfl)
        clear he
        go_wp2
        go_ret
        exact ⟨ret_bool HR.out.symm, hb⟩
  · have HR := Lib.hid (sameB_len xs ys hne)
    have hn2 : ((xs.length : Int) != (ys.length : Int)) = true := by simp; omega
    clear hA hB hx hy hne
    go_enter Tryz.func21, Tryz.ntmps21
    go_wp2
    go_ret
    exact ⟨ret_bool HR.out.symm, Below.refl _ _⟩
theorem same_calls (A B : Option Addr) (c d : Nat) (xs ys : List Nd) (w : World) (hA : kN.C w A xs.length xs) (hB : kN.C w B ys.length ys) (hx : ∀ x ∈ xs, Ok x) (hy : ∀ y ∈ ys, Ok y) (lx : xs.length ≤ 140737488351232) (ly : ys.length ≤ 140737488351232) :
    Calls Tryz.prog 9 #[.slice A xs.length c, .slice B ys.length d] w fun e w' => e = .returned (.bool (sameB xs ys)) ∧ Below w.heap.size w w' := by
  have H := Lib.hid (equal_calls A B c d xs ys w hA hB hx hy lx ly)
  clear hA hB hx hy
  go_enter Tryz.func9, Tryz.ntmps9
  go_wp2_with (go_at_call 21; refine H.out.mono ?_; rintro e w1 ⟨rfl, hb1⟩)
  go_ret
  exact ⟨rfl, hb1⟩
end Go.Proofs.YtkmjbakiippfpaaGreatDoor.Tree
