/- FsJ put together. -/
import Derived.Test.YtageofdcloneoaaDoorMFsI
import Derived.Test.YtageofdcloneoaaDoorMFsX
import Derived.Test.YtageofdcloneoaaDoorMFsH
import Derived.Deep.DeepCutAuto
import Derived.Deep.RegionHeld3
set_option linter.unusedVariables false
set_option linter.unusedSimpArgs false
namespace Go.Proofs.YtageofdcloneoaaDoor.Fs
open Go.RowKit Go.BigFrame Go.Maps Go.Proofs.YtageofdcloneoaaDoor.Reg Go.Proofs.YtageofdcloneoaaDoor.Rout Go.Proofs.YtageofdcloneoaaDoor.Node Go.Proofs.YtageofdcloneoaaDoor.Tree Go.Proofs.YtageofdcloneoaaDoor.Vfs Go.Proofs.YtageofdcloneoaaDoorW.PrintWords Go.Proofs.YtageofdcloneoaaDoorW.PrintLast Go.Proofs.YtageofdcloneoaaDoorW.PrintMore
attribute [local go_sem ↓] Go.wp_at_zero Go.wp_at_succ
/-! ### plain -/
theorem oneB_refl (x : Nd) : oneB x x = true := by unfold oneB; simp
theorem sameB_refl : ∀ l, sameB l l = true
  | [] => rfl
  | x :: r => by show (oneB x x && sameB r r) = true; rw [oneB_refl, sameB_refl r]; rfl
theorem wf_good {M : NMap} (h : WF M) : Good M := ⟨wf_fine h, h.own, wf_up h⟩
theorem Step.sizes {M M' : NMap} {cnt n : Nat} {c : Chg} (k : Step M cnt c M' n) (h : WF M) : validB c.path = true ∧ (c.dest = emp ∨ validB c.dest = true) ∧ c.data.length ≤ 268435456 := by
  cases k with
  | make m t hd hv hno hdir hm h2 hc =>
    refine ⟨hv, .inl hd, ?_⟩
    unfold mayB kindB at hm
    simp only [Bool.and_eq_true] at hm
    have hm := hm.2
    by_cases h1 : c.kind = 1
    · rw [if_pos h1] at hm; simp at hm; rw [hm]; simp
    rw [if_neg h1] at hm
    by_cases h4 : c.kind = 2
    · omega
    rw [if_neg h4] at hm
    by_cases h3 : c.kind = 3
    · rw [if_pos h3] at hm; simp at hm; omega
    · rw [if_neg h3] at hm; cases hm
  | write x hk hd hx h1 h3 hl hb => exact ⟨h.valid _ x hx, .inl hd, by omega⟩
  | remove hk hd hx hb he =>
    obtain ⟨x, hx⟩ := Option.isSome_iff_exists.1 hx
    exact ⟨h.valid _ x hx, .inl hd, by rw [he]; simp⟩
  | rename hk hx hno hdir hb hv he =>
    have h5 := hv c.path hx (.inl rfl)
    rw [turn_self] at h5
    obtain ⟨x, hx⟩ := Option.isSome_iff_exists.1 hx
    exact ⟨h.valid _ x hx, .inr h5, by rw [he]; simp⟩
/-- What the law asks of a path behind the change. -/
def thereB (c : Chg) (p : ByteArray) : Bool := decide (p = c.path) || (withinB p c.path || (decide (0 < c.dest.size) && (decide (p = c.dest) || withinB p c.dest)))
theorem out_far {M M' : NMap} {cnt n : Nat} {c : Chg} (k : Step M cnt c M' n) (h : WF M) {x : Nd} (hx : M x.f1 = some x) (h1 : x.f1 ≠ c.path) (h2 : withinB x.f1 c.path = false) : statT M' x.f1 = (some x, 0) := by
  have hnb : ¬ inB c.path x.f1 := by
    rintro (e | e)
    · exact h1 e
    · unfold withinB at h2
      rw [h.valid _ x hx, (k.sizes h).1, e] at h2
      cases h2
  exact stat_own (k.wf h) (k.far h hx hnb)
theorem out_from {M M' : NMap} {cnt n : Nat} {c : Chg} (k : Step M cnt c M' n) (h : WF M) {y : Nd} (hy : M' y.f1 = some y) : thereB c y.f1 = true ∨ ∃ x, M y.f1 = some x := by
  have hv := (k.wf h).valid _ y hy
  obtain ⟨c1, c2, _⟩ := k.sizes h
  rcases k.from_ h hy with e | ⟨e1, e2⟩ | e
  · left
    unfold thereB withinB
    rcases e with e | e
    · rw [decide_eq_true e]; rfl
    · rw [hv, c1, e]; simp
  · left
    have c3 : validB c.dest = true := by
      rcases c2 with e | e
      · rw [e] at e1; exact absurd e1 (by decide)
      · exact e
    unfold thereB withinB
    rw [decide_eq_true e1]
    rcases e2 with e | e
    · rw [decide_eq_true e]; simp
    · rw [hv, c3, e]; simp
  · exact .inr e
/-- All bytes are bytes. -/
def By (M : NMap) : Prop := ∀ p x, M p = some x → ∀ b ∈ x.f2, 0 ≤ b ∧ b ≤ 255
theorem Step.by_ {M M' : NMap} {cnt n : Nat} {c : Chg} (k : Step M cnt c M' n) (h : By M) (hc : ∀ b ∈ c.data, 0 ≤ b ∧ b ≤ 255) : By M' := by
  intro p x hx
  cases k with
  | make m t hd hv hno hdir hm h2 hcn =>
    unfold putM at hx
    split at hx
    · injection hx with hx; rw [← hx]; exact hc
    · exact h p x hx
  | write y hk hd hy h1 h3 hl hb =>
    unfold putM at hx
    split at hx
    · injection hx with hx
      rw [← hx]
      intro b hb2
      rcases List.mem_append.1 hb2 with e | e
      · exact h _ y hy b e
      · exact hc b e
    · exact h p x hx
  | remove hk hd hy hb he =>
    unfold delM at hx
    split at hx
    · cases hx
    · exact h p x hx
  | rename hk hy hno hdir hb hv he =>
    unfold moveM at hx
    split at hx
    · rename_i e
      obtain ⟨y, hy⟩ := Option.isSome_iff_exists.1 e.2
      rw [hy] at hx
      injection hx with hx
      rw [← hx]
      exact h _ y hy
    · split at hx
      · cases hx
      · exact h p x hx
theorem by_tree (l : List Nd) (h : ∀ x ∈ l, Ok x) : By (mapL l) := fun p x hx => (h x (mapL_f1 _ _ _ hx).2).by_
theorem call_by (s : St) (h : WF s.M) (hb : By s.M) (a : Ac) (h2 : ∀ b ∈ a.node.f2, 0 ≤ b ∧ b ≤ 255) (h3 : ∀ b ∈ a.bytes, 0 ≤ b ∧ b ≤ 255) : By (s.call a).M := by
  rcases call_cases s h a with ⟨e, _⟩ | ⟨c, M', n, r, hp, _, hs, e⟩
  · rw [e]; exact hb
  · rw [e]
    refine hs.by_ hb ?_
    rcases (plan_step h hp).2.1 with e | e | e
    · rw [e]; exact h2
    · rw [e]; exact h3
    · rw [e]; simp
theorem ok_of {M : NMap} {x : Nd} (h : WF M) (hb : ∀ b ∈ x.f2, 0 ≤ b ∧ b ≤ 255) (hx : M x.f1 = some x) : Ok x := by
  have h1 := valid_size _ (h.valid _ x hx)
  have h2 := (wf_fine h).data _ x hx
  exact ⟨hb, by omega, by omega⟩
/-! ### the walk -/
theorem strN (a b : ByteArray) : (a.toList == b.toList) = decide (a = b) := by
  rw [toList_data, toList_data, Bool.eq_iff_iff, beq_iff_eq, decide_eq_true_eq]
  exact ⟨fun h => ba_ext h, fun h => by rw [h]⟩
theorem emptyN (a : ByteArray) : (!a.toList.isEmpty) = decide (0 < a.size) := by
  rw [toList_data, Bool.eq_iff_iff, decide_eq_true_eq, ← size_data]
  cases a.data.toList <;> simp
/-- The act's box, cell by cell. -/
def Box11 (k : Nat) (v : Array Value) (W : World) : Prop := ∀ i u, v[i]? = some u → W.cell? ⟨k, i, none⟩ = some u
theorem box11 (w : World) (v : Array Value) (t : TypeId) : Box11 w.heap.size v (w.alloc (.cells v t)) := fun i u h => by
  unfold World.cell?
  dsimp only
  rw [heap_alloc_new]
  exact h
theorem Box11.below {k : Nat} {v : Array Value} {w W : World} (h : Box11 k v w) (hb : Below w.heap.size w W) : Box11 k v W := fun i u hu => bkeep hb (h i u hu)
/-- Tree, with what stays. -/
theorem treeK (base g b : Nat) (lv : Value) (s : St) (hW : WF s.M) (W : World) (h : FsAt W base g b lv s) :
    Calls Tryd.prog 14 #[.pointer (some ⟨g, 0, none⟩)] W fun e w' => ∃ (A : Option Addr) (c : Nat) (l : List Nd), e = .returned (.slice A l.length c) ∧ Hid (TreeOf s.M l) ∧ l.length ≤ 65536 ∧ Hid (kN.R 33 w' W.heap.size (fun _ => True) (.slice A l.length c) l) ∧ Hid (Below W.heap.size W w') :=
  (tree_calls base g b lv s W h (wf_fine hW) hW.own).mono fun e w' ⟨v, l, he, hR, hT, hl, hb⟩ => by
    obtain ⟨A, c, rfl, _, _⟩ := Kd.R_reads hR
    exact ⟨A, c, l, he, Lib.hid hT, hl, Lib.hid hR, Lib.hid hb⟩
theorem logN (base g b : Nat) (lv : Value) (s : St) (W : World) (h : FsAt W base g b lv s) (h0 : s.log = []) :
    Calls Tryd.prog 9 #[.pointer (some ⟨g, 0, none⟩)] W fun e w' => ∃ (A : Option Addr) (c : Nat), e = .returned (.slice A 0 c) ∧ Hid (Below W.heap.size W w') :=
  (log_calls base g b lv s W h (by rw [h0]; decide) (by rw [h0]; simp)).mono fun e w' ⟨v, he, hR, hb⟩ => by
    rw [h0] at hR
    obtain ⟨A, c, rfl, _, _⟩ := Kd.R_reads hR
    exact ⟨A, c, he, Lib.hid hb⟩
theorem logO (base g b : Nat) (lv : Value) (s : St) (W : World) (h : FsAt W base g b lv s) (d : Chg) (h0 : s.log = [d]) (hd : d.data.length ≤ 268435456) :
    Calls Tryd.prog 9 #[.pointer (some ⟨g, 0, none⟩)] W fun e w' => ∃ (ad : Addr) (c : Nat) (A2 : Option Addr) (c2 : Nat), e = .returned (.slice (some ad) 1 c) ∧ Hid (∀ j u, [Value.int .i64 d.kind, .string d.path, .string d.dest, .slice A2 d.data.length c2][j]? = some u → w'.cell? (ad.add j) = some u) ∧ Hid (Below W.heap.size W w') :=
  (log_calls base g b lv s W h (by rw [h0]; simp) (by rw [h0]; intro c hc; rw [List.mem_singleton.1 hc]; omega)).mono fun e w' ⟨v, he, hR, hb⟩ => by
    rw [h0] at hR
    obtain ⟨A, c, rfl, _, hC⟩ := Kd.R_reads hR
    obtain ⟨ad, cs, rfl, _, hK, hc⟩ := Kd.C_get hC (⟨0, emp, emp, []⟩ : Chg) 0 (by omega) (by simp)
    obtain ⟨A2, c2, rfl, _, _⟩ := kC_open hK
    refine ⟨ad, c, A2, c2, he, Lib.hid (fun j u hu => ?_), Lib.hid hb⟩
    have := hc j u hu
    rwa [show (0 : Int).toNat * kC.sz + j = j by simp] at this
theorem single_in (W : World) (g : Nat) (x : Nd) {A2 : Option Addr} {c2 : Nat} (l2 : x.f2.length ≤ c2) (hd : (Kd.int .u8).C W A2 x.f2.length x.f2) (h : W.heap[g]? = some (.cells #[.int .i64 x.f0, .string x.f1, .slice A2 x.f2.length c2, .int .i64 x.f3, .int .i64 x.f4] 33 (0, 0))) : kN.C W (some ⟨g, 0, none⟩) [x].length [x] := by
  refine ⟨rfl, (show 1 ≤ 9223372036854775807 by decide), fun _ => ⟨⟨g, 0, none⟩, rfl, fun j p hp => ?_⟩⟩
  cases j with
  | zero =>
    obtain rfl : x = p := by simpa using hp
    refine ⟨_, rfl, kN_mk W x (A2 := A2) (c2 := c2) l2 hd, fun i u hu => ?_⟩
    rw [add_plain, show 0 * kN.sz + i = i by omega]
    unfold World.cell?
    dsimp only
    rw [h, ← hu]
    match i, hu with
    | 0, _ => rfl
    | 1, _ => rfl
    | 2, _ => rfl
    | 3, _ => rfl
    | 4, _ => rfl
    | i + 5, hu => simp at hu
  | succ j => simp at hp
set_option maxRecDepth 100000 in
set_option maxHeartbeats 8000000 in
theorem touches_one (A : Option Addr) (c : Nat) (l : List Nd) (a : Ac) (A2 : Option Addr) (c2 : Nat) (A3 : Option Addr) (c3 : Nat) (w : World) (hC : kN.C w A l.length l) (hok : ∀ x ∈ l, Ok x) (hl : l.length ≤ 140737488351232) (hb : (chk l).2 = 0)
    (hA : AcOk a) (hA3 : ∀ b ∈ a.bytes, 0 ≤ b ∧ b ≤ 255) (hC2 : (Kd.int .u8).C w A2 a.node.f2.length a.node.f2) (hl2 : a.node.f2.length ≤ c2) (hC3 : (Kd.int .u8).C w A3 a.bytes.length a.bytes) :
    Calls Tryd.prog 5 #[.slice A l.length c, .agg #[.int .i64 a.kind, .int .i64 a.node.f0, .string a.node.f1, .slice A2 a.node.f2.length c2, .int .i64 a.node.f3, .int .i64 a.node.f4, .string a.dest, .slice A3 a.bytes.length c3, .int .i64 a.n, .bool a.ever, .string a.asked]] w fun e w' => e = .returned (.bool true) ∧ Below w.heap.size w w' := by
  have W0 := Lib.hid (wf_tree l (tree_is l hb))
  have B0 := Lib.hid (by_tree l hok)
  have HNEW := Lib.hid (fun W (h : Below w.heap.size w W) => new_fs A c l W (Kd.C_below hC h) hok hl hb)
  have HCA := Lib.hid (fun base g b (hbs : w.heap.size ≤ base) W (hbw : Below w.heap.size w W) (h : FsAt W base g b (.slice none 0 0) (newSt l)) => call_calls base g b (.slice none 0 0) (newSt l) a A2 c2 A3 c3 W h (wf_good W0.out) hA (fun W' hm => Kd.C_below hC2 (hm.below hbw (fun i hi => Nat.le_trans hbs (h.ownB i hi)))) hl2 (fun W' hm => Kd.C_below hC3 (hm.below hbw (fun i hi => Nat.le_trans hbs (h.ownB i hi)))) (show (0 + 1) * 64 ≤ 140737488355328 by decide))
  have HAN := Lib.hid (show By ((newSt l).call a).M from call_by (newSt l) W0.out B0.out a hA.node.by_ hA3)
  have HMW := Lib.hid (call_wf (newSt l) W0.out a)
  have HK := Lib.hid (show (((newSt l).call a).M = mapL l ∧ ((newSt l).call a).log = []) ∨ (∃ d n, ((newSt l).call a).log = [d] ∧ Step (mapL l) l.length d ((newSt l).call a).M n) from by
    rcases call_cases (newSt l) W0.out a with ⟨e1, _, e2⟩ | ⟨d, M', n, r, _, _, hs, e⟩
    · exact .inl ⟨e1, e2⟩
    · exact .inr ⟨d, n, by rw [e]; rfl, by rw [e]; exact hs⟩)
  have HLB := Lib.hid (show ((newSt l).call a).log.length * 64 ≤ 140737488355328 ∧ ∀ d ∈ ((newSt l).call a).log, d.data.length ≤ 268435456 from by
    rcases HK.out with ⟨_, e⟩ | ⟨d, n, e, hs⟩
    · rw [e]; exact ⟨by decide, by simp⟩
    · rw [e]; exact ⟨(by decide : 1 * 64 ≤ 140737488355328), fun d' hd => by rw [List.mem_singleton.1 hd]; exact (hs.sizes W0.out).2.2⟩)
  generalize (newSt l).call a = s1 at *
  clear hC hok hb hA hC2 hC3 hA3 hl hl2
  go_enter Tryd.func5, Tryd.ntmps5
  go_upto_region 4 with (go_at_call 6; refine (HNEW.out _ (balloc (Below.refl _ _) _)).mono ?_; rintro e w1 ⟨b, rfl, hbb, HF1, hb1⟩)
  have HB1 := Lib.hid (bgo (balloc (Below.refl _ _) _) hb1)
  have hbs : w.heap.size ≤ (w.alloc (.cells #[.int .i64 a.kind, .int .i64 a.node.f0, .string a.node.f1, .slice A2 a.node.f2.length c2, .int .i64 a.node.f3, .int .i64 a.node.f4, .string a.dest, .slice A3 a.bytes.length c3, .int .i64 a.n, .bool a.ever, .string a.asked] 35)).heap.size := by simp
  have HBX := Lib.hid ((box11 w _ _).below hb1)
  generalize hbse : (w.alloc (.cells #[.int .i64 a.kind, .int .i64 a.node.f0, .string a.node.f1, .slice A2 a.node.f2.length c2, .int .i64 a.node.f3, .int .i64 a.node.f4, .string a.dest, .slice A3 a.bytes.length c3, .int .i64 a.n, .bool a.ever, .string a.asked] 35)).heap.size = base at *
  clear hbse hb1 hbb HNEW
  have HT1 := Lib.hid (treeK base (b + 1) b _ (newSt l) W0.out w1 HF1.out)
  go_upto_region 5 with (go_at_call 14; refine HT1.out.mono ?_; rintro e w2 ⟨A4, c4, was, rfl, HWT, hwl, HWR, HB2⟩)
  have HF2 := Lib.hid (HF1.out.below HB2.out)
  have HB12 := Lib.hid (bgo HB1.out HB2.out)
  have HBX2 := Lib.hid (HBX.out.below HB2.out)
  have q0 : w2.cell? ⟨w.heap.size, 0, none⟩ = some (.int .i64 a.kind) := HBX2.out 0 _ rfl
  have q1 : w2.cell? ⟨w.heap.size, 1, none⟩ = some (.int .i64 a.node.f0) := HBX2.out 1 _ rfl
  have q2 : w2.cell? ⟨w.heap.size, 2, none⟩ = some (.string a.node.f1) := HBX2.out 2 _ rfl
  have q3 : w2.cell? ⟨w.heap.size, 3, none⟩ = some (.slice A2 a.node.f2.length c2) := HBX2.out 3 _ rfl
  have q4 : w2.cell? ⟨w.heap.size, 4, none⟩ = some (.int .i64 a.node.f3) := HBX2.out 4 _ rfl
  have q5 : w2.cell? ⟨w.heap.size, 5, none⟩ = some (.int .i64 a.node.f4) := HBX2.out 5 _ rfl
  have q6 : w2.cell? ⟨w.heap.size, 6, none⟩ = some (.string a.dest) := HBX2.out 6 _ rfl
  have q7 : w2.cell? ⟨w.heap.size, 7, none⟩ = some (.slice A3 a.bytes.length c3) := HBX2.out 7 _ rfl
  have q8 : w2.cell? ⟨w.heap.size, 8, none⟩ = some (.int .i64 a.n) := HBX2.out 8 _ rfl
  have q9 : w2.cell? ⟨w.heap.size, 9, none⟩ = some (.bool a.ever) := HBX2.out 9 _ rfl
  have q10 : w2.cell? ⟨w.heap.size, 10, none⟩ = some (.string a.asked) := HBX2.out 10 _ rfl
  have HC3 := Lib.hid (HCA.out base (b + 1) b hbs w2 HB12.out HF2.out)
  clear HCA HBX HBX2 HT1 HF1 HB1
  go_upto_region 6 with (go_at_call 8; refine HC3.out.mono ?_; rintro e w3 ⟨rfl, HAF⟩)
  obtain ⟨lv', HF3', HM3, _⟩ := HAF.out
  have HF3 := Lib.hid HF3'
  have HWR3 := Lib.hid (HF2.out.rowKept HM3 HWR.out (by decide) (by decide))
  have HB13 := Lib.hid (HM3.below HB12.out (fun i hi => Nat.le_trans hbs (HF2.out.ownB i hi)))
  have HT := Lib.hid (fun W (h : Below w3.heap.size w3 W) => treeK base (b + 1) b lv' s1 HMW.out W (HF3.out.below h))
  have HOKW := Lib.hid (fun x (hx : x ∈ was) => have hM := (treeOf_mem HWT.out W0.out x).1 hx; ok_of W0.out (B0.out _ x hM) hM)
  clear HAF HF3' HM3 HC3 HWR HB12 HF2 HB2 q0 q1 q2 q3 q4 q5 q6 q7 q8 q9 q10
  obtain ⟨_, _, he4, hwc, hWC⟩ := Kd.R_reads HWR3.out
  have HWC := Lib.hid hWC
  injection he4 with ha4 hn4 hc4
  subst ha4 hc4
  clear hn4 hWC
  rcases HK.out with ⟨hm, hlg⟩ | ⟨d, n, hlg, hs⟩
  · have HL := Lib.hid (logN base (b + 1) b lv' s1 w3 HF3.out hlg)
    go_upto_region 7 with (first | (go_at_call 9; refine HL.out.mono ?_; rintro e w4 ⟨A5, c5, rfl, HB34⟩) | (go_at_call 14; refine (HT.out _ HB34.out).mono ?_; rintro e w5 ⟨A6, c6, is, rfl, HIT, hil, HIR, HB45⟩))
    obtain rfl : is = was := treeOf_one HIT.out (by rw [hm]; exact HWT.out)
    obtain ⟨_, _, he6, hic, hIC⟩ := Kd.R_reads HIR.out
    injection he6 with ha6 hn6 hc6
    subst ha6 hc6
    have HB35 := Lib.hid (bgo HB34.out HB45.out)
    have HSA := Lib.hid (same_calls _ _ c4 c6 is is w5 (Kd.C_below HWC.out HB35.out) hIC HOKW.out HOKW.out (by omega) (by omega))
    rw [sameB_refl] at HSA
    have HB15 := Lib.hid (bgo HB13.out HB35.out)
    clear hIC hn6 hm hlg
    go_wp2_with (go_at_call 17; refine HSA.out.mono ?_; rintro e w6 ⟨rfl, hb6⟩)
    go_ret
    exact ⟨rfl, bgo HB15.out hb6⟩
  · have hsz := hs.sizes W0.out
    have HSZ := Lib.hid hsz
    have HL := Lib.hid (logO base (b + 1) b lv' s1 w3 HF3.out d hlg hsz.2.2)
    go_upto_region 7 with (first | (go_at_call 9; refine HL.out.mono ?_; rintro e w4 ⟨ad, c5, A7, c7, rfl, HLC, HB34⟩) | (go_at_call 14; refine (HT.out _ HB34.out).mono ?_; rintro e w5 ⟨A6, c6, is, rfl, HIT, hil, HIR, HB45⟩))
    have r0 : w5.cell? ad = some (.int .i64 d.kind) := bkeep HB45.out (by have := HLC.out 0 _ rfl; rwa [show ad.add 0 = ad by simp [Addr.add]] at this)
    have r1 : w5.cell? ⟨ad.block, ad.off + 1, none⟩ = some (.string d.path) := bkeep HB45.out (by have := HLC.out 1 _ rfl; exact this)
    have r2 : w5.cell? ⟨ad.block, ad.off + 2, none⟩ = some (.string d.dest) := bkeep HB45.out (by have := HLC.out 2 _ rfl; exact this)
    have r3 : w5.cell? ⟨ad.block, ad.off + 3, none⟩ = some (.slice A7 d.data.length c7) := bkeep HB45.out (by have := HLC.out 3 _ rfl; exact this)
    go_upto_region 10 with fail
    have HAL := Lib.hid (balloc (Below.refl _ _) (.cells #[.int .i64 d.kind, .string d.path, .string d.dest, .slice A7 d.data.length c7] 39) : Below w5.heap.size w5 _)
    have y1 : (w5.alloc (.cells #[.int .i64 d.kind, .string d.path, .string d.dest, .slice A7 d.data.length c7] 39)).cell? ⟨w5.heap.size, 1, none⟩ = some (.string d.path) := by simp
    have y2 : (w5.alloc (.cells #[.int .i64 d.kind, .string d.path, .string d.dest, .slice A7 d.data.length c7] 39)).cell? ⟨w5.heap.size, 2, none⟩ = some (.string d.dest) := by simp
    refine wp_world ?_
    intro w6 hw6
    rw [← hw6] at HAL y1 y2
    clear hw6 r0 r1 r2 r3 HLC HL HT
    have HB36 := Lib.hid (bgo (bgo HB34.out HB45.out) HAL.out)
    have HB16 := Lib.hid (bgo HB13.out HB36.out)
    have HY := Lib.hid (fun W (h : Below w6.heap.size w6 W) => (show W.cell? ⟨w5.heap.size, 1, none⟩ = some (.string d.path) ∧ W.cell? ⟨w5.heap.size, 2, none⟩ = some (.string d.dest) from ⟨bkeep h y1, bkeep h y2⟩))
    have HWAS := Lib.hid (fun W (h : Below w6.heap.size w6 W) => (Kd.C_below HWC.out (bgo HB36.out h)))
    obtain ⟨_, _, he6, hic, hIC⟩ := Kd.R_reads HIR.out
    injection he6 with ha6 hn6 hc6
    subst ha6 hc6
    have HIS := Lib.hid (fun W (h : Below w6.heap.size w6 W) => (Kd.C_below hIC (bgo HAL.out h)))
    have HSTA := Lib.hid (fun W (h : Below w6.heap.size w6 W) s (hs : s.size ≤ 140737488351232) => Stat_calls (b + 1) base b s1.cnt _ s1.M s W (HF3.out.below (bgo HB36.out h)).c0 (HF3.out.below (bgo HB36.out h)).mapAt (wf_fine HMW.out) hs)
    have HX0 := Lib.hid (fun x (hx : x ∈ was) => (treeOf_mem HWT.out W0.out x).1 hx)
    have HXX := Lib.hid (fun x (hx : x ∈ was) (h1 : x.f1 ≠ d.path) (h2 : withinB x.f1 d.path = false) => out_far hs W0.out (HX0.out x hx) h1 h2)
    have HYY := Lib.hid (fun y (hy : y ∈ is) => out_from hs W0.out ((treeOf_mem HIT.out HMW.out y).1 hy))
    have hzp : d.path.size ≤ 1024 := valid_size _ HSZ.out.1
    have hzd : d.dest.size ≤ 1024 := by
      rcases HSZ.out.2.1 with e | e
      · rw [e]; decide
      · exact valid_size _ e
    have hzx : ∀ x ∈ was, x.f1.size ≤ 1024 := fun x hx => valid_size _ (W0.out.valid _ x (HX0.out x hx))
    have hzy : ∀ y ∈ is, y.f1.size ≤ 1024 := fun y hy => valid_size _ (HMW.out.valid _ y ((treeOf_mem HIT.out HMW.out y).1 hy))
    have HZX := Lib.hid hzx
    have HZY := Lib.hid hzy
    have HWI := Lib.hid (fun W s (hs : s.size ≤ 1024) => isin_calls s d.path W (by omega) (by omega))
    have HWJ := Lib.hid (fun W s (hs : s.size ≤ 1024) => isin_calls s d.dest W (by omega) (by omega))
    clear hs hsz hlg hIC hn6 hzx hzy HK HLB HSZ HAL HB34 HB45 HIR HWR3 HWC y1 y2 HB13 HF3
    go_wp2
    go_loopw [11, 12, 13, 14] (fun i _ _ _ wr => ∃ k : Nat, i = .int .i64 k ∧ k ≤ was.length ∧ Below w6.heap.size w6 wr) (fun i _ _ _ _ => (was.length - intOf i).toNat)
    case atStart => exact ⟨0, rfl, by omega, Below.refl _ _⟩
    case round =>
      obtain ⟨k, rfl, hk, hbr⟩ := hrel
      by_cases hlt : k < was.length
      · obtain ⟨ad2, D2, d2, hA', c0, c1, c2', c3', c4', hl2, hd⟩ := atN (HWAS.out wr hbr) (k : Int) (by omega) (by omega)
        subst hA'
        have hxm := rdN_mem was k hlt
        have HXM := Lib.hid hxm
        have hzx := HZX.out _ hxm
        have HXF := Lib.hid (HXX.out _ hxm)
        rw [Int.toNat_natCast] at c0 c1 c2' c3' c4'
        generalize rdN was (k : Int) = x at *
        obtain ⟨z1, z2⟩ := HY.out wr hbr
        have k0 : (0 : Int) ≤ (k : Int) := by omega
        have k1 : (k : Int) < was.length := by omega
        have hstr := strN x.f1 d.path
        by_cases he1 : x.f1 = d.path
        · rw [decide_eq_true he1] at hstr
          clear he1 hd HXF hxm
          go_wp2
          go_roundw
          case rel => exact ⟨k + 1, by go_num, by omega, hbr⟩
          case measure => simp [intOf]; omega
        · rw [decide_eq_false he1] at hstr
          have HW1 := Lib.hid (HWI.out wr x.f1 hzx)
          cases hwi : withinB x.f1 d.path
          · have hst := HXF.out he1 hwi
            rw [hwi] at HW1
            have HS1 := Lib.hid (fun W (hb : Below wr.heap.size wr W) => show Calls Tryd.prog 19 #[.pointer (some ⟨b + 1, 0, none⟩), .string x.f1] W fun e w' => ∃ (A8 : Option Addr) (c8 : Nat), e = .returned (.tuple #[.agg #[.int .i64 x.f0, .string x.f1, .slice A8 x.f2.length c8, .int .i64 x.f3, .int .i64 x.f4], .int .i64 0]) ∧ x.f2.length ≤ c8 ∧ Hid ((Kd.int .u8).C w' A8 x.f2.length x.f2) ∧ Hid (Below wr.heap.size wr w') from by
              refine (HSTA.out W (bgo hbr hb) x.f1 (by omega)).mono fun e w' ⟨V, he, hV, hb2⟩ => ?_
              rw [hst] at he hV
              obtain ⟨v2, rfl, hR⟩ := hV
              obtain ⟨A8, c8, rfl, hc8, hC8⟩ := Kd.R_reads hR
              exact ⟨A8, c8, he, hc8, Lib.hid hC8, Lib.hid (bgo hb hb2)⟩)
            clear he1 hwi hst HXF
            go_upto_region 16 with (first | (go_at_call 19; with_reducible refine (HS1.out _ hb7).mono ?_; rintro e w8 ⟨A8, c8, rfl, hc8, HC8, HB8⟩) | (go_at_call 18; with_reducible refine HW1.out.mono ?_; rintro e w7 ⟨rfl, hb7⟩))
            have HB8b := Lib.hid (balloc HB8.out (.cells #[.int .i64 x.f0, .string x.f1, .slice A8 x.f2.length c8, .int .i64 x.f3, .int .i64 x.f4] 33))
            have p0 := bkeep HB8b.out c0
            have p1 := bkeep HB8b.out c1
            have p2 := bkeep HB8b.out c2'
            have p3 := bkeep HB8b.out c3'
            have p4 := bkeep HB8b.out c4'
            have HBN := Lib.hid (heap_alloc_new w8 (.cells #[.int .i64 x.f0, .string x.f1, .slice A8 x.f2.length c8, .int .i64 x.f3, .int .i64 x.f4] 33))
            have HCN := Lib.hid (Kd.C_below HC8.out (balloc (Below.refl _ _) (.cells #[.int .i64 x.f0, .string x.f1, .slice A8 x.f2.length c8, .int .i64 x.f3, .int .i64 x.f4] 33)))
            have HCD := Lib.hid (Kd.C_below hd HB8b.out)
            refine wp_world ?_
            intro w9 hw9
            rw [← hw9] at HB8b p0 p1 p2 p3 p4 HBN HCN HCD
            clear hw9 hd
            have m0 : w9.cell? ⟨w8.heap.size, 0, none⟩ = some (.int .i64 x.f0) := by simp [World.cell?, HBN.out]
            have m1 : w9.cell? ⟨w8.heap.size, 1, none⟩ = some (.string x.f1) := by simp [World.cell?, HBN.out]
            have m2 : w9.cell? ⟨w8.heap.size, 2, none⟩ = some (.slice A8 x.f2.length c8) := by simp [World.cell?, HBN.out]
            have m3 : w9.cell? ⟨w8.heap.size, 3, none⟩ = some (.int .i64 x.f3) := by simp [World.cell?, HBN.out]
            have m4 : w9.cell? ⟨w8.heap.size, 4, none⟩ = some (.int .i64 x.f4) := by simp [World.cell?, HBN.out]
            have HSS := Lib.hid (fun W q1 q2 (hb : Below w9.heap.size w9 W) (h1 : W.heap[q1]? = some (.cells #[.int .i64 x.f0, .string x.f1, .slice A8 x.f2.length c8, .int .i64 x.f3, .int .i64 x.f4] 33 (0, 0))) (h2 : W.heap[q2]? = some (.cells #[.int .i64 x.f0, .string x.f1, .slice D2 x.f2.length d2, .int .i64 x.f3, .int .i64 x.f4] 33 (0, 0))) => show Calls Tryd.prog 17 #[.slice (some ⟨q1, 0, none⟩) 1 1, .slice (some ⟨q2, 0, none⟩) 1 1] W fun e w' => e = .returned (.bool true) ∧ Hid (Below wr.heap.size wr w') ∧ Box5 w8.heap.size (.int .i64 x.f0) (.string x.f1) (.slice A8 x.f2.length c8) (.int .i64 x.f3) (.int .i64 x.f4) w' ∧ (w'.cell? (ad2.add (k * 5)) = some (.int .i64 x.f0) ∧ w'.cell? ⟨(ad2.add (k * 5)).block, (ad2.add (k * 5)).off + 1, none⟩ = some (.string x.f1) ∧ w'.cell? ⟨(ad2.add (k * 5)).block, (ad2.add (k * 5)).off + 2, none⟩ = some (.slice D2 x.f2.length d2) ∧ w'.cell? ⟨(ad2.add (k * 5)).block, (ad2.add (k * 5)).off + 3, none⟩ = some (.int .i64 x.f3) ∧ w'.cell? ⟨(ad2.add (k * 5)).block, (ad2.add (k * 5)).off + 4, none⟩ = some (.int .i64 x.f4)) from by
              have h3 := same_calls (some ⟨q1, 0, none⟩) (some ⟨q2, 0, none⟩) 1 1 [x] [x] W (single_in W q1 x hc8 (Kd.C_below HCN.out hb) h1) (single_in W q2 x hl2 (Kd.C_below HCD.out hb) h2) (fun y hy => by rw [List.mem_singleton.1 hy]; exact HOKW.out _ HXM.out) (fun y hy => by rw [List.mem_singleton.1 hy]; exact HOKW.out _ HXM.out) (show 1 ≤ 140737488351232 by decide) (show 1 ≤ 140737488351232 by decide)
              rw [sameB_refl] at h3
              exact h3.mono fun e w' ⟨he, hb2⟩ => ⟨he, Lib.hid (bgo (bgo HB8b.out hb) hb2), ⟨bkeep (bgo hb hb2) m0, bkeep (bgo hb hb2) m1, bkeep (bgo hb hb2) m2, bkeep (bgo hb hb2) m3, bkeep (bgo hb hb2) m4⟩, bkeep (bgo hb hb2) p0, bkeep (bgo hb hb2) p1, bkeep (bgo hb hb2) p2, bkeep (bgo hb hb2) p3, bkeep (bgo hb hb2) p4⟩)
            go_cut [85] (fun v wc => v = .bool false ∧ Hid (Below wr.heap.size wr wc))
            case first =>
              go_region_held3 (fun w' => w'.cell? ⟨w8.heap.size, 0, none⟩ = some (.int .i64 x.f0) ∧ w'.cell? ⟨w8.heap.size, 1, none⟩ = some (.string x.f1) ∧ w'.cell? ⟨w8.heap.size, 2, none⟩ = some (.slice A8 x.f2.length c8) ∧ w'.cell? ⟨w8.heap.size, 3, none⟩ = some (.int .i64 x.f3) ∧ w'.cell? ⟨w8.heap.size, 4, none⟩ = some (.int .i64 x.f4) ∧ w'.cell? (ad2.add (k * 5)) = some (.int .i64 x.f0) ∧ w'.cell? ⟨(ad2.add (k * 5)).block, (ad2.add (k * 5)).off + 1, none⟩ = some (.string x.f1) ∧ w'.cell? ⟨(ad2.add (k * 5)).block, (ad2.add (k * 5)).off + 2, none⟩ = some (.slice D2 x.f2.length d2) ∧ w'.cell? ⟨(ad2.add (k * 5)).block, (ad2.add (k * 5)).off + 3, none⟩ = some (.int .i64 x.f3) ∧ w'.cell? ⟨(ad2.add (k * 5)).block, (ad2.add (k * 5)).off + 4, none⟩ = some (.int .i64 x.f4)) (go_keep) ((go_at_call 17; refine (HSS.out _ _ _ (bdrew (balloc (balloc (Below.refl _ _) _) _)) (by first | exact heap_alloc2_old w9 _ _ | exact heap_alloc2_new w9 _ _) (by first | exact heap_alloc2_old w9 _ _ | exact heap_alloc2_new w9 _ _)).mono ?_; rintro e w10 ⟨rfl, HB10, ⟨n0, n1, n2, n3, n4⟩, o0, o1, o2, o3, o4⟩))
              all_goals
                go_wp2_with fail
                go_meet
                exact ⟨rfl, HB10⟩
            case rest =>
              obtain ⟨rfl, HBc⟩ := hcut
              go_wp2
              go_roundw
              case rel => exact ⟨k + 1, by go_num, by omega, bgo hbr HBc.out⟩
              case measure => simp [intOf]; omega
          · rw [hwi] at HW1
            clear he1 hwi HXF hd
            go_wp2_with (go_at_call 18; with_reducible refine HW1.out.mono ?_; rintro e w7 ⟨rfl, hb7⟩)
            go_roundw
            case rel => exact ⟨k + 1, by go_num, by omega, bgo hbr hb7⟩
            case measure => simp [intOf]; omega
      · have hkl : ¬ (k : Int) < was.length := by omega
        have HBR := Lib.hid hbr
        clear hlt hk HSTA HXX
        go_wp2
        go_loopw [15, 16, 17, 18] (fun i _ _ _ wr => ∃ k : Nat, i = .int .i64 k ∧ k ≤ is.length ∧ Below w6.heap.size w6 wr) (fun i _ _ _ _ => (is.length - intOf i).toNat)
        case atStart => exact ⟨0, rfl, by omega, HBR.out⟩
        case round =>
          clear hkl HBR hbr
          obtain ⟨q, rfl, hq, hbr⟩ := hrel
          by_cases hlt : q < is.length
          · obtain ⟨ad3, D3, d3, hA', _, c1, _, _, _, _, _⟩ := atN (HIS.out wr hbr) (q : Int) (by omega) (by omega)
            subst hA'
            have hym := rdN_mem is q hlt
            have hzy := HZY.out _ hym
            have hyy := HYY.out _ hym
            rw [Int.toNat_natCast] at c1
            generalize rdN is (q : Int) = y at *
            obtain ⟨z1, z2⟩ := HY.out wr hbr
            have k0 : (0 : Int) ≤ (q : Int) := by omega
            have k1 : (q : Int) < is.length := by omega
            obtain ⟨B, b0, bs, be⟩ : ∃ B : Nat → Bool, B 0 = thereB d y.f1 ∧ (∀ j, j < was.length → B (j + 1) = (B j || decide ((rdN was (j : Int)).f1 = y.f1))) ∧ B was.length = true := by
              refine ⟨fun j => thereB d y.f1 || (was.take j).any (fun x => decide (x.f1 = y.f1)), by simp, fun j hj => ?_, ?_⟩
              · dsimp only
                rw [take_rdN was j hj, List.any_append, List.any_cons, List.any_nil, Bool.or_false, Bool.or_assoc]
              · dsimp only
                rcases hyy with e | ⟨x, hx⟩
                · rw [e]; rfl
                · rw [List.take_length]
                  have hxw := W0.out.own _ x hx
                  have : x ∈ was := (treeOf_mem HWT.out W0.out x).2 (by rw [hxw]; exact hx)
                  rw [Bool.or_eq_true, List.any_eq_true]
                  exact .inr ⟨x, this, by rw [hxw]; simp⟩
            have BS := Lib.hid bs
            have BE := Lib.hid be
            have HTB := Lib.hid b0
            have HW1 := Lib.hid (show Calls Tryd.prog 18 #[.string y.f1, .string d.path] wr fun e w' => e = .returned (.bool (withinB y.f1 d.path)) ∧ w'.cell? ⟨w5.heap.size, 2, none⟩ = some (.string d.dest) ∧ Hid (Below wr.heap.size wr w') from (HWI.out wr y.f1 hzy).mono fun e w' ⟨he, hb⟩ => ⟨he, bkeep hb z2, Lib.hid hb⟩)
            have HW2 := Lib.hid (fun W => HWJ.out W y.f1 hzy)
            have hs1 := strN y.f1 d.path
            have hs2 := strN y.f1 d.dest
            have hs3 := emptyN d.dest
            clear bs be b0 hyy hym
            go_upto_region 22 with fail
            go_cut [17] (fun v wc => v = .bool (B 0) ∧ Hid (Below wr.heap.size wr wc))
            case first =>
              by_cases e1 : y.f1 = d.path
              · have hB : B 0 = true := by rw [HTB.out]; unfold thereB; rw [decide_eq_true e1]; rfl
                rw [decide_eq_true e1] at hs1
                clear e1 hs2 hs3
                go_wp2_with fail
                go_meet
                exact ⟨by rw [hB], Lib.hid (Below.refl _ _)⟩
              rw [decide_eq_false e1] at hs1
              cases w1' : withinB y.f1 d.path
              case true =>
                have hB : B 0 = true := by rw [HTB.out]; unfold thereB; rw [w1']; simp
                rw [w1'] at HW1
                clear e1 hs2 hs3 w1'
                go_wp2_with (go_at_call 18; with_reducible refine HW1.out.mono ?_; rintro e w7 ⟨rfl, z7, hb7⟩)
                go_meet
                exact ⟨by rw [hB], hb7⟩
              rw [w1'] at HW1
              by_cases e3 : 0 < d.dest.size
              case neg =>
                have hB : B 0 = false := by rw [HTB.out]; unfold thereB; rw [w1', decide_eq_false e1, decide_eq_false e3]; rfl
                rw [decide_eq_false e3] at hs3
                clear e1 hs2 w1' e3
                go_wp2_with (go_at_call 18; with_reducible refine HW1.out.mono ?_; rintro e w7 ⟨rfl, z7, hb7⟩)
                go_meet
                exact ⟨by rw [hB], hb7⟩
              rw [decide_eq_true e3] at hs3
              by_cases e2 : y.f1 = d.dest
              · have hB : B 0 = true := by rw [HTB.out]; unfold thereB; rw [decide_eq_true e3, decide_eq_true e2]; simp
                rw [decide_eq_true e2] at hs2
                clear e1 e2 e3 w1'
                go_wp2_with (go_at_call 18; with_reducible refine HW1.out.mono ?_; rintro e w7 ⟨rfl, z7, hb7⟩)
                go_meet
                exact ⟨by rw [hB], hb7⟩
              rw [decide_eq_false e2] at hs2
              cases w2' : withinB y.f1 d.dest
              all_goals
                have hB := Lib.hid (show B 0 = withinB y.f1 d.dest by rw [HTB.out]; unfold thereB; rw [w1', decide_eq_true e3, decide_eq_false e2, decide_eq_false e1]; simp)
                rw [w2'] at HW2 hB
                clear e1 e2 e3 w1' w2'
                go_wp2_with (first | (go_at_call 18; with_reducible refine (HW2.out w7).mono ?_; rintro e w8 ⟨rfl, hb8⟩) | (go_at_call 18; with_reducible refine HW1.out.mono ?_; rintro e w7 ⟨rfl, z7, hb7⟩))
                go_meet
                exact ⟨by rw [hB.out], Lib.hid (bgo hb7.out hb8)⟩
            case rest =>
              obtain ⟨rfl, HBc⟩ := hcut
              have HBR := Lib.hid (bgo hbr HBc.out)
              clear HW1 HW2 hs1 hs2 hs3 z1 z2 c1 hbr HBc HTB k0 k1
              go_wp2
              go_loopw [17, 18] (fun v i wr3 => ∃ j : Nat, i = .int .i64 j ∧ j ≤ was.length ∧ v = .bool (B j) ∧ Below w6.heap.size w6 wr3) (fun _ i _ => (was.length - intOf i).toNat)
              case atStart => exact ⟨0, rfl, by omega, rfl, HBR.out⟩
              case round =>
                obtain ⟨j, rfl, hj, rfl, hbr3⟩ := hrel
                by_cases hlt3 : j < was.length
                · obtain ⟨ad4, D4, d4, hA', _, c1, _, _, _, _, _⟩ := atN (HWAS.out _ hbr3) (j : Int) (by omega) (by omega)
                  subst hA'
                  rw [Int.toNat_natCast] at c1
                  have hB1 := BS.out j hlt3
                  generalize rdN was (j : Int) = x at *
                  have hs1 := strN x.f1 y.f1
                  have k0 : (0 : Int) ≤ (j : Int) := by omega
                  have k1 : (j : Int) < was.length := by omega
                  cases hBj : B j
                  · cases hdx : decide (x.f1 = y.f1)
                    all_goals
                      rw [hBj, hdx] at hB1
                      rw [hdx] at hs1
                      have HB1 := Lib.hid hB1
                      clear hB1 hdx hBj
                      go_wp2
                      go_roundw
                      case rel => exact ⟨j + 1, by go_num, by omega, by rw [HB1.out]; rfl, hbr3⟩
                      case measure => simp [intOf]; omega
                  · rw [hBj, Bool.true_or] at hB1
                    have HB1 := Lib.hid hB1
                    clear hB1 hs1 hBj
                    go_wp2
                    go_roundw
                    case rel => exact ⟨j + 1, by go_num, by omega, by rw [HB1.out], hbr3⟩
                    case measure => simp [intOf]; omega
                · obtain rfl : j = was.length := by omega
                  have hBE := BE.out
                  have k1 : ¬ (was.length : Int) < was.length := by omega
                  rw [hBE]
                  clear hlt3
                  go_wp2
                  go_roundw
                  case rel => exact ⟨q + 1, by go_num, by omega, hbr3⟩
                  case measure => simp [intOf]; omega
          · have k1 : ¬ (q : Int) < is.length := by omega
            go_wp2
            go_ret
            exact ⟨rfl, bgo HB16.out hbr⟩
set_option maxRecDepth 100000 in
set_option maxHeartbeats 4000000 in
theorem touches_calls (A : Option Addr) (c : Nat) (l : List Nd) (a : Ac) (A2 : Option Addr) (c2 : Nat) (A3 : Option Addr) (c3 : Nat) (w : World) (hC : kN.C w A l.length l) (hok : ∀ x ∈ l, Ok x) (hl : l.length ≤ 140737488351232)
    (hA : AcOk a) (hA3 : ∀ b ∈ a.bytes, 0 ≤ b ∧ b ≤ 255) (hC2 : (Kd.int .u8).C w A2 a.node.f2.length a.node.f2) (hl2 : a.node.f2.length ≤ c2) (hC3 : (Kd.int .u8).C w A3 a.bytes.length a.bytes) :
    Calls Tryd.prog 5 #[.slice A l.length c, .agg #[.int .i64 a.kind, .int .i64 a.node.f0, .string a.node.f1, .slice A2 a.node.f2.length c2, .int .i64 a.node.f3, .int .i64 a.node.f4, .string a.dest, .slice A3 a.bytes.length c3, .int .i64 a.n, .bool a.ever, .string a.asked]] w fun e w' => e = .returned (.bool true) ∧ Below w.heap.size w w' := by
  by_cases hb : (chk l).2 = 0
  · exact touches_one A c l a A2 c2 A3 c3 w hC hok hl hb hA hA3 hC2 hl2 hC3
  · have HNEW := Lib.hid (fun W (h : Below w.heap.size w W) => new_bad A c l W (Kd.C_below hC h) hok hl hb)
    clear hC hok hA hA3 hC2 hC3 hb
    go_enter Tryd.func5, Tryd.ntmps5
    go_wp2_with (go_at_call 6; refine (HNEW.out _ (balloc (Below.refl _ _) _)).mono ?_; rintro e w1 ⟨rfl, hb1⟩)
    go_ret
    exact ⟨ret_bool rfl, bgo (balloc (Below.refl _ _) _) hb1⟩
end Go.Proofs.YtageofdcloneoaaDoor.Fs
