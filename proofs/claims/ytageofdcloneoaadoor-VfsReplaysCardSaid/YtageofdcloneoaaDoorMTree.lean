/- TreeM, TreeC put together. -/
import Derived.Test.YtageofdcloneoaaDoorMRoutQ
import Derived.Maps.Own
import Derived.Maps.Views
import Derived.Maps.OwnOps
set_option linter.unusedVariables false
set_option linter.unusedSimpArgs false
namespace Go.Proofs.YtageofdcloneoaaDoor.Tree
open Go.RowKit Go.BigFrame Go.Proofs.YtageofdcloneoaaDoor.Reg Go.Proofs.YtageofdcloneoaaDoor.Rout Go.Proofs.YtageofdcloneoaaDoor.Node Go.Proofs.YtageofdcloneoaaDoorW.PrintWords Go.Proofs.YtageofdcloneoaaDoorW.PrintLast Go.Proofs.YtageofdcloneoaaDoorW.PrintMore
def kindB (x : Nd) : Bool := if x.f0 = 1 then decide ((x.f2.length : Int) = 0) else if x.f0 = 2 then decide ((x.f2.length : Int) ≤ 268435456) else if x.f0 = 3 then decide (1 ≤ x.f2.length ∧ x.f2.length ≤ 1024) && x.f2.all (fun b => b != 0) else false
def mayB (x : Nd) : Bool := decide (0 ≤ x.f3 ∧ x.f3 ≤ 4095 ∧ -1099511627776 ≤ x.f4 ∧ x.f4 ≤ 1099511627776) && kindB x
/-- What is asked of a node: bytes are bytes, and it lies in memory. -/
structure Ok (x : Nd) : Prop where
  by_ : ∀ b ∈ x.f2, 0 ≤ b ∧ b ≤ 255
  ps : x.f1.size ≤ 140737488351232
  ds : x.f2.length ≤ 140737488351232
theorem may_out (x : Nd) (h : ¬ (0 ≤ x.f3 ∧ x.f3 ≤ 4095 ∧ -1099511627776 ≤ x.f4 ∧ x.f4 ≤ 1099511627776)) : mayB x = false := by unfold mayB; rw [decide_eq_false h]; rfl
theorem may_in (x : Nd) (h : 0 ≤ x.f3 ∧ x.f3 ≤ 4095 ∧ -1099511627776 ≤ x.f4 ∧ x.f4 ≤ 1099511627776) : mayB x = kindB x := by unfold mayB; rw [decide_eq_true h]; rfl
theorem zero_find : ∀ xs : List Int, (∀ b ∈ xs, 0 ≤ b ∧ b ≤ 255) → (xs.all (fun b => b != 0) = true ∧ Lib.indexByte (Lib.bytesOf xs) 0 = -1) ∨ (xs.all (fun b => b != 0) = false ∧ 0 ≤ Lib.indexByte (Lib.bytesOf xs) 0)
  | [], _ => .inl ⟨rfl, rfl⟩
  | b :: r, h => by
    have hb := h b (by simp)
    have hr := zero_find r (fun c hc => h c (by simp [hc]))
    have hge := Lib.indexByte_ge (Lib.bytesOf r) 0
    have e1 : Lib.bytesOf (b :: r) = b.toNat.toUInt8 :: Lib.bytesOf r := rfl
    rw [e1, List.all_cons]
    unfold Lib.indexByte
    by_cases h0 : b = 0
    · subst h0
      right
      exact ⟨by simp, by simp⟩
    · have h1 : (b.toNat.toUInt8 == 0) = false := by
        rw [beq_eq_false_iff_ne]
        intro e
        have := congrArg UInt8.toNat e
        simp at this
        omega
      have h2 : (b != 0) = true := by simpa using h0
      rw [h1, h2]
      rcases hr with ⟨r1, r2⟩ | ⟨r1, r2⟩
      · left
        exact ⟨by rw [r1]; rfl, by rw [r2]; rfl⟩
      · right
        refine ⟨by rw [r1]; rfl, ?_⟩
        rw [if_neg (by decide), if_neg (by simp; omega)]
        omega
set_option maxHeartbeats 4000000 in
theorem may_calls (x : Nd) (A : Option Addr) (c : Nat) (w : World) (hC : (Kd.int .u8).C w A x.f2.length x.f2) (hok : Ok x) :
    Calls Tryd.prog 23 #[.agg #[.int .i64 x.f0, .string x.f1, .slice A x.f2.length c, .int .i64 x.f3, .int .i64 x.f4]] w fun e w' => e = .returned (.bool (mayB x)) ∧ Below w.heap.size w w' := by
  have hds := hok.ds
  by_cases h1 : x.f3 < 0
  · have e := Lib.hid (show mayB x = false from may_out x (by omega))
    go_enter Tryd.func23, Tryd.ntmps23
    go_wp2
    go_ret
    exact ⟨ret_bool (by first | exact e.out.symm | (rw [e.out]; simp only [decide_eq_true_eq, decide_eq_false_iff_not]; omega)), by repeat (first | with_reducible exact Below.refl _ _ | apply balloc)⟩
  by_cases h2 : 4095 < x.f3
  · have e := Lib.hid (show mayB x = false from may_out x (by omega))
    go_enter Tryd.func23, Tryd.ntmps23
    go_wp2
    go_ret
    exact ⟨ret_bool (by first | exact e.out.symm | (rw [e.out]; simp only [decide_eq_true_eq, decide_eq_false_iff_not]; omega)), by repeat (first | with_reducible exact Below.refl _ _ | apply balloc)⟩
  by_cases h3 : x.f4 < -1099511627776
  · have e := Lib.hid (show mayB x = false from may_out x (by omega))
    go_enter Tryd.func23, Tryd.ntmps23
    go_wp2
    go_ret
    exact ⟨ret_bool (by first | exact e.out.symm | (rw [e.out]; simp only [decide_eq_true_eq, decide_eq_false_iff_not]; omega)), by repeat (first | with_reducible exact Below.refl _ _ | apply balloc)⟩
  by_cases h4 : 1099511627776 < x.f4
  · have e := Lib.hid (show mayB x = false from may_out x (by omega))
    go_enter Tryd.func23, Tryd.ntmps23
    go_wp2
    go_ret
    exact ⟨ret_bool (by first | exact e.out.symm | (rw [e.out]; simp only [decide_eq_true_eq, decide_eq_false_iff_not]; omega)), by repeat (first | with_reducible exact Below.refl _ _ | apply balloc)⟩
  have hin := Lib.hid (may_in x (by omega))
  have hk := Lib.hid (show kindB x = if x.f0 = 1 then decide ((x.f2.length : Int) = 0) else if x.f0 = 2 then decide ((x.f2.length : Int) ≤ 268435456) else if x.f0 = 3 then decide (1 ≤ x.f2.length ∧ x.f2.length ≤ 1024) && x.f2.all (fun b => b != 0) else false from rfl)
  by_cases k1 : x.f0 = 1
  · by_cases d : x.f2.length = 0
    · have e := Lib.hid (show mayB x = true from by rw [hin.out, hk.out, if_pos k1, decide_eq_true (by omega)])
      go_enter Tryd.func23, Tryd.ntmps23
      go_wp2
      go_ret
      exact ⟨ret_bool (by first | exact e.out.symm | (rw [e.out]; simp only [decide_eq_true_eq, decide_eq_false_iff_not]; omega)), by repeat (first | with_reducible exact Below.refl _ _ | apply balloc)⟩
    · have dn : ((x.f2.length : Int) == 0) = false := beq_eq_false_iff_ne.mpr (by omega)
      have e := Lib.hid (show mayB x = false from by rw [hin.out, hk.out, if_pos k1, decide_eq_false (by omega)])
      go_enter Tryd.func23, Tryd.ntmps23
      go_wp2
      go_ret
      exact ⟨ret_bool (by first | exact e.out.symm | (rw [e.out]; simp only [decide_eq_true_eq, decide_eq_false_iff_not]; omega)), by repeat (first | with_reducible exact Below.refl _ _ | apply balloc)⟩
  by_cases k2 : x.f0 = 2
  · have k1n : (x.f0 == 1) = false := beq_eq_false_iff_ne.mpr k1
    by_cases d : x.f2.length ≤ 268435456
    · have e := Lib.hid (show mayB x = true from by rw [hin.out, hk.out, if_neg k1, if_pos k2, decide_eq_true (by omega)])
      go_enter Tryd.func23, Tryd.ntmps23
      go_wp2
      go_ret
      exact ⟨ret_bool (by first | exact e.out.symm | (rw [e.out]; simp only [decide_eq_true_eq, decide_eq_false_iff_not]; omega)), by repeat (first | with_reducible exact Below.refl _ _ | apply balloc)⟩
    · have e := Lib.hid (show mayB x = false from by rw [hin.out, hk.out, if_neg k1, if_pos k2, decide_eq_false (by omega)])
      go_enter Tryd.func23, Tryd.ntmps23
      go_wp2
      go_ret
      exact ⟨ret_bool (by first | exact e.out.symm | (rw [e.out]; simp only [decide_eq_true_eq, decide_eq_false_iff_not]; omega)), by repeat (first | with_reducible exact Below.refl _ _ | apply balloc)⟩
  by_cases k3 : x.f0 = 3
  · have k1n : (x.f0 == 1) = false := beq_eq_false_iff_ne.mpr k1
    have k2n : (x.f0 == 2) = false := beq_eq_false_iff_ne.mpr k2
    by_cases d : x.f2.length = 0
    · have e := Lib.hid (show mayB x = false from by rw [hin.out, hk.out, if_neg k1, if_neg k2, if_pos k3, decide_eq_false (by omega)]; rfl)
      go_enter Tryd.func23, Tryd.ntmps23
      go_wp2
      go_ret
      exact ⟨ret_bool (by first | exact e.out.symm | (rw [e.out]; simp only [decide_eq_true_eq, decide_eq_false_iff_not]; omega)), by repeat (first | with_reducible exact Below.refl _ _ | apply balloc)⟩
    by_cases d2 : 1024 < x.f2.length
    · have e := Lib.hid (show mayB x = false from by rw [hin.out, hk.out, if_neg k1, if_neg k2, if_pos k3, decide_eq_false (by omega)]; rfl)
      go_enter Tryd.func23, Tryd.ntmps23
      go_wp2
      go_ret
      exact ⟨ret_bool (by first | exact e.out.symm | (rw [e.out]; simp only [decide_eq_true_eq, decide_eq_false_iff_not]; omega)), by repeat (first | with_reducible exact Below.refl _ _ | apply balloc)⟩
    obtain ⟨ad, rfl, _⟩ := Kd.at_int hC 0 (by omega) (by omega)
    have hcell := Lib.hid (show ∀ i, i < x.f2.length → w.cell? (ad.add i) = some (.int .u8 (x.f2.getD i 0)) from fun i hi => by
      obtain ⟨ad2, hA2, hx2⟩ := Kd.at_int hC (i : Int) (by omega) (by omega)
      obtain rfl := Option.some.inj hA2
      rw [Int.toNat_natCast] at hx2
      rw [hx2]
      unfold rd
      rw [Int.toNat_natCast])
    have hcall := Lib.hid (fun W (hb : Below w.heap.size w W) => Tryd.bytes_IndexByte_at ad x.f2.length c x.f2 0 W rfl (fun i hi => bkeep hb (hcell.out i hi)))
    rcases zero_find x.f2 hok.by_ with ⟨z1, z2⟩ | ⟨z1, z2⟩
    · have e := Lib.hid (show mayB x = true by rw [hin.out, hk.out, if_neg k1, if_neg k2, if_pos k3, decide_eq_true (by omega), z1]; rfl)
      have hz : Lib.indexByte (Lib.bytesOf x.f2) (0 : Int).toNat.toUInt8 = Lib.indexByte (Lib.bytesOf x.f2) 0 := rfl
      rw [hz] at hcall
      clear hz hin hk z1
      generalize Lib.indexByte (Lib.bytesOf x.f2) 0 = z at *
      go_enter Tryd.func23, Tryd.ntmps23
      go_wp2_with (go_at_call 44; refine (hcall.out _ (by repeat (first | with_reducible exact Below.refl _ _ | apply balloc))).mono ?_; rintro e1 w1 ⟨rfl, rfl⟩)
      go_ret
      exact ⟨ret_bool (by first | exact e.out.symm | (rw [e.out]; simp only [decide_eq_true_eq, decide_eq_false_iff_not]; omega)), by repeat (first | with_reducible exact Below.refl _ _ | apply balloc)⟩
    · have e := Lib.hid (show mayB x = false by rw [hin.out, hk.out, if_neg k1, if_neg k2, if_pos k3, decide_eq_true (by omega), z1]; rfl)
      have hz : Lib.indexByte (Lib.bytesOf x.f2) (0 : Int).toNat.toUInt8 = Lib.indexByte (Lib.bytesOf x.f2) 0 := rfl
      rw [hz] at hcall
      clear hz hin hk z1
      generalize Lib.indexByte (Lib.bytesOf x.f2) 0 = z at *
      go_enter Tryd.func23, Tryd.ntmps23
      go_wp2_with (go_at_call 44; refine (hcall.out _ (by repeat (first | with_reducible exact Below.refl _ _ | apply balloc))).mono ?_; rintro e1 w1 ⟨rfl, rfl⟩)
      go_ret
      exact ⟨ret_bool (by first | exact e.out.symm | (rw [e.out]; simp only [decide_eq_true_eq, decide_eq_false_iff_not]; omega)), by repeat (first | with_reducible exact Below.refl _ _ | apply balloc)⟩
  · have k1n : (x.f0 == 1) = false := beq_eq_false_iff_ne.mpr k1
    have k2n : (x.f0 == 2) = false := beq_eq_false_iff_ne.mpr k2
    have k3n : (x.f0 == 3) = false := beq_eq_false_iff_ne.mpr k3
    have e := Lib.hid (show mayB x = false from by rw [hin.out, hk.out, if_neg k1, if_neg k2, if_neg k3])
    go_enter Tryd.func23, Tryd.ntmps23
    go_wp2
    go_ret
    exact ⟨ret_bool (by first | exact e.out.symm | (rw [e.out]; simp only [decide_eq_true_eq, decide_eq_false_iff_not]; omega)), by repeat (first | with_reducible exact Below.refl _ _ | apply balloc)⟩
end Go.Proofs.YtageofdcloneoaaDoor.Tree
set_option linter.unusedVariables false
set_option linter.unusedSimpArgs false
namespace Go.Proofs.YtageofdcloneoaaDoor.Tree
open Go.RowKit Go.BigFrame Go.Maps Go.Proofs.YtageofdcloneoaaDoor.Reg Go.Proofs.YtageofdcloneoaaDoor.Rout Go.Proofs.YtageofdcloneoaaDoor.Node Go.Proofs.YtageofdcloneoaaDoorW.PrintWords Go.Proofs.YtageofdcloneoaaDoorW.PrintLast Go.Proofs.YtageofdcloneoaaDoorW.PrintMore
/-! ### plain -/
def isDir (pre : List Nd) (p : ByteArray) : Bool := pre.foldl (fun b n => if n.f1 = p then n.f0 == 1 else b) false
def foldD (pre : List Nd) : DataW Unit := pre.foldl (fun D n => D.put (.string n.f1.data.toList) (.lit (.bool (n.f0 == 1)))) (.map [])
theorem foldD_snoc (pre : List Nd) (n : Nd) : foldD (pre ++ [n]) = (foldD pre).put (.string n.f1.data.toList) (.lit (.bool (n.f0 == 1))) := by unfold foldD; rw [List.foldl_append]; rfl
theorem isDir_snoc (pre : List Nd) (n : Nd) (p : ByteArray) : isDir (pre ++ [n]) p = if n.f1 = p then n.f0 == 1 else isDir pre p := by unfold isDir; rw [List.foldl_append]; rfl
theorem snoc_ind {α : Type} {P : List α → Prop} (h0 : P []) (h1 : ∀ l x, P l → P (l ++ [x])) (l : List α) : P l := by
  have : ∀ n (l : List α), l.length = n → P l := by
    intro n
    induction n with
    | zero => intro l hl; obtain rfl := List.eq_nil_of_length_eq_zero hl; exact h0
    | succ n ih =>
      intro l hl
      have hne : l ≠ [] := by rintro rfl; simp at hl
      rw [← List.dropLast_concat_getLast hne]
      exact h1 _ _ (ih _ (by simp; omega))
  exact this _ l rfl
theorem isMap_foldD (l : List Nd) : IsMap (foldD l) := by
  induction l using snoc_ind with
  | h0 => exact isMap_empty
  | h1 l x ih => rw [foldD_snoc]; exact ih.put _ _
theorem foldD_at (l : List Nd) (p : ByteArray) : (foldD l).atKey (.string p.data.toList) (.lit (.bool false)) = .lit (.bool (isDir l p)) := by
  induction l using snoc_ind with
  | h0 => rfl
  | h1 l x ih =>
    rw [foldD_snoc, isDir_snoc]
    by_cases h : x.f1 = p
    · subst h
      rw [atKey_put_same (isMap_foldD l) (by trivial), if_pos rfl]
    · rw [atKey_put_other (fun e => h (ba_ext (by injection e with e; exact e.symm))), if_neg h, ih]
def errAt (l : List Nd) (k : Nat) : Int :=
  if validB (rdN l k).f1 = false then 20
  else if mayB (rdN l k) = false ∨ 65536 ≤ k then 21
  else if 0 < k ∧ 0 ≤ compB (rdN l (k - 1)).f1 (rdN l k).f1 then 21
  else if (parB (rdN l k).f1).2 = true ∧ isDir (l.take k) (parB (rdN l k).f1).1 = false then 21 else 0
def chkN (l : List Nd) : Nat → Int × Int
  | 0 => (0, 0)
  | f + 1 => if errAt l (l.length - (f + 1)) = 0 then chkN l f else (((l.length - (f + 1) : Nat) : Int), errAt l (l.length - (f + 1)))
def chk (l : List Nd) : Int × Int := chkN l l.length
theorem chkN_step (l : List Nd) (k : Nat) (h : k < l.length) : chkN l (l.length - k) = if errAt l k = 0 then chkN l (l.length - (k + 1)) else ((k : Int), errAt l k) := by
  obtain ⟨f, hf⟩ : ∃ f, l.length - k = f + 1 := ⟨l.length - k - 1, by omega⟩
  rw [hf]
  show (if errAt l (l.length - (f + 1)) = 0 then chkN l f else (((l.length - (f + 1) : Nat) : Int), errAt l (l.length - (f + 1)))) = _
  rw [show l.length - (f + 1) = k by omega, show l.length - (k + 1) = f by omega]
theorem rdN_mem (l : List Nd) (k : Nat) (h : k < l.length) : rdN l (k : Int) ∈ l := by
  unfold rdN
  rw [Int.toNat_natCast, List.getD_eq_getElem?_getD, List.getElem?_eq_getElem h]
  exact List.getElem_mem h
theorem take_rdN (l : List Nd) (k : Nat) (h : k < l.length) : l.take (k + 1) = l.take k ++ [rdN l (k : Int)] := by
  rw [List.take_succ_eq_append_getElem h]
  unfold rdN
  rw [Int.toNat_natCast, List.getD_eq_getElem?_getD, List.getElem?_eq_getElem h]
  rfl
theorem parB_size (s : ByteArray) : (parB s).1.size ≤ s.size := by
  unfold parB
  split
  · rw [ByteArray.size_extract]; omega
  · exact Nat.zero_le _
theorem valid_size (s : ByteArray) (h : validB s = true) : s.size ≤ 1024 := by
  unfold validB at h
  simp at h
  exact h.2
theorem key9 : Keyed Tryd.prog 9 := string_keyed Tryd.underlying9
theorem zero4 (w : World) : (zeroValue 4).run Tryd.prog w = .ok (.bool false) w := by kernel_rfl
abbrev owns (w : World) (b n : Nat) (D : DataW Unit) : Prop := w.ownsMap Tryd.prog 9 (plainElem Tryd.prog 4) b n D
theorem owns_look {w : World} {b n : Nat} {l : List Nd} (h : owns w b n (foldD l)) (p : ByteArray) (hp : p.size ≤ 140737488351232) : (Instr.lookup 58 (.map (some b)) (.string p) false).run Tryd.prog w = .ok (.bool (isDir l p)) w := by
  obtain ⟨v, ps, hrun, hv⟩ := h.lookup key9 Tryd.underlying58 (zero4 w) (plainElem_bool Tryd.underlying4 false) (Go.WideMaps.keyOf_string_mk (s := p) Tryd.underlying9 (by unfold maxLen; omega))
  rw [foldD_at] at hv
  have : v = .bool (isDir l p) := by
    simp only [plainElem, Tryd.underlying4] at hv
    cases v <;> simp at hv
    rw [hv.1]
  rw [hrun, this]
set_option maxRecDepth 100000 in
set_option maxHeartbeats 8000000 in
theorem check_calls (A : Option Addr) (c : Nat) (l : List Nd) (w : World) (hC : kN.C w A l.length l) (hok : ∀ x ∈ l, Ok x) (hl : l.length ≤ 140737488351232) :
    Calls Tryd.prog 7 #[.slice A l.length c] w fun e w' => e = .returned (.tuple #[.int .i64 (chk l).1, .int .i64 (chk l).2]) ∧ Below w.heap.size w w' := by
  have HC := Lib.hid hC
  have HOK := Lib.hid hok
  have hmm := @run_makeMap Tryd.prog
  clear hC hok
  go_enter Tryd.func7, Tryd.ntmps7
  go_wp2
  clear hmm
  go_loopw [5, 6, 7, 8, 12] (fun _ _ _ _ i wr => ∃ k : Nat, i = .int .i64 k ∧ k ≤ l.length ∧ Hid (owns wr w.heap.size k (foldD (l.take k))) ∧ Below w.heap.size w wr ∧ Hid (chkN l (l.length - k) = chk l) ∧ Hid (0 < k → (rdN l (k - 1)).f1.size ≤ 1024)) (fun _ _ _ _ i _ => (l.length - intOf i).toNat)
  case atStart => exact ⟨0, rfl, by omega, Lib.hid (World.ownsMap_made _ _ _ _), balloc (Below.refl _ _) _, Lib.hid rfl, Lib.hid (fun h => by omega)⟩
  case round =>
    obtain ⟨k, rfl, hk, hown, hb, hch, hpz⟩ := hrel
    by_cases hlt : k < l.length
    · obtain ⟨ad, A2, c2, hA, c0, c1, c2', c3, c4, hl2, hd⟩ := atN (Kd.C_below HC.out hb) (k : Int) (by omega) (by omega)
      subst hA
      have hxm := rdN_mem l k hlt
      have hok := HOK.out _ hxm
      have hps := hok.ps
      have HOKX := Lib.hid hok
      have hE := Lib.hid (show errAt l k = if validB (rdN l k).f1 = false then 20 else if mayB (rdN l k) = false ∨ 65536 ≤ k then 21 else if 0 < k ∧ 0 ≤ compB (rdN l (k - 1)).f1 (rdN l k).f1 then 21 else if (parB (rdN l k).f1).2 = true ∧ isDir (l.take k) (parB (rdN l k).f1).1 = false then 21 else 0 from rfl)
      have hst := Lib.hid (chkN_step l k hlt)
      have htk := Lib.hid (take_rdN l k hlt)
      have HD := Lib.hid hd
      have hpv := Lib.hid (fun hp : 0 < k => show ∃ a2, wr.cell? a2 = some (.string (rdN l ((k : Int) - 1)).f1) ∧ a2 = (⟨(ad.add ((k - 1) * 5)).block, (ad.add ((k - 1) * 5)).off + 1, none⟩ : Addr) by
        obtain ⟨ad2, A3, c3, hA3, _, d1, _⟩ := atN (Kd.C_below HC.out hb) ((k : Int) - 1) (by omega) (by omega)
        obtain rfl := Option.some.inj hA3
        rw [show ((k : Int) - 1).toNat = k - 1 by omega] at d1
        exact ⟨_, d1, rfl⟩)
      rw [Int.toNat_natCast] at c0 c1 c2' c3 c4
      clear hok hxm hd
      generalize hx : rdN l (k : Int) = x at *
      have HX := Lib.hid hx
      clear hx
      generalize rdN l ((k : Int) - 1) = y at *
      cases hv : validB x.f1
      · have HR := Lib.hid (show chk l = ((k : Int), 20) by have h2 : errAt l k = 20 := by rw [hE.out, if_pos hv]
                                                            rw [← hch.out, hst.out, h2]; rfl)
        have HV := Lib.hid (fun W => valid_calls x.f1 W (by omega))
        rw [hv] at HV
        clear hE hst hch htk hpv hv
        go_wp2_with (go_at_call 21; refine (HV.out _).mono ?_; rintro e w1 ⟨rfl, hb1⟩)
        go_ret2
        rw [HR.out]
        exact ⟨rfl, bgo (balloc hb _) hb1⟩
      · have hvs := valid_size _ hv
        have HV := Lib.hid (fun W => valid_calls x.f1 W (by omega))
        have HP := Lib.hid (fun W => parent_calls x.f1 W (by omega))
        rw [hv] at HV
        have hE2 := Lib.hid (show errAt l k = if mayB x = false ∨ 65536 ≤ k then 21 else if 0 < k ∧ 0 ≤ compB y.f1 x.f1 then 21 else if (parB x.f1).2 = true ∧ isDir (l.take k) (parB x.f1).1 = false then 21 else 0 by rw [hE.out, if_neg (by rw [hv]; simp)])
        have hq := Lib.hid (show (parB x.f1).1.size ≤ 1024 from Nat.le_trans (parB_size _) hvs)
        clear hE hv
        generalize (parB x.f1).1 = pa at *
        generalize (parB x.f1).2 = inner at *
        go_upto_region 8 with (first
          | (go_at_call 21; refine (HV.out _).mono ?_; rintro e w1 ⟨rfl, hb1⟩; have m0 := bkeep hb1 (show (wr.alloc (.cells #[.int .i64 x.f0, .string x.f1, .slice A2 x.f2.length c2, .int .i64 x.f3, .int .i64 x.f4] 33)).cell? ⟨wr.heap.size, 1, none⟩ = some (.string x.f1) by simp))
          | (go_at_call 22; refine (HP.out _).mono ?_; rintro e w2 ⟨rfl, hb2⟩))
        have hbn := bgo hb1 hb2
        have hsz := hbn.size
        rw [World.size_alloc] at hsz
        have n0 : w2.cell? ⟨wr.heap.size, 0, none⟩ = some (.int .i64 x.f0) := bkeep hbn (by simp)
        have n1 : w2.cell? ⟨wr.heap.size, 1, none⟩ = some (.string x.f1) := bkeep hbn (by simp)
        have n2 : w2.cell? ⟨wr.heap.size, 2, none⟩ = some (.slice A2 x.f2.length c2) := bkeep hbn (by simp)
        have n3 : w2.cell? ⟨wr.heap.size, 3, none⟩ = some (.int .i64 x.f3) := bkeep hbn (by simp)
        have n4 : w2.cell? ⟨wr.heap.size, 4, none⟩ = some (.int .i64 x.f4) := bkeep hbn (by simp)
        have HBN := Lib.hid (show Below wr.heap.size wr w2 from ⟨hbn.os, hbn.tape, hbn.output, by omega, fun i hi => (hbn.block i (by simp; omega)).trans (Below.heap_alloc wr _ i hi)⟩)
        have HOWN := Lib.hid (show owns w2 w.heap.size k (foldD (l.take k)) from hown.out.kept (row := none) (grownBy_of_below HBN.out) (by simp))
        have HW := Lib.hid (bgo hb HBN.out)
        clear hb1 hb2 hbn m0 c0 c1 c2' c3 c4 HV HP hb hown
        have HM := Lib.hid (fun n : Abv w2 => may_calls x A2 c2 n.w (Kd.C_below HD.out (bgo HBN.out n.bel)) HOKX.out)
        have HCM := Lib.hid (fun (W : World) (h : y.f1.size ≤ 1024) => compare_calls y.f1 x.f1 W h (by omega))
        have HL := Lib.hid (fun n : Abv w2 => owns_look (w := n.w) (HOWN.out.kept (row := none) (grownBy_of_below n.bel) (by simp)) pa (by have := hq.out; omega))
        have hpc := Lib.hid (fun hp : 0 < k => show w2.cell? ⟨(ad.add ((k - 1) * 5)).block, (ad.add ((k - 1) * 5)).off + 1, none⟩ = some (.string y.f1) by
          obtain ⟨a2, h1, h2⟩ := hpv.out hp
          rw [← h2]
          exact bkeep HBN.out h1)
        clear hpv
        have hkI : 0 ≤ (k : Int) := by omega
        cases hm : mayB x
        · skip
          have HR := Lib.hid (show chk l = ((k : Int), 21) by rw [← hch.out, hst.out, show errAt l k = 21 by rw [hE2.out, if_pos (.inl hm)]]; rfl)
          rw [hm] at HM
          clear hE2 hst hch htk hpc hm HCM HL
          refine wp_region_above (by kernel_rfl) (by kernel_rfl) ?_
          intro ne
          have q0 : ∀ n : Abv w2, n.w.cell? ⟨wr.heap.size, 0, none⟩ = some (.int .i64 x.f0) := fun n => n.cell n0
          have q1 : ∀ n : Abv w2, n.w.cell? ⟨wr.heap.size, 1, none⟩ = some (.string x.f1) := fun n => n.cell n1
          have q2 : ∀ n : Abv w2, n.w.cell? ⟨wr.heap.size, 2, none⟩ = some (.slice A2 x.f2.length c2) := fun n => n.cell n2
          have q3 : ∀ n : Abv w2, n.w.cell? ⟨wr.heap.size, 3, none⟩ = some (.int .i64 x.f3) := fun n => n.cell n3
          have q4 : ∀ n : Abv w2, n.w.cell? ⟨wr.heap.size, 4, none⟩ = some (.int .i64 x.f4) := fun n => n.cell n4
          repeat (go_big_quiet_step ((go_at_call 23; exact Abv.call _ (HM.out _))))
          refine quiet_above ?_
          intro w4 hb4
          go_wp2
          go_ret2
          rw [HR.out]
          exact ⟨rfl, bgo HW.out hb4⟩
        · rw [hm] at HM
          by_cases hbig : 65536 ≤ k
          · skip
            have HR := Lib.hid (show chk l = ((k : Int), 21) by rw [← hch.out, hst.out, show errAt l k = 21 by rw [hE2.out, if_pos (.inr hbig)]]; rfl)
            have hbd : decide (65536 ≤ (k : Int)) = true := decide_eq_true (by omega)
            clear hE2 hst hch htk hpc hm HCM HL
            refine wp_region_above (by kernel_rfl) (by kernel_rfl) ?_
            intro ne
            have q0 : ∀ n : Abv w2, n.w.cell? ⟨wr.heap.size, 0, none⟩ = some (.int .i64 x.f0) := fun n => n.cell n0
            have q1 : ∀ n : Abv w2, n.w.cell? ⟨wr.heap.size, 1, none⟩ = some (.string x.f1) := fun n => n.cell n1
            have q2 : ∀ n : Abv w2, n.w.cell? ⟨wr.heap.size, 2, none⟩ = some (.slice A2 x.f2.length c2) := fun n => n.cell n2
            have q3 : ∀ n : Abv w2, n.w.cell? ⟨wr.heap.size, 3, none⟩ = some (.int .i64 x.f3) := fun n => n.cell n3
            have q4 : ∀ n : Abv w2, n.w.cell? ⟨wr.heap.size, 4, none⟩ = some (.int .i64 x.f4) := fun n => n.cell n4
            repeat (go_big_quiet_step ((go_at_call 23; exact Abv.call _ (HM.out _))))
            refine quiet_above ?_
            intro w4 hb4
            go_wp2
            go_ret2
            rw [HR.out]
            exact ⟨rfl, bgo HW.out hb4⟩
          · have hE3 := Lib.hid (show errAt l k = if 0 < k ∧ 0 ≤ compB y.f1 x.f1 then 21 else if inner = true ∧ isDir (l.take k) pa = false then 21 else 0 by rw [hE2.out, if_neg (by rw [hm]; simp; omega)])
            clear hE2 hm
            have hbd : decide (65536 ≤ (k : Int)) = false := decide_eq_false (by omega)
            by_cases hk0 : 0 < k
            · have hys := hpz.out hk0
              have hpcv := hpc.out hk0
              by_cases hcmp : 0 ≤ compB y.f1 x.f1
              · skip
                have HR := Lib.hid (show chk l = ((k : Int), 21) by rw [← hch.out, hst.out, show errAt l k = 21 by rw [hE3.out, if_pos ⟨hk0, hcmp⟩]]; rfl)
                clear hE3 hst hch htk hpc HL
                generalize compB y.f1 x.f1 = z at *
                have hzd : decide (0 ≤ z) = true := decide_eq_true hcmp
                refine wp_region_above (by kernel_rfl) (by kernel_rfl) ?_
                intro ne
                have q0 : ∀ n : Abv w2, n.w.cell? ⟨wr.heap.size, 0, none⟩ = some (.int .i64 x.f0) := fun n => n.cell n0
                have q1 : ∀ n : Abv w2, n.w.cell? ⟨wr.heap.size, 1, none⟩ = some (.string x.f1) := fun n => n.cell n1
                have q2 : ∀ n : Abv w2, n.w.cell? ⟨wr.heap.size, 2, none⟩ = some (.slice A2 x.f2.length c2) := fun n => n.cell n2
                have q3 : ∀ n : Abv w2, n.w.cell? ⟨wr.heap.size, 3, none⟩ = some (.int .i64 x.f3) := fun n => n.cell n3
                have q4 : ∀ n : Abv w2, n.w.cell? ⟨wr.heap.size, 4, none⟩ = some (.int .i64 x.f4) := fun n => n.cell n4
                have q5 : ∀ n : Abv w2, n.w.cell? ⟨(ad.add ((k - 1) * 5)).block, (ad.add ((k - 1) * 5)).off + 1, none⟩ = some (.string y.f1) := fun n => n.cell hpcv
                repeat (go_big_quiet_step ((first | (go_at_call 23; exact Abv.call _ (HM.out _)) | (go_at_call 24; exact Abv.call _ (HCM.out _ hys)))))
                refine quiet_above ?_
                intro w4 hb4
                go_wp2
                go_ret2
                rw [HR.out]
                exact ⟨rfl, bgo HW.out hb4⟩
              · have hcn := Lib.hid (show ¬ (0 < k ∧ 0 ≤ compB y.f1 x.f1) from fun h => hcmp h.2)
                have hcmp2 : compB y.f1 x.f1 < 0 := by omega
                clear hcmp
                have hE4 := Lib.hid (show errAt l k = if inner = true ∧ isDir (l.take k) pa = false then 21 else 0 by rw [hE3.out, if_neg hcn.out])
                clear hcn
                generalize compB y.f1 x.f1 = z at *
                have hzd : decide (0 ≤ z) = false := decide_eq_false (by omega)
                cases inner
                · skip
                  have HR := Lib.hid (show chkN l (l.length - (k + 1)) = chk l by rw [← hch.out, hst.out, show errAt l k = 0 by rw [hE4.out, if_neg (by simp)]]; rfl)
                  clear hE3 hE4 hst hch hpc HL
                  refine wp_region_above (by kernel_rfl) (by kernel_rfl) ?_
                  intro ne
                  have q0 : ∀ n : Abv w2, n.w.cell? ⟨wr.heap.size, 0, none⟩ = some (.int .i64 x.f0) := fun n => n.cell n0
                  have q1 : ∀ n : Abv w2, n.w.cell? ⟨wr.heap.size, 1, none⟩ = some (.string x.f1) := fun n => n.cell n1
                  have q2 : ∀ n : Abv w2, n.w.cell? ⟨wr.heap.size, 2, none⟩ = some (.slice A2 x.f2.length c2) := fun n => n.cell n2
                  have q3 : ∀ n : Abv w2, n.w.cell? ⟨wr.heap.size, 3, none⟩ = some (.int .i64 x.f3) := fun n => n.cell n3
                  have q4 : ∀ n : Abv w2, n.w.cell? ⟨wr.heap.size, 4, none⟩ = some (.int .i64 x.f4) := fun n => n.cell n4
                  have q5 : ∀ n : Abv w2, n.w.cell? ⟨(ad.add ((k - 1) * 5)).block, (ad.add ((k - 1) * 5)).off + 1, none⟩ = some (.string y.f1) := fun n => n.cell hpcv
                  repeat (go_big_quiet_step ((first | (go_at_call 23; exact Abv.call _ (HM.out _)) | (go_at_call 24; exact Abv.call _ (HCM.out _ hys)))))
                  refine quiet_above ?_
                  intro w4 hb4
                  have r0 := bkeep hb4 n0
                  have r1 := bkeep hb4 n1
                  have HO4 := Lib.hid (show owns w4 w.heap.size k (foldD (l.take k)) from HOWN.out.kept (row := none) (grownBy_of_below hb4) (by simp))
                  have HB4 := Lib.hid (bgo HW.out hb4)
                  have HZ := Lib.hid (show 0 < k + 1 → (rdN l (((k + 1 : Nat) : Int) - 1)).f1.size ≤ 1024 from fun _ => by rw [show (((k + 1 : Nat) : Int) - 1) = (k : Int) by omega, HX.out]; exact hvs)
                  clear hb4
                  go_wp2_with (at_mapUpdate; refine wpList_mapUpdate_own _ rfl _ _ _ 58 rfl 9 4 key9 Tryd.underlying58 _ w.heap.size k _ rfl HO4.out (by unfold maxLen; omega) _ _ _ rfl rfl (Go.WideMaps.keyOf_string_mk Tryd.underlying9 (by unfold maxLen; omega)) _ [] (plainElem_bool Tryd.underlying4 _) ?_; intro w5 hown5 hgr5)
                  have HB5 := Lib.hid (HB4.out.grown hgr5 HB4.out.size (fun j e => by injection e with e; omega))
                  have HO5 := Lib.hid (show owns w5 w.heap.size (k + 1) (foldD (l.take (k + 1))) by rw [htk.out, foldD_snoc]; exact hown5)
                  clear hown5 hgr5
                  go_wp2
                  go_roundw
                  case rel => exact ⟨k + 1, by go_num, by omega, HO5, HB5.out, HR, HZ⟩
                  case measure => simp [intOf]; omega
                · cases hdir : isDir (l.take k) pa
                  · skip
                    have HR := Lib.hid (show chk l = ((k : Int), 21) by rw [← hch.out, hst.out, show errAt l k = 21 by rw [hE4.out, if_pos ⟨rfl, hdir⟩]]; rfl)
                    rw [hdir] at HL
                    clear hE3 hE4 hst hch htk hpc hdir
                    refine wp_region_above (by kernel_rfl) (by kernel_rfl) ?_
                    intro ne
                    have q0 : ∀ n : Abv w2, n.w.cell? ⟨wr.heap.size, 0, none⟩ = some (.int .i64 x.f0) := fun n => n.cell n0
                    have q1 : ∀ n : Abv w2, n.w.cell? ⟨wr.heap.size, 1, none⟩ = some (.string x.f1) := fun n => n.cell n1
                    have q2 : ∀ n : Abv w2, n.w.cell? ⟨wr.heap.size, 2, none⟩ = some (.slice A2 x.f2.length c2) := fun n => n.cell n2
                    have q3 : ∀ n : Abv w2, n.w.cell? ⟨wr.heap.size, 3, none⟩ = some (.int .i64 x.f3) := fun n => n.cell n3
                    have q4 : ∀ n : Abv w2, n.w.cell? ⟨wr.heap.size, 4, none⟩ = some (.int .i64 x.f4) := fun n => n.cell n4
                    have q5 : ∀ n : Abv w2, n.w.cell? ⟨(ad.add ((k - 1) * 5)).block, (ad.add ((k - 1) * 5)).off + 1, none⟩ = some (.string y.f1) := fun n => n.cell hpcv
                    have q6 := HL.out
                    repeat (go_big_quiet_step ((first | (go_at_call 23; exact Abv.call _ (HM.out _)) | (go_at_call 24; exact Abv.call _ (HCM.out _ hys)))))
                    refine quiet_above ?_
                    intro w4 hb4
                    go_wp2
                    go_ret2
                    rw [HR.out]
                    exact ⟨rfl, bgo HW.out hb4⟩
                  · skip
                    have HR := Lib.hid (show chkN l (l.length - (k + 1)) = chk l by rw [← hch.out, hst.out, show errAt l k = 0 by rw [hE4.out, if_neg (by rw [hdir]; simp)]]; rfl)
                    rw [hdir] at HL
                    clear hE3 hE4 hst hch hpc hdir
                    refine wp_region_above (by kernel_rfl) (by kernel_rfl) ?_
                    intro ne
                    have q0 : ∀ n : Abv w2, n.w.cell? ⟨wr.heap.size, 0, none⟩ = some (.int .i64 x.f0) := fun n => n.cell n0
                    have q1 : ∀ n : Abv w2, n.w.cell? ⟨wr.heap.size, 1, none⟩ = some (.string x.f1) := fun n => n.cell n1
                    have q2 : ∀ n : Abv w2, n.w.cell? ⟨wr.heap.size, 2, none⟩ = some (.slice A2 x.f2.length c2) := fun n => n.cell n2
                    have q3 : ∀ n : Abv w2, n.w.cell? ⟨wr.heap.size, 3, none⟩ = some (.int .i64 x.f3) := fun n => n.cell n3
                    have q4 : ∀ n : Abv w2, n.w.cell? ⟨wr.heap.size, 4, none⟩ = some (.int .i64 x.f4) := fun n => n.cell n4
                    have q5 : ∀ n : Abv w2, n.w.cell? ⟨(ad.add ((k - 1) * 5)).block, (ad.add ((k - 1) * 5)).off + 1, none⟩ = some (.string y.f1) := fun n => n.cell hpcv
                    have q6 := HL.out
                    repeat (go_big_quiet_step ((first | (go_at_call 23; exact Abv.call _ (HM.out _)) | (go_at_call 24; exact Abv.call _ (HCM.out _ hys)))))
                    refine quiet_above ?_
                    intro w4 hb4
                    have r0 := bkeep hb4 n0
                    have r1 := bkeep hb4 n1
                    have HO4 := Lib.hid (show owns w4 w.heap.size k (foldD (l.take k)) from HOWN.out.kept (row := none) (grownBy_of_below hb4) (by simp))
                    have HB4 := Lib.hid (bgo HW.out hb4)
                    have HZ := Lib.hid (show 0 < k + 1 → (rdN l (((k + 1 : Nat) : Int) - 1)).f1.size ≤ 1024 from fun _ => by rw [show (((k + 1 : Nat) : Int) - 1) = (k : Int) by omega, HX.out]; exact hvs)
                    clear hb4
                    go_wp2_with (at_mapUpdate; refine wpList_mapUpdate_own _ rfl _ _ _ 58 rfl 9 4 key9 Tryd.underlying58 _ w.heap.size k _ rfl HO4.out (by unfold maxLen; omega) _ _ _ rfl rfl (Go.WideMaps.keyOf_string_mk Tryd.underlying9 (by unfold maxLen; omega)) _ [] (plainElem_bool Tryd.underlying4 _) ?_; intro w5 hown5 hgr5)
                    have HB5 := Lib.hid (HB4.out.grown hgr5 HB4.out.size (fun j e => by injection e with e; omega))
                    have HO5 := Lib.hid (show owns w5 w.heap.size (k + 1) (foldD (l.take (k + 1))) by rw [htk.out, foldD_snoc]; exact hown5)
                    clear hown5 hgr5
                    go_wp2
                    go_roundw
                    case rel => exact ⟨k + 1, by go_num, by omega, HO5, HB5.out, HR, HZ⟩
                    case measure => simp [intOf]; omega
            · have hkn : ¬ (0 : Int) < (k : Int) := by omega
              have hkd : decide ((0 : Int) < (k : Int)) = false := decide_eq_false hkn
              have hE4 := Lib.hid (show errAt l k = if inner = true ∧ isDir (l.take k) pa = false then 21 else 0 by rw [hE3.out, if_neg (fun h => hk0 h.1)])
              cases inner
              · skip
                have HR := Lib.hid (show chkN l (l.length - (k + 1)) = chk l by rw [← hch.out, hst.out, show errAt l k = 0 by rw [hE4.out, if_neg (by simp)]]; rfl)
                clear hE3 hE4 hst hch hpc HCM HL
                refine wp_region_above (by kernel_rfl) (by kernel_rfl) ?_
                intro ne
                have q0 : ∀ n : Abv w2, n.w.cell? ⟨wr.heap.size, 0, none⟩ = some (.int .i64 x.f0) := fun n => n.cell n0
                have q1 : ∀ n : Abv w2, n.w.cell? ⟨wr.heap.size, 1, none⟩ = some (.string x.f1) := fun n => n.cell n1
                have q2 : ∀ n : Abv w2, n.w.cell? ⟨wr.heap.size, 2, none⟩ = some (.slice A2 x.f2.length c2) := fun n => n.cell n2
                have q3 : ∀ n : Abv w2, n.w.cell? ⟨wr.heap.size, 3, none⟩ = some (.int .i64 x.f3) := fun n => n.cell n3
                have q4 : ∀ n : Abv w2, n.w.cell? ⟨wr.heap.size, 4, none⟩ = some (.int .i64 x.f4) := fun n => n.cell n4
                repeat (go_big_quiet_step ((go_at_call 23; exact Abv.call _ (HM.out _))))
                refine quiet_above ?_
                intro w4 hb4
                have r0 := bkeep hb4 n0
                have r1 := bkeep hb4 n1
                have HO4 := Lib.hid (show owns w4 w.heap.size k (foldD (l.take k)) from HOWN.out.kept (row := none) (grownBy_of_below hb4) (by simp))
                have HB4 := Lib.hid (bgo HW.out hb4)
                have HZ := Lib.hid (show 0 < k + 1 → (rdN l (((k + 1 : Nat) : Int) - 1)).f1.size ≤ 1024 from fun _ => by rw [show (((k + 1 : Nat) : Int) - 1) = (k : Int) by omega, HX.out]; exact hvs)
                clear hb4
                go_wp2_with (at_mapUpdate; refine wpList_mapUpdate_own _ rfl _ _ _ 58 rfl 9 4 key9 Tryd.underlying58 _ w.heap.size k _ rfl HO4.out (by unfold maxLen; omega) _ _ _ rfl rfl (Go.WideMaps.keyOf_string_mk Tryd.underlying9 (by unfold maxLen; omega)) _ [] (plainElem_bool Tryd.underlying4 _) ?_; intro w5 hown5 hgr5)
                have HB5 := Lib.hid (HB4.out.grown hgr5 HB4.out.size (fun j e => by injection e with e; omega))
                have HO5 := Lib.hid (show owns w5 w.heap.size (k + 1) (foldD (l.take (k + 1))) by rw [htk.out, foldD_snoc]; exact hown5)
                clear hown5 hgr5
                go_wp2
                go_roundw
                case rel => exact ⟨k + 1, by go_num, by omega, HO5, HB5.out, HR, HZ⟩
                case measure => simp [intOf]; omega
              · cases hdir : isDir (l.take k) pa
                · skip
                  have HR := Lib.hid (show chk l = ((k : Int), 21) by rw [← hch.out, hst.out, show errAt l k = 21 by rw [hE4.out, if_pos ⟨rfl, hdir⟩]]; rfl)
                  rw [hdir] at HL
                  clear hE3 hE4 hst hch htk hpc hdir HCM
                  refine wp_region_above (by kernel_rfl) (by kernel_rfl) ?_
                  intro ne
                  have q0 : ∀ n : Abv w2, n.w.cell? ⟨wr.heap.size, 0, none⟩ = some (.int .i64 x.f0) := fun n => n.cell n0
                  have q1 : ∀ n : Abv w2, n.w.cell? ⟨wr.heap.size, 1, none⟩ = some (.string x.f1) := fun n => n.cell n1
                  have q2 : ∀ n : Abv w2, n.w.cell? ⟨wr.heap.size, 2, none⟩ = some (.slice A2 x.f2.length c2) := fun n => n.cell n2
                  have q3 : ∀ n : Abv w2, n.w.cell? ⟨wr.heap.size, 3, none⟩ = some (.int .i64 x.f3) := fun n => n.cell n3
                  have q4 : ∀ n : Abv w2, n.w.cell? ⟨wr.heap.size, 4, none⟩ = some (.int .i64 x.f4) := fun n => n.cell n4
                  have q6 := HL.out
                  repeat (go_big_quiet_step ((go_at_call 23; exact Abv.call _ (HM.out _))))
                  refine quiet_above ?_
                  intro w4 hb4
                  go_wp2
                  go_ret2
                  rw [HR.out]
                  exact ⟨rfl, bgo HW.out hb4⟩
                · skip
                  have HR := Lib.hid (show chkN l (l.length - (k + 1)) = chk l by rw [← hch.out, hst.out, show errAt l k = 0 by rw [hE4.out, if_neg (by rw [hdir]; simp)]]; rfl)
                  rw [hdir] at HL
                  clear hE3 hE4 hst hch hpc hdir HCM
                  refine wp_region_above (by kernel_rfl) (by kernel_rfl) ?_
                  intro ne
                  have q0 : ∀ n : Abv w2, n.w.cell? ⟨wr.heap.size, 0, none⟩ = some (.int .i64 x.f0) := fun n => n.cell n0
                  have q1 : ∀ n : Abv w2, n.w.cell? ⟨wr.heap.size, 1, none⟩ = some (.string x.f1) := fun n => n.cell n1
                  have q2 : ∀ n : Abv w2, n.w.cell? ⟨wr.heap.size, 2, none⟩ = some (.slice A2 x.f2.length c2) := fun n => n.cell n2
                  have q3 : ∀ n : Abv w2, n.w.cell? ⟨wr.heap.size, 3, none⟩ = some (.int .i64 x.f3) := fun n => n.cell n3
                  have q4 : ∀ n : Abv w2, n.w.cell? ⟨wr.heap.size, 4, none⟩ = some (.int .i64 x.f4) := fun n => n.cell n4
                  have q6 := HL.out
                  repeat (go_big_quiet_step ((go_at_call 23; exact Abv.call _ (HM.out _))))
                  refine quiet_above ?_
                  intro w4 hb4
                  have r0 := bkeep hb4 n0
                  have r1 := bkeep hb4 n1
                  have HO4 := Lib.hid (show owns w4 w.heap.size k (foldD (l.take k)) from HOWN.out.kept (row := none) (grownBy_of_below hb4) (by simp))
                  have HB4 := Lib.hid (bgo HW.out hb4)
                  have HZ := Lib.hid (show 0 < k + 1 → (rdN l (((k + 1 : Nat) : Int) - 1)).f1.size ≤ 1024 from fun _ => by rw [show (((k + 1 : Nat) : Int) - 1) = (k : Int) by omega, HX.out]; exact hvs)
                  clear hb4
                  go_wp2_with (at_mapUpdate; refine wpList_mapUpdate_own _ rfl _ _ _ 58 rfl 9 4 key9 Tryd.underlying58 _ w.heap.size k _ rfl HO4.out (by unfold maxLen; omega) _ _ _ rfl rfl (Go.WideMaps.keyOf_string_mk Tryd.underlying9 (by unfold maxLen; omega)) _ [] (plainElem_bool Tryd.underlying4 _) ?_; intro w5 hown5 hgr5)
                  have HB5 := Lib.hid (HB4.out.grown hgr5 HB4.out.size (fun j e => by injection e with e; omega))
                  have HO5 := Lib.hid (show owns w5 w.heap.size (k + 1) (foldD (l.take (k + 1))) by rw [htk.out, foldD_snoc]; exact hown5)
                  clear hown5 hgr5
                  go_wp2
                  go_roundw
                  case rel => exact ⟨k + 1, by go_num, by omega, HO5, HB5.out, HR, HZ⟩
                  case measure => simp [intOf]; omega
    · have hz : k = l.length := by omega
      have HR := Lib.hid (show chk l = (0, 0) by rw [← hch.out, hz, Nat.sub_self]; rfl)
      clear hch hpz hz
      go_wp2
      go_ret2
      rw [HR.out]
      exact ⟨rfl, hb⟩
end Go.Proofs.YtageofdcloneoaaDoor.Tree
