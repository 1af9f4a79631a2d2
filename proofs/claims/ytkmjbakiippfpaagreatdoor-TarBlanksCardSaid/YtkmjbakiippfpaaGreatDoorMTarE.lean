/- TarE, TarJ put together. -/
import Derived.Test.YtkmjbakiippfpaaGreatDoorMTarB
import Derived.Deep.CutBlock
import Derived.Test.YtkmjbakiippfpaaGreatDoorTarMShelf
import Derived.Test.YtkmjbakiippfpaaGreatDoorMTarF
import Derived.Test.YtkmjbakiippfpaaGreatDoorMTree
import Derived.BigQuiet
import Derived.BigRegion
import Derived.Deep.RegionHeld3
import Derived.RegionTactic
set_option linter.unusedVariables false
set_option linter.unusedSimpArgs false
namespace Go.Proofs.YtkmjbakiippfpaaGreatDoor.Tar
open Go.RowKit Go.BigFrame Go.Maps Go.Proofs.YtkmjbakiippfpaaGreatDoor.Reg Go.Proofs.YtkmjbakiippfpaaGreatDoor.Rout Go.Proofs.YtkmjbakiippfpaaGreatDoor.Node Go.Proofs.YtkmjbakiippfpaaGreatDoor.Tree Go.Proofs.YtkmjbakiippfpaaGreatDoorW.PrintWords Go.Proofs.YtkmjbakiippfpaaGreatDoorW.PrintLast Go.Proofs.YtkmjbakiippfpaaGreatDoorW.PrintMore
open Go.Proofs.YtkmjbakiippfpaaGreatDoor.Oct (octP Tz)
open Go.Proofs.YtkmjbakiippfpaaGreatDoor.Rec (Laid say_at SayIs say_exists tailOf B decimal_calls)
open Go.Lib (decDigits itoa)
def pathK : ByteArray := ⟨#[112, 97, 116, 104]⟩
def linkK : ByteArray := ⟨#[108, 105, 110, 107, 112, 97, 116, 104]⟩
def timeK : ByteArray := ⟨#[109, 116, 105, 109, 101]⟩
open Classical in
noncomputable def sayN (k v : ByteArray) : Nat := if h : ∃ N, SayIs k.data.toList v.data.toList N then Classical.choose h else 0
noncomputable def sayB (k v : ByteArray) : ByteArray := B (decDigits (sayN k v) ++ tailOf k.data.toList v.data.toList)
theorem sayN_is (k v : ByteArray) (hk : k.size ≤ 10000) (hv : v.size ≤ 10000) : SayIs k.data.toList v.data.toList (sayN k v) := by
  have h := say_exists k.data.toList v.data.toList hk hv
  unfold sayN
  rw [dif_pos h]
  exact Classical.choose_spec h
theorem sayB_calls (k v : ByteArray) (hk : k.size ≤ 10000) (hv : v.size ≤ 10000) (w : World) (hL : Laid w) :
    Calls Tryz.prog 25 #[.string k, .string v] w fun e w' => e = .returned (.string (sayB k v)) ∧ Below w.heap.size w w' := say_at k v _ (sayN_is k v hk hv) hk hv w hL
def nameN (x : Nd) : ByteArray := if x.f0 = 1 then x.f1 ++ ⟨#[47]⟩ else x.f1
def linkN (x : Nd) : ByteArray := if x.f0 = 3 then strOfNums x.f2 else ⟨#[]⟩
def lateB (x : Nd) : Bool := decide (x.f4 < 0 ∨ 8589934592 ≤ x.f4)
def timeN (x : Nd) : Int := if lateB x then 0 else x.f4
def kindN (x : Nd) : Int := if x.f0 = 1 then 53 else if x.f0 = 3 then 50 else 48
def dataN (x : Nd) : List Int := if x.f0 = 1 ∨ x.f0 = 3 then [] else x.f2
def hdN (x : Nd) : Hd := ⟨nameN x, linkN x, x.f3, (dataN x).length, timeN x, kindN x⟩
def longB (x : Nd) : Bool := decide (100 < (nameN x).size) || Lib.hasPrefix (nameN x).data.toList [72, 86, 79, 76]
noncomputable def said1 (x : Nd) : ByteArray := if longB x then ⟨#[]⟩ ++ sayB pathK (nameN x) else ⟨#[]⟩
noncomputable def said2 (x : Nd) : ByteArray := if 100 < (linkN x).size then said1 x ++ sayB linkK (linkN x) else said1 x
noncomputable def saidN (x : Nd) : ByteArray := if lateB x then said2 x ++ sayB timeK (B (itoa x.f4)) else said2 x
noncomputable def paxN (x : Nd) : Hd := ⟨⟨#[112, 97, 120]⟩, ⟨#[]⟩, 420, ((saidN x).size : Nat), 0, 120⟩
noncomputable def aheadN (x : Nd) : List Int := if saidN x = ⟨#[]⟩ then [] else headB (flatF (paxN x)) ++ wholeF (bytesOf (saidN x))
noncomputable def entryF (x : Nd) : List Int := aheadN x ++ (headB (flatF (hdN x)) ++ wholeF (dataN x))
theorem box_set {W : World} {g i : Nat} {cs : Array Value} {t : TypeId} {fr : Nat × Nat} (v : Value) (h : W.heap[g]? = some (.cells cs t fr)) : (W.setCell ⟨g, i, none⟩ v).heap[g]? = some (.cells (cs.setIfInBounds i v) t fr) := by
  rw [setCell_eq_setRow W g i cs t fr v h]
  exact setRow_heap W g _ _ t _ h
theorem set_below {w W : World} (hb : Below w.heap.size w W) {g i : Nat} {cs : Array Value} {t : TypeId} {fr : Nat × Nat} (v : Value) (h : W.heap[g]? = some (.cells cs t fr)) (hg : w.heap.size ≤ g) : Below w.heap.size w (W.setCell ⟨g, i, none⟩ v) := by
  rw [setCell_eq_setRow W g i cs t fr v h]
  exact setRow_below hb hg
theorem box_two {w W : World} {g i j : Nat} {cs : Array Value} {t : TypeId} {fr : Nat × Nat} (u v : Value) (hb : Below w.heap.size w W) (h : W.heap[g]? = some (.cells cs t fr)) (hg : w.heap.size ≤ g) :
    ((W.setCell ⟨g, i, none⟩ u).setCell ⟨g, j, none⟩ v).heap[g]? = some (.cells ((cs.setIfInBounds i u).setIfInBounds j v) t fr) ∧ Below w.heap.size w ((W.setCell ⟨g, i, none⟩ u).setCell ⟨g, j, none⟩ v) :=
  ⟨box_set v (box_set u h), set_below (set_below hb u h hg) v (box_set u h) hg⟩
theorem iss {W : World} {a : Addr} {u : Value} (v : Value) (h : W.cell? a = some u) : ((W.setCell a v).drew.cell? a).isSome = true := by
  have := World.cell?_setCell_same' W a v (by rw [h]; rfl)
  show ((W.setCell a v).cell? a).isSome = true
  rw [this]
  rfl
theorem nil_row (W : World) : (Kd.int .u8).C W none ([] : List Int).length [] := ⟨rfl, by simp, fun h => absurd h (by simp)⟩
theorem nm_le (x : Nd) (hp : x.f1.size ≤ 1024) : (nameN x).size ≤ 1025 := by
  unfold nameN
  split
  · rw [ByteArray.size_append]
    show _ + 1 ≤ _
    omega
  · omega
theorem may_facts (x : Nd) (hm : mayB x = true) : 0 ≤ x.f3 ∧ x.f3 ≤ 4095 ∧ -1099511627776 ≤ x.f4 ∧ x.f4 ≤ 1099511627776 ∧ (linkN x).size ≤ 1024 ∧ (dataN x).length ≤ 268435456 ∧ (x.f0 = 1 ∨ x.f0 = 2 ∨ x.f0 = 3) ∧ (x.f0 = 1 → x.f2 = []) ∧ (x.f0 = 3 → 1 ≤ x.f2.length ∧ x.f2.length ≤ 1024 ∧ ∀ b ∈ x.f2, b ≠ 0) := by
  unfold mayB at hm
  rw [Bool.and_eq_true, decide_eq_true_eq] at hm
  obtain ⟨⟨m0, m1, t0, t1⟩, hk⟩ := hm
  refine ⟨m0, m1, t0, t1, ?_⟩
  unfold kindB at hk
  unfold linkN dataN
  by_cases h1 : x.f0 = 1
  · rw [if_pos h1] at hk
    have hk := of_decide_eq_true hk
    have he : x.f2 = [] := List.eq_nil_of_length_eq_zero (by omega)
    refine ⟨by rw [if_neg (by omega)]; decide, by rw [if_pos (.inl h1)]; decide, .inl h1, fun _ => he, fun h => by omega⟩
  · rw [if_neg h1] at hk
    by_cases h2 : x.f0 = 2
    · rw [if_pos h2] at hk
      have hk := of_decide_eq_true hk
      refine ⟨by rw [if_neg (by omega)]; decide, by rw [if_neg (by omega)]; omega, .inr (.inl h2), fun h => by omega, fun h => by omega⟩
    · rw [if_neg h2] at hk
      by_cases h3 : x.f0 = 3
      · rw [if_pos h3, Bool.and_eq_true, decide_eq_true_eq] at hk
        refine ⟨by rw [if_pos h3, strOfNums_size]; exact hk.1.2, by rw [if_pos (.inr h3)]; decide, .inr (.inr h3), fun h => by omega, fun _ => ⟨hk.1.1, hk.1.2, fun b hb => ?_⟩⟩
        have := List.all_eq_true.1 hk.2 b hb
        simpa using this
      · rw [if_neg h3] at hk
        cases hk
theorem sayB_size (k v : ByteArray) (hk : k.size ≤ 10000) (hv : v.size ≤ 10000) : (sayB k v).size ≤ k.size + v.size + 8 := by
  have h := sayN_is k v hk hv
  have h1 := h.1
  have h2 := h.2.2
  have e1 : k.data.toList.length = k.size := by rw [Array.length_toList]; rfl
  have e2 : v.data.toList.length = v.size := by rw [Array.length_toList]; rfl
  unfold sayB
  rw [Rec.B_size, List.length_append, Rec.tail_len]
  have e3 : (decDigits (sayN k v)).length = Rec.dl (sayN k v) := rfl
  omega
theorem lateB_size (x : Nd) (h0 : -1099511627776 ≤ x.f4) (h1 : x.f4 ≤ 1099511627776) : (B (itoa x.f4)).size ≤ 21 := by
  rw [Rec.B_size]
  exact Lib.itoa_length_le x.f4 (by omega) (by omega)
theorem said_size (x : Nd) (hp : x.f1.size ≤ 1024) (hm : mayB x = true) : (saidN x).size ≤ 2200 ∧ (said1 x).size ≤ 1100 ∧ (said2 x).size ≤ 2150 := by
  obtain ⟨m0, m1, t0, t1, hl, hd, _, _, _⟩ := may_facts x hm
  have hn := nm_le x hp
  have hi := lateB_size x t0 t1
  have p1 := sayB_size pathK (nameN x) (by decide) (by omega)
  have p2 := sayB_size linkK (linkN x) (by decide) (by omega)
  have p3 := sayB_size timeK (B (itoa x.f4)) (by decide) (by omega)
  have s1 : pathK.size = 4 := rfl
  have s2 : linkK.size = 8 := rfl
  have s3 : timeK.size = 5 := rfl
  have e0 : (⟨#[]⟩ : ByteArray).size = 0 := rfl
  have a1 : (said1 x).size ≤ 1100 := by
    unfold said1
    split
    · rw [ByteArray.size_append]; omega
    · omega
  have a2 : (said2 x).size ≤ 2150 := by
    unfold said2
    split
    · rw [ByteArray.size_append]; omega
    · omega
  refine ⟨?_, a1, a2⟩
  unfold saidN
  split
  · rw [ByteArray.size_append]; omega
  · omega
theorem fit_hd (x : Nd) (hp : x.f1.size ≤ 1024) (hm : mayB x = true) : Fit (hdN x) := by
  obtain ⟨m0, m1, t0, t1, hl, hd, _, _, _⟩ := may_facts x hm
  refine ⟨m0, by show x.f3 < _; omega, by show (0 : Int) ≤ ((dataN x).length : Nat); omega, by show (((dataN x).length : Nat) : Int) < _; omega, ?_, ?_, ?_, ?_⟩
  · show 0 ≤ timeN x
    unfold timeN lateB
    split <;> rename_i h <;> simp at h <;> omega
  · show timeN x < 8589934592
    unfold timeN lateB
    split <;> rename_i h <;> simp at h <;> omega
  · show 0 ≤ kindN x
    unfold kindN
    split
    · omega
    · split <;> omega
  · show kindN x ≤ 255
    unfold kindN
    split
    · omega
    · split <;> omega
theorem fit_pax (x : Nd) (hp : x.f1.size ≤ 1024) (hm : mayB x = true) : Fit (paxN x) := by
  have := (said_size x hp hm).1
  exact ⟨by show (0 : Int) ≤ 420; decide, by show (420 : Int) < _; decide, by show (0 : Int) ≤ ((saidN x).size : Nat); omega, by show (((saidN x).size : Nat) : Int) < _; omega, by show (0 : Int) ≤ 0; decide, by show (0 : Int) < _; decide, by show (0 : Int) ≤ 120; decide, by show (120 : Int) ≤ 255; decide⟩
theorem headB_len (xs : List Int) (h : xs.length = 512) : (headB xs).length ≤ 1024 := by
  have := octP_len (totalF xs) 7
  unfold headB
  have e : (octB (totalF xs) 7).length = (octP (totalF xs) 7).1.length := rfl
  simp only [List.length_append, List.length_take, List.length_drop, List.length_singleton]
  omega
theorem whole_len (xs : List Int) : (wholeF xs).length ≤ xs.length + 511 := by
  unfold wholeF padN
  rw [List.length_append, List.length_replicate]
  omega
theorem ahead_len (x : Nd) (hp : x.f1.size ≤ 1024) (hm : mayB x = true) : (aheadN x).length ≤ 4000 := by
  unfold aheadN
  split
  · decide
  · have h1 := headB_len (flatF (paxN x)) (flat_len _ (fit_pax x hp hm))
    have h2 := whole_len (bytesOf (saidN x))
    have h3 := (said_size x hp hm).1
    rw [bytesOf_length] at h2
    rw [List.length_append]
    omega
theorem conv_row (w : World) (s : ByteArray) (c k : Nat) (hs : s.size ≤ 65536) :
    (Kd.int .u8).C (w.alloc (.cells (bytesRow s c) 5 (k, k + 1))).drew (some ⟨w.heap.size, 0, none⟩) (bytesOf s).length (bytesOf s) ∧ Below w.heap.size w (w.alloc (.cells (bytesRow s c) 5 (k, k + 1))).drew := by
  refine ⟨?_, bdrew (balloc (Below.refl _ _) _)⟩
  refine take_C (fr := (k, k + 1)) (t := 5) (cur := bytesRow s c) (heap_alloc_new w _) ?_ (by rw [bytesOf_length]; exact hs)
  unfold bytesRow bytesOf
  rw [Array.toList_append, List.length_map, Array.toList_map, List.map_map]
  exact List.take_left' (by simp)
theorem body_head {W : World} {a b : List Int} {A B : Option Addr} {ca cb : Nat} (ha : (Kd.int .u8).C W A a.length a) (la : a.length ≤ ca) (hb : (Kd.int .u8).C W B b.length b) (lb : b.length ≤ cb) (t : TypeId) : RowsAt (W.alloc (.cells #[.slice A a.length ca, .slice B b.length cb] t)) (some ⟨W.heap.size, 0, none⟩) [a, b] := by
  refine rows_lit W [.slice A a.length ca, .slice B b.length cb] [a, b] t (fun i x hx => ?_)
  rcases i with _ | i
  · obtain rfl := Option.some.inj hx
    exact ⟨A, ca, rfl, la, ha⟩
  rcases i with _ | i
  · obtain rfl := Option.some.inj hx
    exact ⟨B, cb, rfl, lb, hb⟩
  cases hx
theorem body_three {W : World} {a b d : List Int} {A B D : Option Addr} {ca cb cd : Nat} (ha : (Kd.int .u8).C W A a.length a) (la : a.length ≤ ca) (hb : (Kd.int .u8).C W B b.length b) (lb : b.length ≤ cb) (hd : (Kd.int .u8).C W D d.length d) (ld : d.length ≤ cd) (t : TypeId) : RowsAt (W.alloc (.cells #[.slice A a.length ca, .slice B b.length cb, .slice D d.length cd] t)) (some ⟨W.heap.size, 0, none⟩) [a, b, d] := by
  refine rows_lit W [.slice A a.length ca, .slice B b.length cb, .slice D d.length cd] [a, b, d] t (fun i x hx => ?_)
  rcases i with _ | i
  · obtain rfl := Option.some.inj hx
    exact ⟨A, ca, rfl, la, ha⟩
  rcases i with _ | i
  · obtain rfl := Option.some.inj hx
    exact ⟨B, cb, rfl, lb, hb⟩
  rcases i with _ | i
  · obtain rfl := Option.some.inj hx
    exact ⟨D, cd, rfl, ld, hd⟩
  cases hx
/-- The header's box. -/
def BoxH (w : World) (g : Nat) (h : Hd) : Prop := w.heap[g]? = some (.cells #[.string h.name, .string h.link, .int .i64 h.mode, .int .i64 h.size, .int .i64 h.time, .int .u8 h.kind] 50 (0, 0))
set_option maxRecDepth 100000 in
set_option maxHeartbeats 8000000 in
theorem entry_calls (x : Nd) (A : Option Addr) (c : Nat) (w : World) (hT : Tz w) (hL : Laid w) (hC : (Kd.int .u8).C w A x.f2.length x.f2) (hc : x.f2.length ≤ c) (hm : mayB x = true) (hp : x.f1.size ≤ 1024) (hb : ∀ b ∈ x.f2, 0 ≤ b ∧ b ≤ 255) :
    Calls Tryz.prog 10 #[.agg #[.int .i64 x.f0, .string x.f1, .slice A x.f2.length c, .int .i64 x.f3, .int .i64 x.f4]] w (Made (entryF x) w) := by
  have HC := Lib.hid hC
  have HT := Lib.hid hT
  have HL := Lib.hid hL
  have HM := Lib.hid hm
  have HB := Lib.hid hb
  clear hC hT hL hm hb
  go_enter Tryz.func10, Tryz.ntmps10
  go_upto_region 3 with fail
  have hB0 : ((w.alloc (.cells #[.int .i64 x.f0, .string x.f1, .slice A x.f2.length c, .int .i64 x.f3, .int .i64 x.f4] 31)).alloc (.cells #[.string x.f1, .string ⟨#[]⟩, .int .i64 x.f3, .int .i64 0, .int .i64 x.f4, .int .u8 48] 50)).heap[w.heap.size]? = some (.cells #[.int .i64 x.f0, .string x.f1, .slice A x.f2.length c, .int .i64 x.f3, .int .i64 x.f4] 31 (0, 0)) := by
    rw [Below.heap_alloc _ _ _ (by show w.heap.size < (w.heap.push _).size; rw [Array.size_push]; omega)]
    exact heap_alloc_new _ _
  have hB1 : BoxH ((w.alloc (.cells #[.int .i64 x.f0, .string x.f1, .slice A x.f2.length c, .int .i64 x.f3, .int .i64 x.f4] 31)).alloc (.cells #[.string x.f1, .string ⟨#[]⟩, .int .i64 x.f3, .int .i64 0, .int .i64 x.f4, .int .u8 48] 50)) (w.heap.size + 1) ⟨x.f1, ⟨#[]⟩, x.f3, 0, x.f4, 48⟩ := by
    have h := heap_alloc_new (w.alloc (.cells #[.int .i64 x.f0, .string x.f1, .slice A x.f2.length c, .int .i64 x.f3, .int .i64 x.f4] 31)) (.cells #[.string x.f1, .string ⟨#[]⟩, .int .i64 x.f3, .int .i64 0, .int .i64 x.f4, .int .u8 48] 50)
    have e : (w.alloc (.cells #[.int .i64 x.f0, .string x.f1, .slice A x.f2.length c, .int .i64 x.f3, .int .i64 x.f4] 31)).heap.size = w.heap.size + 1 := by show (w.heap.push _).size = _; rw [Array.size_push]
    rw [e] at h
    exact h
  have hBB := balloc (balloc (Below.refl w.heap.size w) (.cells #[.int .i64 x.f0, .string x.f1, .slice A x.f2.length c, .int .i64 x.f3, .int .i64 x.f4] 31)) (.cells #[.string x.f1, .string ⟨#[]⟩, .int .i64 x.f3, .int .i64 0, .int .i64 x.f4, .int .u8 48] 50)
  generalize ((w.alloc (.cells #[.int .i64 x.f0, .string x.f1, .slice A x.f2.length c, .int .i64 x.f3, .int .i64 x.f4] 31)).alloc (.cells #[.string x.f1, .string ⟨#[]⟩, .int .i64 x.f3, .int .i64 0, .int .i64 x.f4, .int .u8 48] 50)) = W at *
  have q0 : W.cell? ⟨w.heap.size, 0, none⟩ = some (.int .i64 x.f0) := by simp [World.cell?, hB0]
  have q2 : W.cell? ⟨w.heap.size, 2, none⟩ = some (.slice A x.f2.length c) := by simp [World.cell?, hB0]
  have p0 : W.cell? ⟨w.heap.size + 1, 0, none⟩ = some (.string x.f1) := by have h := hB1; unfold BoxH at h; simp [World.cell?, h]
  have p1 : W.cell? ⟨w.heap.size + 1, 1, none⟩ = some (.string ⟨#[]⟩) := by have h := hB1; unfold BoxH at h; simp [World.cell?, h]
  have p3 : W.cell? ⟨w.heap.size + 1, 3, none⟩ = some (.int .i64 0) := by have h := hB1; unfold BoxH at h; simp [World.cell?, h]
  have p5 : W.cell? ⟨w.heap.size + 1, 5, none⟩ = some (.int .u8 48) := by have h := hB1; unfold BoxH at h; simp [World.cell?, h]
  have z0 : ∀ i, W.frozen? ⟨w.heap.size + 1, i, none⟩ = false := fun i => by have h := hB1; unfold BoxH at h; simp [World.frozen?, h]
  have HB0 := Lib.hid hB0
  have HB1 := Lib.hid hB1
  have HBB := Lib.hid hBB
  clear hB0 hB1 hBB
  go_upto_block 0 with (fail)
  go_cut [4] (fun v wc => ∃ A4 c4, v = .slice A4 (dataN x).length c4 ∧ (dataN x).length ≤ c4 ∧ Hid ((Kd.int .u8).C w A4 (dataN x).length (dataN x)) ∧ Hid (BoxH wc (w.heap.size + 1) ⟨nameN x, linkN x, x.f3, (dataN x).length, x.f4, kindN x⟩) ∧ Hid (Below w.heap.size w wc))
  case rest =>
    obtain ⟨A4, c4, rfl, hc4, HC4, HBX, HBW⟩ := hcut
    obtain ⟨wa, rfl⟩ : ∃ wa : World, wa = wc := ⟨_, rfl⟩
    have MF := Lib.hid (may_facts x HM.out)
    have SZ := Lib.hid (said_size x hp HM.out)
    have FH := Lib.hid (fit_hd x hp HM.out)
    have FP := Lib.hid (fit_pax x hp HM.out)
    have hsz1 := nm_le x hp
    have hsz2 : (linkN x).size ≤ 1024 := MF.out.2.2.2.2.1
    have hdl : (dataN x).length ≤ 268435456 := MF.out.2.2.2.2.2.1
    have HTB := Lib.hid (lateB_size x MF.out.2.2.1 MF.out.2.2.2.1)
    have HSay1 := Lib.hid (fun W (hL : Laid W) => (sayB_calls pathK (nameN x) (by decide) (by omega) W hL : Calls Tryz.prog 25 #[.string ⟨#[112, 97, 116, 104]⟩, .string (nameN x)] W fun e w' => e = .returned (.string (sayB pathK (nameN x))) ∧ Below W.heap.size W w'))
    have HSay2 := Lib.hid (fun W (hL : Laid W) => (sayB_calls linkK (linkN x) (by decide) (by omega) W hL : Calls Tryz.prog 25 #[.string ⟨#[108, 105, 110, 107, 112, 97, 116, 104]⟩, .string (linkN x)] W fun e w' => e = .returned (.string (sayB linkK (linkN x))) ∧ Below W.heap.size W w'))
    have HSay3 := Lib.hid (fun W (hL : Laid W) => (sayB_calls timeK (B (itoa x.f4)) (by decide) (by have := HTB.out; omega) W hL : Calls Tryz.prog 25 #[.string ⟨#[109, 116, 105, 109, 101]⟩, .string (B (itoa x.f4))] W fun e w' => e = .returned (.string (sayB timeK (B (itoa x.f4)))) ∧ Below W.heap.size W w'))
    have HDec := Lib.hid (fun W (hL : Laid W) => decimal_calls x.f4 (by have := MF.out.2.2.1; omega) (by have := MF.out.2.2.2.1; omega) W hL)
    have b0 : wa.cell? ⟨w.heap.size + 1, 0, none⟩ = some (.string (nameN x)) := by have h := HBX.out; unfold BoxH at h; simp [World.cell?, h]
    go_upto_region 10 with (fail)
    obtain ⟨be, hbe⟩ : ∃ be, be = longB x := ⟨_, rfl⟩
    have BE := Lib.hid hbe
    clear hbe
    go_cut [44] (fun v w1 => v = .bool be ∧ wa = w1)
    · by_cases h1 : 100 < (nameN x).size
      · have HL1 := Lib.hid (show longB x = true by unfold longB; rw [decide_eq_true h1]; rfl)
        have h1' : (100 : Int) < ((nameN x).size : Nat) := by omega
        go_wp2_with fail
        go_meet
        exact ⟨by rw [BE.out, HL1.out], rfl⟩
      · have HL1 := Lib.hid (show longB x = Lib.hasPrefix (nameN x).data.toList [72, 86, 79, 76] by unfold longB; rw [decide_eq_false h1]; rfl)
        have h1' : ¬ (100 : Int) < ((nameN x).size : Nat) := by omega
        go_wp2_with (go_at_call 24; refine (Tryz.strings_HasPrefix (nameN x) ⟨#[72, 86, 79, 76]⟩ _).mono ?_; rintro e w1 ⟨rfl, rfl⟩)
        go_meet
        exact ⟨by rw [BE.out, HL1.out], rfl⟩
    obtain ⟨rfl, rfl⟩ := hcut
    go_upto_if 44 with (fail)
    go_cut [5] (fun v w1 => v = .string (said1 x) ∧ Hid (Below wa.heap.size wa w1))
    · have hsb := sayB_size pathK (nameN x) (by decide) (by omega)
      have hsk : pathK.size = 4 := rfl
      rw [hsk] at hsb
      clear hsk
      cases be with
      | true =>
        have HS := Lib.hid (show said1 x = ⟨#[]⟩ ++ sayB pathK (nameN x) by unfold said1; rw [if_pos BE.out.symm])
        have HCC := Lib.hid (HSay1.out wa (HL.out.below HBW.out))
        go_wp2_with (go_at_call 25; refine HCC.out.mono ?_; rintro e w1 ⟨rfl, hb1⟩)
        go_meet
        exact ⟨by rw [HS.out], Lib.hid hb1⟩
      | false =>
        have HS := Lib.hid (show said1 x = ⟨#[]⟩ by unfold said1; rw [← BE.out]; rfl)
        go_wp2_with fail
        go_meet
        exact ⟨by rw [HS.out], Lib.hid (Below.refl _ _)⟩
    obtain ⟨rfl, HB1⟩ := hcut
    obtain ⟨wb, rfl⟩ : ∃ wb : World, wb = wc := ⟨_, rfl⟩
    have HBW1 := Lib.hid (bgo HBW.out HB1.out)
    have HBX1 := Lib.hid (show BoxH wb (w.heap.size + 1) _ from (HB1.out.block _ (Array.getElem?_eq_some_iff.1 HBX.out).1).trans HBX.out)
    clear b0 HBX HBW HB1
    have b1 : wb.cell? ⟨w.heap.size + 1, 1, none⟩ = some (.string (linkN x)) := by have h := HBX1.out; unfold BoxH at h; simp [World.cell?, h]
    go_upto_if 53 with (fail)
    go_cut [5] (fun v w1 => v = .string (said2 x) ∧ Hid (Below wb.heap.size wb w1))
    · have hsb := sayB_size linkK (linkN x) (by decide) (by omega)
      have hsk : linkK.size = 8 := rfl
      rw [hsk] at hsb
      have hs1 := SZ.out.2.1
      clear hsk
      by_cases h1 : 100 < (linkN x).size
      · have HS := Lib.hid (show said2 x = said1 x ++ sayB linkK (linkN x) by unfold said2; rw [if_pos h1])
        have h1' : (100 : Int) < ((linkN x).size : Nat) := by omega
        have HCC := Lib.hid (HSay2.out wb (HL.out.below HBW1.out))
        go_wp2_with (go_at_call 25; refine HCC.out.mono ?_; rintro e w1 ⟨rfl, hb1⟩)
        go_meet
        exact ⟨by rw [HS.out], Lib.hid hb1⟩
      · have HS := Lib.hid (show said2 x = said1 x by unfold said2; rw [if_neg h1])
        have h1' : ¬ (100 : Int) < ((linkN x).size : Nat) := by omega
        go_wp2_with fail
        go_meet
        exact ⟨by rw [HS.out], Lib.hid (Below.refl _ _)⟩
    obtain ⟨rfl, HB1⟩ := hcut
    obtain ⟨wd, rfl⟩ : ∃ wd : World, wd = wc := ⟨_, rfl⟩
    have HBW2 := Lib.hid (bgo HBW1.out HB1.out)
    have HBX2 := Lib.hid (show BoxH wd (w.heap.size + 1) _ from (HB1.out.block _ (Array.getElem?_eq_some_iff.1 HBX1.out).1).trans HBX1.out)
    clear b1 HBX1 HBW1 HB1
    have b4 : wd.cell? ⟨w.heap.size + 1, 4, none⟩ = some (.int .i64 x.f4) := by have h := HBX2.out; unfold BoxH at h; simp [World.cell?, h]
    go_upto_region 14 with (fail)
    obtain ⟨bf, hbf⟩ : ∃ bf, bf = lateB x := ⟨_, rfl⟩
    have BF := Lib.hid hbf
    clear hbf
    go_cut [66] (fun v w1 => v = .bool bf ∧ wd = w1)
    · by_cases h1 : x.f4 < 0
      · have HL1 := Lib.hid (show lateB x = true by unfold lateB; exact decide_eq_true (.inl h1))
        go_wp2_with fail
        go_meet
        exact ⟨by rw [BF.out, HL1.out], rfl⟩
      · by_cases h2 : 8589934592 ≤ x.f4
        · have HL1 := Lib.hid (show lateB x = true by unfold lateB; exact decide_eq_true (.inr h2))
          go_wp2_with fail
          go_meet
          exact ⟨by rw [BF.out, HL1.out], rfl⟩
        · have HL1 := Lib.hid (show lateB x = false by unfold lateB; exact decide_eq_false (by omega))
          go_wp2_with fail
          go_meet
          exact ⟨by rw [BF.out, HL1.out], rfl⟩
    obtain ⟨rfl, rfl⟩ := hcut
    go_upto_if 66 with (fail)
    go_cut [5] (fun v w1 => v = .string (saidN x) ∧ Hid (BoxH w1 (w.heap.size + 1) ⟨nameN x, linkN x, x.f3, (dataN x).length, timeN x, kindN x⟩) ∧ Hid (Below w.heap.size w w1))
    · have hsb := sayB_size timeK (B (itoa x.f4)) (by decide) (by have := HTB.out; omega)
      have hsk : timeK.size = 5 := rfl
      rw [hsk] at hsb
      have hsc := HTB.out
      have hs2 := SZ.out.2.2
      clear hsk
      cases bf with
      | true =>
        have HS := Lib.hid (And.intro (show saidN x = said2 x ++ sayB timeK (B (itoa x.f4)) by unfold saidN; rw [if_pos BF.out.symm]) (show timeN x = 0 by unfold timeN; rw [if_pos BF.out.symm]))
        have HCC := Lib.hid (HDec.out wd (HL.out.below HBW2.out))
        have hfz : ∀ W (hb : Below wd.heap.size wd W), W.frozen? ⟨w.heap.size + 1, 4, none⟩ = false ∧ W.cell? ⟨w.heap.size + 1, 4, none⟩ = some (.int .i64 x.f4) := fun W hb => by
          have h : W.heap[w.heap.size + 1]? = _ := (hb.block _ (Array.getElem?_eq_some_iff.1 HBX2.out).1).trans HBX2.out
          exact ⟨by simp [World.frozen?, h], by simp [World.cell?, h]⟩
        have HFZ := Lib.hid hfz
        clear hfz
        go_wp2_with (first | (go_at_call 26; refine HCC.out.mono ?_; rintro e w1 ⟨rfl, hb1⟩; have HC3 := Lib.hid (HSay3.out w1 (HL.out.below (bgo HBW2.out hb1))); have HB1 := Lib.hid hb1; clear hb1) | (go_at_call 25; refine HC3.out.mono ?_; rintro e w2 ⟨rfl, hb2⟩; have HB2 := Lib.hid (bgo HB1.out hb2); clear hb2; obtain ⟨hz1, hz2⟩ := HFZ.out w2 HB2.out))
        go_meet
        have hbx : w2.heap[w.heap.size + 1]? = _ := (HB2.out.block _ (Array.getElem?_eq_some_iff.1 HBX2.out).1).trans HBX2.out
        have hbw := bgo HBW2.out HB2.out
        exact ⟨by rw [HS.out.1], by rw [HS.out.2]; exact Lib.hid (box_set (.int .i64 0) hbx), Lib.hid (set_below hbw (.int .i64 0) hbx (by omega))⟩
      | false =>
        have HS := Lib.hid (And.intro (show saidN x = said2 x by unfold saidN; rw [← BF.out]; rfl) (show timeN x = x.f4 by unfold timeN; rw [← BF.out]; rfl))
        go_wp2_with fail
        go_meet
        exact ⟨by rw [HS.out.1], by rw [HS.out.2]; exact HBX2, HBW2⟩
    obtain ⟨rfl, HBX3, HBW3⟩ := hcut
    obtain ⟨we, rfl⟩ : ∃ we : World, we = wc := ⟨_, rfl⟩
    clear b4 HBX2 HBW2
    have HAH := Lib.hid (show aheadN x = if saidN x = ⟨#[]⟩ then [] else headB (flatF (paxN x)) ++ wholeF (bytesOf (saidN x)) from rfl)
    have HEN := Lib.hid (show entryF x = aheadN x ++ (headB (flatF (hdN x)) ++ wholeF (dataN x)) from rfl)
    obtain ⟨bg, hbg⟩ : ∃ bg, bg = !(saidN x).toList.isEmpty := ⟨_, rfl⟩
    have BG := Lib.hid hbg
    clear hbg
    go_upto_region 18 with (fail)
    go_cut [75] (fun v w1 => v = .bool bg ∧ we = w1)
    · go_wp2_with fail
      go_meet
      exact ⟨by rw [BG.out], rfl⟩
    obtain ⟨rfl, rfl⟩ := hcut
    go_upto_if 75 with (fail)
    go_cut [6] (fun v w1 => ∃ A6 c6, v = .slice A6 (aheadN x).length c6 ∧ (aheadN x).length ≤ c6 ∧ Hid ((Kd.int .u8).C w1 A6 (aheadN x).length (aheadN x)) ∧ Hid (Below we.heap.size we w1))
    · cases bg with
      | false =>
        have hs : saidN x = ⟨#[]⟩ := by
          have h := BG.out
          rw [ByteArray.toList_eq] at h
          cases hd : (saidN x).data.toList with
          | nil => exact ByteArray.ext (Array.toList_inj.1 hd)
          | cons a r => rw [hd] at h; cases h
        have HA := Lib.hid (show aheadN x = [] by rw [HAH.out, if_pos hs])
        clear hs
        go_wp2_with fail
        go_meet
        rw [HA.out]
        exact ⟨none, 0, rfl, Nat.le_refl _, Lib.hid (nil_row _), Lib.hid (Below.refl _ _)⟩
      | true =>
        have hs : saidN x ≠ ⟨#[]⟩ := by
          intro e
          have h := BG.out
          rw [e, ByteArray.toList_eq] at h
          cases h
        have HA := Lib.hid (show aheadN x = headB (flatF (paxN x)) ++ wholeF (bytesOf (saidN x)) by rw [HAH.out, if_neg hs])
        have HB1 := Lib.hid (show Calls Tryz.prog 28 #[.agg #[.string ⟨#[112, 97, 120]⟩, .string ⟨#[]⟩, .int .i64 420, .int .i64 ((saidN x).size : Nat), .int .i64 0, .int .u8 120]] we (Made (headB (flatF (paxN x))) we) from
          head_calls (paxN x) we (HT.out.below HBW3.out) (by show (⟨#[112, 97, 120]⟩ : ByteArray).size ≤ _; decide) (by show (⟨#[]⟩ : ByteArray).size ≤ _; decide) (by show (420 : Int) ≤ _; decide) (by show (((saidN x).size : Nat) : Int) ≤ _; have := SZ.out.1; omega) (by show (0 : Int) ≤ _; decide) (flatF (paxN x)) rfl (flat_len _ FP.out) (flat_in _ FP.out))
        have hcv := fun (W : World) => run_bytes_of_string (P := Tryz.prog) W 9 23 5 (saidN x) Tryz.underlying9 Tryz.underlying23 Tryz.underlying5
        have HSZ := Lib.hid (show (bytesOf (saidN x)).length = (saidN x).size ∧ (saidN x).size ≤ 2200 from ⟨bytesOf_length _, SZ.out.1⟩)
        have HHL := Lib.hid (headB_len (flatF (paxN x)) (flat_len _ FP.out))
        have HWL := Lib.hid (whole_len (bytesOf (saidN x)))
        clear hs HAH
        generalize headB (flatF (paxN x)) = hb at *
        go_wp2_with fail
        go_at_call 28
        with_reducible refine HB1.out.mono ?_
        rintro e w1 ⟨A1, c1, rfl, l1, R1, B1⟩
        go_wp2_with fail
        have HCR := Lib.hid (conv_row w1 (saidN x) (grownCap w1 (saidN x).size 0 5) (bytesRow (saidN x) (grownCap w1 (saidN x).size 0 5)).size (by have := HSZ.out.2; omega))
        generalize (bytesRow (saidN x) (grownCap w1 (saidN x).size 0 5)).size = kk at *
        revert HCR
        generalize (w1.alloc (.cells (bytesRow (saidN x) (grownCap w1 (saidN x).size 0 5)) 5 (kk, kk + 1))).drew = w2
        generalize grownCap w1 (saidN x).size 0 5 = cp
        intro HCR
        have HWC := Lib.hid (show Calls Tryz.prog 29 #[.slice (some ⟨w1.heap.size, 0, none⟩) (saidN x).size cp] w2 (Made (wholeF (bytesOf (saidN x))) w2) from by
          have h := whole_calls (some ⟨w1.heap.size, 0, none⟩) cp (bytesOf (saidN x)) w2 HCR.out.1 (by rw [HSZ.out.1]; have := HSZ.out.2; omega)
          rw [HSZ.out.1] at h
          exact h)
        have HWB := Lib.hid (show (wholeF (bytesOf (saidN x))).length ≤ 3000 by have h1 := HWL.out; have h2 := HSZ.out.1; have h3 := HSZ.out.2; omega)
        clear HWL
        generalize wholeF (bytesOf (saidN x)) = yb at *
        go_at_call 29
        with_reducible refine HWC.out.mono ?_
        rintro e w3 ⟨A3, c3, rfl, l3, R3, B3⟩
        have HB3 := Lib.hid (bgo HCR.out.2 B3.out)
        have HRW := Lib.hid (body_head (Kd.C_below (rowC R1.out) HB3.out) l1 (rowC R3.out) l3 23)
        have HLC := Lib.hid (show Calls Tryz.prog 27 #[.slice (some ⟨w3.heap.size, 0, none⟩) 2 2] (w3.alloc (.cells #[.slice A1 hb.length c1, .slice A3 yb.length c3] 23)) (Made (aheadN x) (w3.alloc (.cells #[.slice A1 hb.length c1, .slice A3 yb.length c3] 23))) from by
          have h := laid_calls (some ⟨w3.heap.size, 0, none⟩) 2 [hb, yb] _ HRW.out (by have h1 := HWB.out; have h2 := HHL.out; simp only [List.flatten_cons, List.flatten_nil, List.append_nil, List.length_append]; omega) (by show 2 ≤ 65536; decide)
          rw [show [hb, yb].flatten = hb ++ yb by simp, ← HA.out] at h
          exact h)
        have HB5 := Lib.hid (balloc (bgo B1.out HB3.out) (.cells #[.slice A1 hb.length c1, .slice A3 yb.length c3] 23))
        go_wp2_with fail
        go_at_call 27
        with_reducible refine HLC.out.mono ?_
        rintro e w4 ⟨A5, c5, rfl, l5, R5, B5⟩
        go_wp2_with fail
        go_meet
        exact ⟨A5, c5, rfl, l5, Lib.hid (rowC R5.out), Lib.hid (bgo HB5.out B5.out)⟩
    obtain ⟨A6, c6, rfl, l6, HC6, HB6⟩ := hcut
    obtain ⟨wf, rfl⟩ : ∃ wf : World, wf = wc := ⟨_, rfl⟩
    have HBW6 := Lib.hid (bgo HBW3.out HB6.out)
    have hbx6 : BoxH wf (w.heap.size + 1) _ := (HB6.out.block _ (Array.getElem?_eq_some_iff.1 HBX3.out).1).trans HBX3.out
    have b0 : wf.cell? ⟨w.heap.size + 1, 0, none⟩ = some (.string (nameN x)) := by unfold BoxH at hbx6; simp [World.cell?, hbx6]
    have b1 : wf.cell? ⟨w.heap.size + 1, 1, none⟩ = some (.string (linkN x)) := by unfold BoxH at hbx6; simp [World.cell?, hbx6]
    have b2 : wf.cell? ⟨w.heap.size + 1, 2, none⟩ = some (.int .i64 x.f3) := by unfold BoxH at hbx6; simp [World.cell?, hbx6]
    have b3 : wf.cell? ⟨w.heap.size + 1, 3, none⟩ = some (.int .i64 ((dataN x).length : Nat)) := by unfold BoxH at hbx6; simp [World.cell?, hbx6]
    have b4 : wf.cell? ⟨w.heap.size + 1, 4, none⟩ = some (.int .i64 (timeN x)) := by unfold BoxH at hbx6; simp [World.cell?, hbx6]
    have b5 : wf.cell? ⟨w.heap.size + 1, 5, none⟩ = some (.int .u8 (kindN x)) := by unfold BoxH at hbx6; simp [World.cell?, hbx6]
    have HBH := Lib.hid (show Calls Tryz.prog 28 #[.agg #[.string (nameN x), .string (linkN x), .int .i64 x.f3, .int .i64 ((dataN x).length : Nat), .int .i64 (timeN x), .int .u8 (kindN x)]] wf (Made (headB (flatF (hdN x))) wf) from
      head_calls (hdN x) wf (HT.out.below HBW6.out) (by show (nameN x).size ≤ _; omega) (by show (linkN x).size ≤ _; omega) (by have := FH.out.m1; omega) (by have := FH.out.s1; omega) (by have := FH.out.t1; omega) (flatF (hdN x)) rfl (flat_len _ FH.out) (flat_in _ FH.out))
    have HHL := Lib.hid (headB_len (flatF (hdN x)) (flat_len _ FH.out))
    have HWL := Lib.hid (whole_len (dataN x))
    have HAL := Lib.hid (ahead_len x hp HM.out)
    clear hbx6 HAH HBX3
    generalize headB (flatF (hdN x)) = hb at *
    go_wp2_with fail
    go_at_call 28
    with_reducible refine HBH.out.mono ?_
    rintro e w1 ⟨A1, c1, rfl, l1, R1, B1⟩
    have HWC := Lib.hid (whole_calls A4 c4 (dataN x) w1 (Kd.C_below HC4.out (bgo HBW6.out B1.out)) (by omega))
    have HWB := Lib.hid (show (wholeF (dataN x)).length ≤ 300000000 by have h1 := HWL.out; omega)
    clear HWL
    generalize wholeF (dataN x) = yb at *
    go_wp2_with fail
    go_at_call 29
    with_reducible refine HWC.out.mono ?_
    rintro e w2 ⟨A2, c2, rfl, l2, R2, B2⟩
    have HRW := Lib.hid (body_three (Kd.C_below HC6.out (bgo B1.out B2.out)) l6 (Kd.C_below (rowC R1.out) B2.out) l1 (rowC R2.out) l2 23)
    have HLC := Lib.hid (show Calls Tryz.prog 27 #[.slice (some ⟨w2.heap.size, 0, none⟩) 3 3] (w2.alloc (.cells #[.slice A6 (aheadN x).length c6, .slice A1 hb.length c1, .slice A2 yb.length c2] 23)) (Made (entryF x) (w2.alloc (.cells #[.slice A6 (aheadN x).length c6, .slice A1 hb.length c1, .slice A2 yb.length c2] 23))) from by
      have h := laid_calls (some ⟨w2.heap.size, 0, none⟩) 3 [aheadN x, hb, yb] _ HRW.out (by have h1 := HWB.out; have h2 := HHL.out; have h3 := HAL.out; simp only [List.flatten_cons, List.flatten_nil, List.append_nil, List.length_append]; omega) (by show 3 ≤ 65536; decide)
      rw [show [aheadN x, hb, yb].flatten = aheadN x ++ (hb ++ yb) by simp, ← HEN.out] at h
      exact h)
    have HB5 := Lib.hid (balloc (bgo HBW6.out (bgo B1.out B2.out)) (.cells #[.slice A6 (aheadN x).length c6, .slice A1 hb.length c1, .slice A2 yb.length c2] 23))
    go_wp2_with fail
    go_at_call 27
    with_reducible refine HLC.out.mono ?_
    rintro e w4 ⟨A5, c5, rfl, l5, R5, B5⟩
    go_wp2_with fail
    go_ret
    exact ⟨A5, c5, rfl, l5, Lib.hid (Kd.R_lower R5.out HB5.out.size), Lib.hid (bgo HB5.out B5.out)⟩
  by_cases h1 : x.f0 = 1
  · go_wp2_with fail
    go_meet
    have hn : nameN x = x.f1 ++ ⟨#[47]⟩ := by unfold nameN; rw [if_pos h1]
    have hd : dataN x = [] := by unfold dataN; rw [if_pos (.inl h1)]
    have hl : linkN x = ⟨#[]⟩ := by unfold linkN; rw [if_neg (by omega)]
    have hk : kindN x = 53 := by unfold kindN; rw [if_pos h1]
    rw [hn, hd, hl, hk]
    obtain ⟨a1, a2⟩ := box_two (i := 0) (j := 5) (.string (x.f1 ++ ⟨#[47]⟩)) (.int .u8 53) HBB.out HB1.out (by omega)
    exact ⟨none, 0, rfl, Nat.le_refl _, Lib.hid (nil_row _), Lib.hid a1, Lib.hid a2⟩
  · by_cases h3 : x.f0 = 3
    · have hcv : (convert 23 9 (.slice A x.f2.length c)).run Tryz.prog W = .ok (.string (strOfNums x.f2)) W := Kd.C_string (P := Tryz.prog) (w := W) (src := 23) (dst := 9) (e := 5) (c := c) Tryz.underlying23 Tryz.underlying5 Tryz.underlying9 (Kd.C_below HC.out HBB.out)
      have hn : nameN x = x.f1 := by unfold nameN; rw [if_neg h1]
      have hd : dataN x = [] := by unfold dataN; rw [if_pos (.inr h3)]
      have hl : linkN x = strOfNums x.f2 := by unfold linkN; rw [if_pos h3]
      have hk : kindN x = 50 := by unfold kindN; rw [if_neg h1, if_pos h3]
      have HK := Lib.hid (And.intro hn (And.intro hd (And.intro hl hk)))
      clear hn hd hl hk
      go_wp2_with fail
      go_meet
      rw [HK.out.1, HK.out.2.1, HK.out.2.2.1, HK.out.2.2.2]
      obtain ⟨a1, a2⟩ := box_two (i := 1) (j := 5) (.string (strOfNums x.f2)) (.int .u8 50) HBB.out HB1.out (by omega)
      exact ⟨none, 0, rfl, Nat.le_refl _, Lib.hid (nil_row _), Lib.hid a1, Lib.hid a2⟩
    · have hn : nameN x = x.f1 := by unfold nameN; rw [if_neg h1]
      have hd : dataN x = x.f2 := by unfold dataN; rw [if_neg (by omega)]
      have hl : linkN x = ⟨#[]⟩ := by unfold linkN; rw [if_neg h3]
      have hk : kindN x = 48 := by unfold kindN; rw [if_neg h1, if_neg h3]
      have HK := Lib.hid (And.intro hn (And.intro hd (And.intro hl hk)))
      clear hn hd hl hk
      go_upto_region 4 with (fail)
      go_region
      go_wp2_with fail
      go_meet
      rw [HK.out.1, HK.out.2.1, HK.out.2.2.1, HK.out.2.2.2]
      refine ⟨A, c, rfl, hc, ?_, ?_, ?_⟩
      · exact HC
      · exact Lib.hid (box_set (.int .i64 (x.f2.length : Nat)) HB1.out)
      · exact Lib.hid (bdrew (set_below HBB.out (.int .i64 (x.f2.length : Nat)) HB1.out (by omega)))
end Go.Proofs.YtkmjbakiippfpaaGreatDoor.Tar
set_option linter.unusedVariables false
set_option linter.unusedSimpArgs false
namespace Go.Proofs.YtkmjbakiippfpaaGreatDoor.Tar
open Go.RowKit Go.BigFrame Go.Maps Go.Proofs.YtkmjbakiippfpaaGreatDoor.Reg Go.Proofs.YtkmjbakiippfpaaGreatDoor.Rout Go.Proofs.YtkmjbakiippfpaaGreatDoor.Node Go.Proofs.YtkmjbakiippfpaaGreatDoor.Tree Go.Proofs.YtkmjbakiippfpaaGreatDoorW.PrintWords Go.Proofs.YtkmjbakiippfpaaGreatDoorW.PrintLast Go.Proofs.YtkmjbakiippfpaaGreatDoorW.PrintMore
open Go.Proofs.YtkmjbakiippfpaaGreatDoor.Oct (Tz octO)
open Go.Proofs.YtkmjbakiippfpaaGreatDoor.Rec (Laid B)
open Go.Proofs.YtkmjbakiippfpaaGreatDoor.InvR (region_J deps_any)
theorem sub_len (xs : List Int) (i j : Nat) (hj : j ≤ xs.length) : (sub xs i j).length = j - i := by
  unfold sub
  rw [List.length_take, List.length_drop]
  omega
/-- b[i:j]. -/
theorem sub_row {w : World} {A : Option Addr} {c : Nat} {xs : List Int} (hC : (Kd.int .u8).C w A xs.length xs) (hc : xs.length ≤ c) (lo hi : Int) (i j : Nat) (hlo : lo = i) (hhi : hi = j) (hij : i ≤ j) (hj : j ≤ xs.length) :
    ∃ (A' : Option Addr) (c' : Nat), (∀ W, (Instr.slice 23 (.slice A xs.length c) (some (.int .i64 lo)) (some (.int .i64 hi)) none).run Tryz.prog W = .ok (.slice A' (sub xs i j).length c') W) ∧ (sub xs i j).length ≤ c' ∧ (Kd.int .u8).C w A' (sub xs i j).length (sub xs i j) := by
  obtain ⟨r, hr, hzz⟩ := Option.map_eq_some_iff.1 infoU
  simp only [Prod.mk.injEq] at hzz
  subst hlo hhi
  refine ⟨if c = i then A else A.map (·.add (i * 1)), c - i, ?_, ?_, ?_⟩
  · intro W
    have h := cut_mid 23 5 .i64 .i64 Tryz.underlying23 hr 1 hzz.2.1 A xs.length c (i : Int) (j : Int) (by omega) (by omega) (by omega) hc W
    rw [sub_len xs i j hj]
    simpa using h
  · rw [sub_len xs i j hj]; omega
  · have h1 := Kd.C_drop hC (m := i) (by omega) hc
    exact Kd.C_take h1 (m := j - i) (by rw [List.length_drop]; omega)
theorem sub_row0 {w : World} {A : Option Addr} {c : Nat} {xs : List Int} (hC : (Kd.int .u8).C w A xs.length xs) (hc : xs.length ≤ c) (hi : Int) (j : Nat) (hhi : hi = j) (hj : j ≤ xs.length) :
    (∀ W, (Instr.slice 23 (.slice A xs.length c) none (some (.int .i64 hi)) none).run Tryz.prog W = .ok (.slice A (sub xs 0 j).length c) W) ∧ (sub xs 0 j).length ≤ c ∧ (Kd.int .u8).C w A (sub xs 0 j).length (sub xs 0 j) := by
  subst hhi
  refine ⟨fun W => ?_, by rw [sub_len xs 0 j hj]; omega, ?_⟩
  · rw [sub_len xs 0 j hj]
    exact Oct.cutT A xs.length c j hj hc W
  · have h := Kd.C_take hC (m := j) hj
    exact h
theorem body_one {W : World} {a : List Int} {A : Option Addr} {ca : Nat} (ha : (Kd.int .u8).C W A a.length a) (la : a.length ≤ ca) (t : TypeId) : RowsAt (W.alloc (.cells #[.slice A a.length ca] t)) (some ⟨W.heap.size, 0, none⟩) [a] := by
  refine rows_lit W [.slice A a.length ca] [a] t (fun i x hx => ?_)
  rcases i with _ | i
  · obtain rfl := Option.some.inj hx
    exact ⟨A, ca, rfl, la, ha⟩
  cases hx
theorem cell_int {w : World} {A : Option Addr} {ns : List Int} (h : (Kd.int .i64).C w A ns.length ns) (k : Nat) (hk : k < ns.length) : ∃ ad, A = some ad ∧ w.cell? (ad.add k) = some (.int .i64 ns[k]) := by
  obtain ⟨ad, e, hj⟩ := h.2.2 (by omega)
  obtain ⟨cc, hlen, hK, hi⟩ := hj k _ (List.getElem?_eq_getElem hk)
  have hcc : cc = [.int .i64 ns[k]] := hK
  subst hcc
  have := hi 0 _ rfl
  exact ⟨ad, e, by rwa [show k * Kd.sz (Kd.int .i64) + 0 = k from by show k * 1 + 0 = k; omega] at this⟩
theorem kind_in (k : Int) (hk : k = 48 ∨ k = 50 ∨ k = 53 ∨ k = 120) : 0 ≤ Lib.indexByte [48, 50, 53, 120] k.toNat.toUInt8 := by
  rcases hk with rfl | rfl | rfl | rfl <;> decide
def rh11 (B : Nat) (vb v2 v3 v4 : Value) (f2 f3 f4 ns : List Int) : Nat → Value → World → Prop
  | 0 => fun v _ => v = vb
  | 1 => fun v _ => v = v2
  | 2 => fun v _ => v = vb
  | 3 => fun v _ => v = v3
  | 4 => fun v _ => v = vb
  | 5 => fun v _ => v = v4
  | 6 => fun v w => ∃ (A : Option Addr) (c : Nat), v = .slice A 3 c ∧ RowsAt w A [f2, f3, f4]
  | 7 => fun v w => ∃ (g c : Nat), v = .tuple #[.slice (some ⟨g, 0, none⟩) 3 c, .int .i64 0] ∧ B ≤ g ∧ (Kd.int .i64).C w (some ⟨g, 0, none⟩) 3 ns
  | 8 => fun v w => ∃ (g c : Nat), v = .tuple #[.slice (some ⟨g, 0, none⟩) 3 c, .int .i64 0] ∧ B ≤ g ∧ (Kd.int .i64).C w (some ⟨g, 0, none⟩) 3 ns
  | 9 => fun v w => ∃ (g c : Nat), v = .slice (some ⟨g, 0, none⟩) 3 c ∧ B ≤ g ∧ (Kd.int .i64).C w (some ⟨g, 0, none⟩) 3 ns
  | 10 => fun v _ => v = .int .i64 0
  | 11 => fun v w => ∃ (g c : Nat), v = .slice (some ⟨g, 0, none⟩) 3 c ∧ B ≤ g ∧ (Kd.int .i64).C w (some ⟨g, 0, none⟩) 3 ns
  | 12 => fun v _ => v = .int .i64 0
  | _ => fun _ _ => True
theorem rh11_mono (B : Nat) (vb v2 v3 v4 : Value) (f2 f3 f4 ns : List Int) : ∀ i v w w', Below w.heap.size w w' → rh11 B vb v2 v3 v4 f2 f3 f4 ns i v w → rh11 B vb v2 v3 v4 f2 f3 f4 ns i v w'
  | 0, _, _, _, _ => id
  | 1, _, _, _, _ => id
  | 2, _, _, _, _ => id
  | 3, _, _, _, _ => id
  | 4, _, _, _, _ => id
  | 5, _, _, _, _ => id
  | 6, _, _, _, hb => fun ⟨A, c, e, hR⟩ => ⟨A, c, e, hR.below hb⟩
  | 7, _, _, _, hb => fun ⟨A, c, e, hB, hR⟩ => ⟨A, c, e, hB, Kd.C_below hR hb⟩
  | 8, _, _, _, hb => fun ⟨A, c, e, hB, hR⟩ => ⟨A, c, e, hB, Kd.C_below hR hb⟩
  | 9, _, _, _, hb => fun ⟨A, c, e, hB, hR⟩ => ⟨A, c, e, hB, Kd.C_below hR hb⟩
  | 10, _, _, _, _ => id
  | 11, _, _, _, hb => fun ⟨A, c, e, hB, hR⟩ => ⟨A, c, e, hB, Kd.C_below hR hb⟩
  | 12, _, _, _, _ => id
  | _ + 13, _, _, _, _ => id
theorem BoxH.c0 {W : World} {g : Nat} {h : Hd} (b : BoxH W g h) : W.cell? ⟨g, 0, none⟩ = some (.string h.name) := by unfold BoxH at b; simp [World.cell?, b]
theorem BoxH.c1 {W : World} {g : Nat} {h : Hd} (b : BoxH W g h) : W.cell? ⟨g, 1, none⟩ = some (.string h.link) := by unfold BoxH at b; simp [World.cell?, b]
theorem BoxH.c2 {W : World} {g : Nat} {h : Hd} (b : BoxH W g h) : W.cell? ⟨g, 2, none⟩ = some (.int .i64 h.mode) := by unfold BoxH at b; simp [World.cell?, b]
theorem BoxH.c3 {W : World} {g : Nat} {h : Hd} (b : BoxH W g h) : W.cell? ⟨g, 3, none⟩ = some (.int .i64 h.size) := by unfold BoxH at b; simp [World.cell?, b]
theorem BoxH.c4 {W : World} {g : Nat} {h : Hd} (b : BoxH W g h) : W.cell? ⟨g, 4, none⟩ = some (.int .i64 h.time) := by unfold BoxH at b; simp [World.cell?, b]
theorem BoxH.c5 {W : World} {g : Nat} {h : Hd} (b : BoxH W g h) : W.cell? ⟨g, 5, none⟩ = some (.int .u8 h.kind) := by unfold BoxH at b; simp [World.cell?, b]
theorem BoxH.free {W : World} {g : Nat} {h : Hd} (b : BoxH W g h) (i : Nat) : W.frozen? ⟨g, i, none⟩ = false := by unfold BoxH at b; simp [World.frozen?, b]
theorem BoxH.drewN {W : World} {g : Nat} {h : Hd} (b : BoxH W g h) (n : Nat) : BoxH (W.drewN n) g h := b
theorem BoxH.drew {W : World} {g : Nat} {h : Hd} (b : BoxH W g h) : BoxH W.drew g h := b
theorem BoxH.below {W W' : World} {g : Nat} {h : Hd} (b : BoxH W g h) (hb : Below W.heap.size W W') : BoxH W' g h := (hb.block _ (Array.getElem?_eq_some_iff.1 b).1).trans b
def KnowJ (w : World) (m s t k : Int) (W : World) : Prop := Below w.heap.size w W ∧ ∃ a b, BoxH W w.heap.size ⟨a, b, m, s, t, k⟩
def KeepG (g : Nat) (nm lk : ByteArray) (W W' : World) : Prop := (W.cell? ⟨g, 0, none⟩ = some (.string nm) → W'.cell? ⟨g, 0, none⟩ = some (.string nm)) ∧ (W.cell? ⟨g, 1, none⟩ = some (.string lk) → W'.cell? ⟨g, 1, none⟩ = some (.string lk))
theorem KeepG.refl (g : Nat) (nm lk : ByteArray) (W : World) : KeepG g nm lk W W := ⟨id, id⟩
def rh15 (g : Nat) (vb v7 v5 : Value) (nm lk : ByteArray) : Nat → Value → World → Prop
  | 0 => fun v _ => v = vb
  | 1 => fun v _ => v = v7
  | 2 => fun v _ => v = .string nm
  | 3 => fun v _ => v = vb
  | 4 => fun v _ => v = v5
  | 5 => fun v _ => v = .string lk
  | 6 => fun v _ => v = .pointer (some ⟨g, 0, none⟩)
  | 7 => fun _ w => w.cell? ⟨g, 0, none⟩ = some (.string nm)
  | 8 => fun v _ => v = .pointer (some ⟨g, 1, none⟩)
  | 9 => fun _ w => w.cell? ⟨g, 1, none⟩ = some (.string lk)
  | _ => fun _ _ => True
theorem rh15_mono (g : Nat) (vb v7 v5 : Value) (nm lk : ByteArray) : ∀ i v w w', KeepG g nm lk w w' → rh15 g vb v7 v5 nm lk i v w → rh15 g vb v7 v5 nm lk i v w'
  | 0, _, _, _, _ => id
  | 1, _, _, _, _ => id
  | 2, _, _, _, _ => id
  | 3, _, _, _, _ => id
  | 4, _, _, _, _ => id
  | 5, _, _, _, _ => id
  | 6, _, _, _, _ => id
  | 7, _, _, _, hg => hg.1
  | 8, _, _, _, _ => id
  | 9, _, _, _, hg => hg.2
  | _ + 10, _, _, _, _ => id
theorem set_name {w W : World} {m s t k : Int} {nm lk : ByteArray} (h : KnowJ w m s t k W) : KnowJ w m s t k (W.setCell ⟨w.heap.size, 0, none⟩ (.string nm)) ∧ KeepG w.heap.size nm lk W (W.setCell ⟨w.heap.size, 0, none⟩ (.string nm)) ∧ (W.setCell ⟨w.heap.size, 0, none⟩ (.string nm)).cell? ⟨w.heap.size, 0, none⟩ = some (.string nm) := by
  obtain ⟨hb, a, b, hx⟩ := h
  have h1 : BoxH (W.setCell ⟨w.heap.size, 0, none⟩ (.string nm)) w.heap.size ⟨nm, b, m, s, t, k⟩ := box_set (i := 0) (.string nm) hx
  exact ⟨⟨set_below (i := 0) hb (.string nm) hx (Nat.le_refl _), nm, b, h1⟩, ⟨fun _ => h1.c0, fun e => by rw [hx.c1] at e; rw [h1.c1]; exact e⟩, h1.c0⟩
theorem set_link {w W : World} {m s t k : Int} {nm lk : ByteArray} (h : KnowJ w m s t k W) : KnowJ w m s t k (W.setCell ⟨w.heap.size, 1, none⟩ (.string lk)) ∧ KeepG w.heap.size nm lk W (W.setCell ⟨w.heap.size, 1, none⟩ (.string lk)) ∧ (W.setCell ⟨w.heap.size, 1, none⟩ (.string lk)).cell? ⟨w.heap.size, 1, none⟩ = some (.string lk) := by
  obtain ⟨hb, a, b, hx⟩ := h
  have h1 : BoxH (W.setCell ⟨w.heap.size, 1, none⟩ (.string lk)) w.heap.size ⟨a, lk, m, s, t, k⟩ := box_set (i := 1) (.string lk) hx
  exact ⟨⟨set_below (i := 1) hb (.string lk) hx (Nat.le_refl _), a, lk, h1⟩, ⟨fun e => by rw [hx.c0] at e; rw [h1.c0]; exact e, fun _ => h1.c1⟩, h1.c1⟩
theorem know_box {w W : World} {m s t k : Int} {nm lk : ByteArray} (h : KnowJ w m s t k W) (h0 : W.cell? ⟨w.heap.size, 0, none⟩ = some (.string nm)) (h1 : W.cell? ⟨w.heap.size, 1, none⟩ = some (.string lk)) : BoxH W w.heap.size ⟨nm, lk, m, s, t, k⟩ := by
  obtain ⟨hb, a, b, hx⟩ := h
  have e0 := hx.c0
  have e1 := hx.c1
  rw [h0] at e0
  rw [h1] at e1
  obtain rfl : a = nm := by injection e0 with e; injection e with e; exact e.symm
  obtain rfl : b = lk := by injection e1 with e; injection e with e; exact e.symm
  exact hx
theorem box_six {w W : World} {g : Nat} {h : Hd} (hx : BoxH W g h) (hb : Below w.heap.size w W) (hg : w.heap.size ≤ g) :
    BoxH ((((((W.setCell ⟨g, 0, none⟩ (.string h.name)).setCell ⟨g, 1, none⟩ (.string h.link)).setCell ⟨g, 2, none⟩ (.int .i64 h.mode)).setCell ⟨g, 3, none⟩ (.int .i64 h.size)).setCell ⟨g, 4, none⟩ (.int .i64 h.time)).setCell ⟨g, 5, none⟩ (.int .u8 h.kind)) g h ∧
    Below w.heap.size w ((((((W.setCell ⟨g, 0, none⟩ (.string h.name)).setCell ⟨g, 1, none⟩ (.string h.link)).setCell ⟨g, 2, none⟩ (.int .i64 h.mode)).setCell ⟨g, 3, none⟩ (.int .i64 h.size)).setCell ⟨g, 4, none⟩ (.int .i64 h.time)).setCell ⟨g, 5, none⟩ (.int .u8 h.kind)) := by
  have x0 := box_set (i := 0) (.string h.name) hx
  have x1 := box_set (i := 1) (.string h.link) x0
  have x2 := box_set (i := 2) (.int .i64 h.mode) x1
  have x3 := box_set (i := 3) (.int .i64 h.size) x2
  have x4 := box_set (i := 4) (.int .i64 h.time) x3
  have x5 := box_set (i := 5) (.int .u8 h.kind) x4
  have b0 := set_below (i := 0) hb (.string h.name) hx hg
  have b1 := set_below (i := 1) b0 (.string h.link) x0 hg
  have b2 := set_below (i := 2) b1 (.int .i64 h.mode) x1 hg
  have b3 := set_below (i := 3) b2 (.int .i64 h.size) x2 hg
  have b4 := set_below (i := 4) b3 (.int .i64 h.time) x3 hg
  exact ⟨x5, set_below (i := 5) b4 (.int .u8 h.kind) x4 hg⟩
set_option maxRecDepth 100000 in
set_option maxHeartbeats 8000000 in
theorem readHead_calls (A : Option Addr) (c : Nat) (xs : List Int) (h : Hd) (w : World) (hC : (Kd.int .u8).C w A xs.length xs) (hc : xs.length ≤ c) (T : Told xs h) (hk : h.kind = 48 ∨ h.kind = 50 ∨ h.kind = 53 ∨ h.kind = 120) (hL : Laid w) :
    Calls Tryz.prog 16 #[.slice A xs.length c] w fun e w' => e = .returned (.tuple #[.agg #[.string h.name, .string h.link, .int .i64 h.mode, .int .i64 h.size, .int .i64 h.time, .int .u8 h.kind], .int .i64 0]) ∧ Below w.heap.size w w' := by
  have hlen := T.len
  obtain ⟨wb, hwb⟩ : ∃ wb, wb = w.alloc (.cells #[.string ⟨#[]⟩, .string ⟨#[]⟩, .int .i64 0, .int .i64 0, .int .i64 0, .int .u8 0] 50) := ⟨_, rfl⟩
  have hbb : Below w.heap.size w wb := by rw [hwb]; exact balloc (Below.refl _ _) _
  have hbox : BoxH wb w.heap.size ⟨⟨#[]⟩, ⟨#[]⟩, 0, 0, 0, 0⟩ := by rw [hwb]; exact heap_alloc_new _ _
  obtain ⟨A0, c0, s0, l0, C0⟩ := sub_row hC hc 148 156 148 156 rfl rfl (by omega) (by omega)
  obtain ⟨A1, c1, s1, l1, C1⟩ := sub_row hC hc 257 265 257 265 rfl rfl (by omega) (by omega)
  obtain ⟨A2, c2, s2, l2, C2⟩ := sub_row hC hc 100 108 100 108 rfl rfl (by omega) (by omega)
  obtain ⟨A3, c3, s3, l3, C3⟩ := sub_row hC hc 124 136 124 136 rfl rfl (by omega) (by omega)
  obtain ⟨A4, c4, s4, l4, C4⟩ := sub_row hC hc 136 148 136 148 rfl rfl (by omega) (by omega)
  obtain ⟨A5, c5, s5, l5, C5⟩ := sub_row hC hc 157 257 157 257 rfl rfl (by omega) (by omega)
  obtain ⟨A6, c6, s6, l6, C6⟩ := sub_row hC hc 345 500 345 500 rfl rfl (by omega) (by omega)
  obtain ⟨s7, l7, C7⟩ := sub_row0 hC hc 100 100 rfl (by omega)
  have n0 := sub_len xs 148 156 (by omega)
  have n2 := sub_len xs 100 108 (by omega)
  have n3 := sub_len xs 124 136 (by omega)
  have n4 := sub_len xs 136 148 (by omega)
  have n5 := sub_len xs 157 257 (by omega)
  have n6 := sub_len xs 345 500 (by omega)
  have n7 := sub_len xs 0 100 (by omega)
  have HTot := Lib.hid (fun W (hb : Below w.heap.size w W) => total_calls A c xs W (Kd.C_below hC hb) T.byte (by omega) hc)
  obtain ⟨ad, hA, hx⟩ := Kd.at_int hC 156 (by omega) (by omega)
  rw [T.kind, show ad.add (156 : Int).toNat = ⟨ad.block, ad.off + 156, none⟩ from rfl] at hx
  have HX := Lib.hid (fun W (hb : Below w.heap.size w W) => bkeep hb hx)
  have HN0 := Lib.hid (fun W (hb : Below w.heap.size w W) => (by
    have h0 := numbers_calls (some ⟨W.heap.size, 0, none⟩) 1 [sub xs 148 156] _ (body_one (Kd.C_below C0 hb) l0 23) (by show 0 < 1; decide) (by show 1 ≤ 8; decide) (fun f hf => by obtain rfl := List.mem_singleton.1 hf; omega) (fun f hf => by obtain rfl := List.mem_singleton.1 hf; rw [T.sum])
    rw [show [sub xs 148 156].map (fun f => (octO f).1) = [totalF xs] from by rw [List.map_singleton, T.sum]] at h0
    exact h0 : Calls Tryz.prog 37 #[.slice (some ⟨W.heap.size, 0, none⟩) 1 1] (W.alloc (.cells #[.slice A0 (sub xs 148 156).length c0] 23)) (NumPost [totalF xs] (W.alloc (.cells #[.slice A0 (sub xs 148 156).length c0] 23)))))
  have HK := Lib.hid hk
  have HWB := Lib.hid hwb
  have HBB := Lib.hid hbb
  have HBX := Lib.hid hbox
  have HL := Lib.hid hL
  have hkz : (h.kind == 0) = false := by rcases hk with e | e | e | e <;> rw [e] <;> rfl
  have hmg : strOfNums (sub xs 257 265) = ⟨#[117, 115, 116, 97, 114, 0, 48, 48]⟩ := by rw [T.magic]; rfl
  have hcv : ∀ W, Below w.heap.size w W → (convert 23 9 (.slice A1 (sub xs 257 265).length c1)).run Tryz.prog W = .ok (.string ⟨#[117, 115, 116, 97, 114, 0, 48, 48]⟩) W := fun W hb => by
    rw [Kd.C_string (P := Tryz.prog) (w := W) (src := 23) (dst := 9) (e := 5) (c := c1) Tryz.underlying23 Tryz.underlying5 Tryz.underlying9 (Kd.C_below C1 hb), hmg]
  have HCV := Lib.hid hcv
  have HT := Lib.hid T
  have HD0 := Lib.hid (And.intro C2 (And.intro C3 (And.intro C4 (And.intro C5 (And.intro C6 C7)))))
  have HN := Lib.hid (And.intro n2 (And.intro n3 (And.intro n4 (And.intro n5 (And.intro n6 n7)))))
  clear hC hwb hbb hbox C0 C1 C2 C3 C4 C5 C6 C7 n0 n2 n3 n4 n5 n6 n7 hx hk hL hmg hcv T
  subst hA
  obtain ⟨f0, hf0⟩ : ∃ f, f = sub xs 148 156 := ⟨_, rfl⟩
  obtain ⟨f1, hf1⟩ : ∃ f, f = sub xs 257 265 := ⟨_, rfl⟩
  obtain ⟨f2, hf2⟩ : ∃ f, f = sub xs 100 108 := ⟨_, rfl⟩
  obtain ⟨f3, hf3⟩ : ∃ f, f = sub xs 124 136 := ⟨_, rfl⟩
  obtain ⟨f4, hf4⟩ : ∃ f, f = sub xs 136 148 := ⟨_, rfl⟩
  obtain ⟨f5, hf5⟩ : ∃ f, f = sub xs 157 257 := ⟨_, rfl⟩
  obtain ⟨f6, hf6⟩ : ∃ f, f = sub xs 345 500 := ⟨_, rfl⟩
  obtain ⟨f7, hf7⟩ : ∃ f, f = sub xs 0 100 := ⟨_, rfl⟩
  rw [← hf0] at s0 l0 HN0
  rw [← hf1] at s1 l1 HCV
  rw [← hf2] at s2 l2 HD0 HN
  rw [← hf3] at s3 l3 HD0 HN
  rw [← hf4] at s4 l4 HD0 HN
  rw [← hf5] at s5 l5 HD0 HN
  rw [← hf6] at s6 l6 HD0 HN
  rw [← hf7] at s7 l7 HD0 HN
  have HF := Lib.hid (And.intro hf2 (And.intro hf3 (And.intro hf4 (And.intro hf5 (And.intro hf6 hf7)))))
  clear hf0 hf1 hf2 hf3 hf4 hf5 hf6 hf7
  go_enter Tryz.func16, Tryz.ntmps16
  go_upto_region 1 with fail
  rw [← HWB.out]
  have hcn := HN0.out wb HBB.out
  have HCN := Lib.hid hcn
  clear hcn HN0 HWB
  go_upto_region 4 with (go_at_call 37; refine HCN.out.mono ?_; rintro e w1 ⟨g8, c8, rfl, hg8, HC8, HB8⟩)
  have HB1 := Lib.hid (bgo HBB.out (bgo (balloc (Below.refl _ _) _) HB8.out))
  obtain ⟨a8, e8, x8⟩ := cell_int HC8.out 0 (by show 0 < 1; decide)
  obtain rfl := Option.some.inj e8
  clear e8 hg8
  rw [show (⟨g8, 0, none⟩ : Addr).add 0 = ⟨g8, 0, none⟩ from rfl, show ([totalF xs] : List Int)[0] = totalF xs from rfl] at x8
  have HBX1 := Lib.hid (show BoxH w1 w.heap.size ⟨⟨#[]⟩, ⟨#[]⟩, 0, 0, 0, 0⟩ from ((bgo (balloc (Below.refl _ _) _) HB8.out).block _ (Array.getElem?_eq_some_iff.1 HBX.out).1).trans HBX.out)
  go_quiet ((go_at_call 38; exact Calls.quiet_of_same (HTot.out _ (bdrewN HB1.out _))))
  have HB2 := Lib.hid (bdrewN HB1.out nq)
  have HBX2 := Lib.hid (show BoxH (w1.drewN nq) w.heap.size ⟨⟨#[]⟩, ⟨#[]⟩, 0, 0, 0, 0⟩ from HBX1.out)
  clear HB1 HBX1 x8 HB8 HC8 HBX HBB HCN HTot
  revert HB2 HBX2
  generalize w1.drewN nq = w2
  intro HB2 HBX2
  have hx2 := HX.out w2 HB2.out
  have hfz : w2.frozen? ⟨w.heap.size, 5, none⟩ = false := by have h := HBX2.out; unfold BoxH at h; simp [World.frozen?, h]
  have hc5 : w2.cell? ⟨w.heap.size, 5, none⟩ = some (.int .u8 0) := by have h := HBX2.out; unfold BoxH at h; simp [World.cell?, h]
  go_upto_region 9 with (fail)
  have hbx3 : BoxH (w2.setCell ⟨w.heap.size, 5, none⟩ (.int .u8 h.kind)) w.heap.size ⟨⟨#[]⟩, ⟨#[]⟩, 0, 0, 0, h.kind⟩ := box_set (i := 5) (.int .u8 h.kind) HBX2.out
  have hb3 := set_below (i := 5) HB2.out (.int .u8 h.kind) HBX2.out (Nat.le_refl _)
  have HBX3 := Lib.hid hbx3
  have HB3 := Lib.hid hb3
  clear hbx3 hb3 hx2 hfz hc5 HBX2 HB2 hkz s0 l0
  revert HB3 HBX3
  generalize w2.setCell ⟨w.heap.size, 5, none⟩ (.int .u8 h.kind) = w3
  intro HBX3 HB3
  have hcv3 := HCV.out w3 HB3.out
  have hc53 : w3.cell? ⟨w.heap.size, 5, none⟩ = some (.int .u8 h.kind) := by have h := HBX3.out; unfold BoxH at h; simp [World.cell?, h]
  have hki := kind_in h.kind HK.out
  have HIX := Lib.hid (show Calls Tryz.prog 39 #[.string ⟨#[48, 50, 53, 120]⟩, .int .u8 h.kind] w3 (fun e w' => e = .returned (.int .i64 (Lib.indexByte [48, 50, 53, 120] h.kind.toNat.toUInt8)) ∧ w' = w3) from Tryz.strings_IndexByte ⟨#[48, 50, 53, 120]⟩ h.kind w3)
  generalize Lib.indexByte [48, 50, 53, 120] h.kind.toNat.toUInt8 = ix at *
  have hki' : ¬ ix < 0 := by omega
  have hkd : decide (ix < 0) = false := by simp; omega
  go_cut [45] (fun v w4 => v = .bool false ∧ w3 = w4)
  · go_wp2_with (go_at_call 39; refine HIX.out.mono ?_; rintro e w4 ⟨rfl, rfl⟩)
    go_meet
    exact ⟨by first | rfl | rw [hkd], rfl⟩
  obtain ⟨rfl, rfl⟩ := hcut
  clear hcv3 hc53 hki hki' hkd HIX HCV s1 l1
  go_upto_region 11 with (fail)
  have HNB := Lib.hid (fun W A c' (hR : RowsAt W A [f2, f3, f4]) => (by
    have h0 := numbers_calls A c' [f2, f3, f4] W hR (by show 0 < 3; decide) (by show 3 ≤ 8; decide) (fun f hf => by have := HN.out; simp only [List.mem_cons, List.not_mem_nil, or_false] at hf; rcases hf with rfl | rfl | rfl <;> omega) (fun f hf => by simp only [List.mem_cons, List.not_mem_nil, or_false] at hf; rcases hf with e | e | e <;> rw [e] <;> first | rw [HF.out.1, HT.out.mode] | rw [HF.out.2.1, HT.out.size] | rw [HF.out.2.2.1, HT.out.time])
    rw [show [f2, f3, f4].map (fun f => (octO f).1) = [h.mode, h.size, h.time] from by simp only [List.map_cons, List.map_nil]; rw [HF.out.1, HF.out.2.1, HF.out.2.2.1, HT.out.mode, HT.out.size, HT.out.time]] at h0
    exact h0 : Calls Tryz.prog 37 #[.slice A 3 c'] W (NumPost [h.mode, h.size, h.time] W)))
  -- REGION 11
  go_cut [5, 6] (fun v5 v6 w4 => v5 = .int .i64 0 ∧ ∃ g9 c9, v6 = .slice (some ⟨g9, 0, none⟩) 3 c9 ∧ Hid (w3.heap.size ≤ g9) ∧ Hid ((Kd.int .i64).C w4 (some ⟨g9, 0, none⟩) 3 [h.mode, h.size, h.time]) ∧ Hid (Below w3.heap.size w3 w4))
  · refine region_J (by kernel_rfl) (fun W => Below w3.heap.size w3 W) (fun W W' => Below W.heap.size W W') (fun us => (⟨#[.slice (some ad) xs.length c, undef, .pointer (some ⟨w.heap.size, 0, none⟩), .int .i64 0, .slice (some ⟨g8, 0, none⟩) 1 c8, us 12, us 11, undef, u8, u9, u10, u11, u12, u13, u14, .bool false, u16, u17, u18, u19, .bool false, u21, u22, u23, u24, u25, u26, u27, u28, u29, u30, u31, u32, u33, u34, u35, u36, u37, u38, u39, u40, u41, u42, u43, u44, .bool false, u46, us 8, us 0, us 1, us 2, us 3, us 4, us 5, us 6, us 7, us 9, us 10, u58, u59, u60, u61, u62, u63, u64, u65, u66, u67, u68, u69, u70, u71, u72, u73, u74, u75, u76, u77, u78, u79, u80, u81, u82, u83, u84, u85, u86, u87, u88, u89, u90, u91, u92, u93], []⟩ : Act)) (rh11 w3.heap.size (.slice (some ad) xs.length c) (.slice A2 f2.length c2) (.slice A3 f3.length c3) (.slice A4 f4.length c4) f2 f3 f4 [h.mode, h.size, h.time]) (fun i => [u48, u49, u50, u51, u52, u53, u54, u55, u47, u56, u57, undef, .int .i64 0].getD i undef) (fun i v W W' _ _ hG hT => rh11_mono _ _ _ _ _ f2 f3 f4 _ i v W W' hG hT) ?_ (deps_any (by kernel_rfl)).1 (deps_any (by kernel_rfl)).2 (bdrew (Below.refl _ _)) ?_ ?_
    · intro i o ho us v
      iterate 13
        rcases i with _ | i
        · obtain rfl := Option.some.inj ho
          rfl
      cases ho
    · intro i o ho us w2 hb hdep K hK
      rcases i with _ | i
      · obtain rfl := Option.some.inj ho
        clear ho
        show wpList _ _ _ _ (⟨#[.slice (some ad) xs.length c, undef, .pointer (some ⟨w.heap.size, 0, none⟩), .int .i64 0, .slice (some ⟨g8, 0, none⟩) 1 c8, us 12, us 11, undef, u8, u9, u10, u11, u12, u13, u14, .bool false, u16, u17, u18, u19, .bool false, u21, u22, u23, u24, u25, u26, u27, u28, u29, u30, u31, u32, u33, u34, u35, u36, u37, u38, u39, u40, u41, u42, u43, u44, .bool false, u46, us 8, us 0, us 1, us 2, us 3, us 4, us 5, us 6, us 7, us 9, us 10, u58, u59, u60, u61, u62, u63, u64, u65, u66, u67, u68, u69, u70, u71, u72, u73, u74, u75, u76, u77, u78, u79, u80, u81, u82, u83, u84, u85, u86, u87, u88, u89, u90, u91, u92, u93], []⟩ : Act) w2
        go_wp2
        exact hK _ _ hb (Below.refl _ _) rfl
      rcases i with _ | i
      · obtain rfl := Option.some.inj ho
        clear ho
        obtain ⟨us, rfl⟩ : ∃ us', us = upd 0 (.slice (some ad) xs.length c) us' := ⟨us, upd_eq (hdep { on := 0, ground := .data } (by simp) rfl)⟩
        show wpList _ _ _ _ (⟨#[.slice (some ad) xs.length c, undef, .pointer (some ⟨w.heap.size, 0, none⟩), .int .i64 0, .slice (some ⟨g8, 0, none⟩) 1 c8, us 12, us 11, undef, u8, u9, u10, u11, u12, u13, u14, .bool false, u16, u17, u18, u19, .bool false, u21, u22, u23, u24, u25, u26, u27, u28, u29, u30, u31, u32, u33, u34, u35, u36, u37, u38, u39, u40, u41, u42, u43, u44, .bool false, u46, us 8, .slice (some ad) xs.length c, us 1, us 2, us 3, us 4, us 5, us 6, us 7, us 9, us 10, u58, u59, u60, u61, u62, u63, u64, u65, u66, u67, u68, u69, u70, u71, u72, u73, u74, u75, u76, u77, u78, u79, u80, u81, u82, u83, u84, u85, u86, u87, u88, u89, u90, u91, u92, u93], []⟩ : Act) w2
        go_wp2
        exact hK _ _ hb (Below.refl _ _) rfl
      rcases i with _ | i
      · obtain rfl := Option.some.inj ho
        clear ho
        show wpList _ _ _ _ (⟨#[.slice (some ad) xs.length c, undef, .pointer (some ⟨w.heap.size, 0, none⟩), .int .i64 0, .slice (some ⟨g8, 0, none⟩) 1 c8, us 12, us 11, undef, u8, u9, u10, u11, u12, u13, u14, .bool false, u16, u17, u18, u19, .bool false, u21, u22, u23, u24, u25, u26, u27, u28, u29, u30, u31, u32, u33, u34, u35, u36, u37, u38, u39, u40, u41, u42, u43, u44, .bool false, u46, us 8, us 0, us 1, us 2, us 3, us 4, us 5, us 6, us 7, us 9, us 10, u58, u59, u60, u61, u62, u63, u64, u65, u66, u67, u68, u69, u70, u71, u72, u73, u74, u75, u76, u77, u78, u79, u80, u81, u82, u83, u84, u85, u86, u87, u88, u89, u90, u91, u92, u93], []⟩ : Act) w2
        go_wp2
        exact hK _ _ hb (Below.refl _ _) rfl
      rcases i with _ | i
      · obtain rfl := Option.some.inj ho
        clear ho
        obtain ⟨us, rfl⟩ : ∃ us', us = upd 2 (.slice (some ad) xs.length c) us' := ⟨us, upd_eq (hdep { on := 2, ground := .data } (by simp) rfl)⟩
        show wpList _ _ _ _ (⟨#[.slice (some ad) xs.length c, undef, .pointer (some ⟨w.heap.size, 0, none⟩), .int .i64 0, .slice (some ⟨g8, 0, none⟩) 1 c8, us 12, us 11, undef, u8, u9, u10, u11, u12, u13, u14, .bool false, u16, u17, u18, u19, .bool false, u21, u22, u23, u24, u25, u26, u27, u28, u29, u30, u31, u32, u33, u34, u35, u36, u37, u38, u39, u40, u41, u42, u43, u44, .bool false, u46, us 8, us 0, us 1, .slice (some ad) xs.length c, us 3, us 4, us 5, us 6, us 7, us 9, us 10, u58, u59, u60, u61, u62, u63, u64, u65, u66, u67, u68, u69, u70, u71, u72, u73, u74, u75, u76, u77, u78, u79, u80, u81, u82, u83, u84, u85, u86, u87, u88, u89, u90, u91, u92, u93], []⟩ : Act) w2
        go_wp2
        exact hK _ _ hb (Below.refl _ _) rfl
      rcases i with _ | i
      · obtain rfl := Option.some.inj ho
        clear ho
        show wpList _ _ _ _ (⟨#[.slice (some ad) xs.length c, undef, .pointer (some ⟨w.heap.size, 0, none⟩), .int .i64 0, .slice (some ⟨g8, 0, none⟩) 1 c8, us 12, us 11, undef, u8, u9, u10, u11, u12, u13, u14, .bool false, u16, u17, u18, u19, .bool false, u21, u22, u23, u24, u25, u26, u27, u28, u29, u30, u31, u32, u33, u34, u35, u36, u37, u38, u39, u40, u41, u42, u43, u44, .bool false, u46, us 8, us 0, us 1, us 2, us 3, us 4, us 5, us 6, us 7, us 9, us 10, u58, u59, u60, u61, u62, u63, u64, u65, u66, u67, u68, u69, u70, u71, u72, u73, u74, u75, u76, u77, u78, u79, u80, u81, u82, u83, u84, u85, u86, u87, u88, u89, u90, u91, u92, u93], []⟩ : Act) w2
        go_wp2
        exact hK _ _ hb (Below.refl _ _) rfl
      rcases i with _ | i
      · obtain rfl := Option.some.inj ho
        clear ho
        obtain ⟨us, rfl⟩ : ∃ us', us = upd 4 (.slice (some ad) xs.length c) us' := ⟨us, upd_eq (hdep { on := 4, ground := .data } (by simp) rfl)⟩
        show wpList _ _ _ _ (⟨#[.slice (some ad) xs.length c, undef, .pointer (some ⟨w.heap.size, 0, none⟩), .int .i64 0, .slice (some ⟨g8, 0, none⟩) 1 c8, us 12, us 11, undef, u8, u9, u10, u11, u12, u13, u14, .bool false, u16, u17, u18, u19, .bool false, u21, u22, u23, u24, u25, u26, u27, u28, u29, u30, u31, u32, u33, u34, u35, u36, u37, u38, u39, u40, u41, u42, u43, u44, .bool false, u46, us 8, us 0, us 1, us 2, us 3, .slice (some ad) xs.length c, us 5, us 6, us 7, us 9, us 10, u58, u59, u60, u61, u62, u63, u64, u65, u66, u67, u68, u69, u70, u71, u72, u73, u74, u75, u76, u77, u78, u79, u80, u81, u82, u83, u84, u85, u86, u87, u88, u89, u90, u91, u92, u93], []⟩ : Act) w2
        go_wp2
        exact hK _ _ hb (Below.refl _ _) rfl
      rcases i with _ | i
      · obtain rfl := Option.some.inj ho
        clear ho
        obtain ⟨us, rfl⟩ : ∃ us', us = upd 1 (.slice A2 f2.length c2) us' := ⟨us, upd_eq (hdep { on := 1, ground := .data } (by simp) rfl)⟩
        obtain ⟨us, rfl⟩ : ∃ us', us = upd 3 (.slice A3 f3.length c3) us' := ⟨us, upd_eq (hdep { on := 3, ground := .data } (by simp) rfl)⟩
        obtain ⟨us, rfl⟩ : ∃ us', us = upd 5 (.slice A4 f4.length c4) us' := ⟨us, upd_eq (hdep { on := 5, ground := .data } (by simp) rfl)⟩
        show wpList _ _ _ _ (⟨#[.slice (some ad) xs.length c, undef, .pointer (some ⟨w.heap.size, 0, none⟩), .int .i64 0, .slice (some ⟨g8, 0, none⟩) 1 c8, us 12, us 11, undef, u8, u9, u10, u11, u12, u13, u14, .bool false, u16, u17, u18, u19, .bool false, u21, u22, u23, u24, u25, u26, u27, u28, u29, u30, u31, u32, u33, u34, u35, u36, u37, u38, u39, u40, u41, u42, u43, u44, .bool false, u46, us 8, us 0, .slice A2 f2.length c2, us 2, .slice A3 f3.length c3, us 4, .slice A4 f4.length c4, us 6, us 7, us 9, us 10, u58, u59, u60, u61, u62, u63, u64, u65, u66, u67, u68, u69, u70, u71, u72, u73, u74, u75, u76, u77, u78, u79, u80, u81, u82, u83, u84, u85, u86, u87, u88, u89, u90, u91, u92, u93], []⟩ : Act) w2
        go_wp2
        exact hK _ _ (balloc hb _) (balloc (Below.refl _ _) _) ⟨_, 3, rfl, body_three (Kd.C_below HD0.out.1 (bgo HB3.out hb)) l2 (Kd.C_below HD0.out.2.1 (bgo HB3.out hb)) l3 (Kd.C_below HD0.out.2.2.1 (bgo HB3.out hb)) l4 _⟩
      rcases i with _ | i
      · obtain rfl := Option.some.inj ho
        clear ho
        obtain ⟨A, c', d1, hR⟩ := (hdep { on := 6, ground := .data } (by simp) rfl)
        obtain ⟨us, rfl⟩ : ∃ us', us = upd 6 (.slice A 3 c') us' := ⟨us, upd_eq d1⟩
        have HCC := Lib.hid (show Calls Tryz.prog 37 #[.slice A 3 c'] w2 (NumPost [h.mode, h.size, h.time] w2) from HNB.out w2 A c' hR)
        show wpList _ _ _ _ (⟨#[.slice (some ad) xs.length c, undef, .pointer (some ⟨w.heap.size, 0, none⟩), .int .i64 0, .slice (some ⟨g8, 0, none⟩) 1 c8, us 12, us 11, undef, u8, u9, u10, u11, u12, u13, u14, .bool false, u16, u17, u18, u19, .bool false, u21, u22, u23, u24, u25, u26, u27, u28, u29, u30, u31, u32, u33, u34, u35, u36, u37, u38, u39, u40, u41, u42, u43, u44, .bool false, u46, us 8, us 0, us 1, us 2, us 3, us 4, us 5, .slice A 3 c', us 7, us 9, us 10, u58, u59, u60, u61, u62, u63, u64, u65, u66, u67, u68, u69, u70, u71, u72, u73, u74, u75, u76, u77, u78, u79, u80, u81, u82, u83, u84, u85, u86, u87, u88, u89, u90, u91, u92, u93], []⟩ : Act) w2
        go_wp2_with (go_at_call 37; refine HCC.out.mono ?_; rintro e w5 ⟨A', c'', rfl, hg', hC', hB'⟩)
        exact hK _ _ (bgo hb hB'.out) hB'.out ⟨A', c'', rfl, Nat.le_trans hb.size hg', hC'.out⟩
      rcases i with _ | i
      · obtain rfl := Option.some.inj ho
        clear ho
        obtain ⟨A', c'', d1, hg', hC'⟩ := (hdep { on := 7, ground := .data } (by simp) rfl)
        obtain ⟨us, rfl⟩ : ∃ us', us = upd 7 (.tuple #[.slice (some ⟨A', 0, none⟩) 3 c'', .int .i64 0]) us' := ⟨us, upd_eq d1⟩
        show wpList _ _ _ _ (⟨#[.slice (some ad) xs.length c, undef, .pointer (some ⟨w.heap.size, 0, none⟩), .int .i64 0, .slice (some ⟨g8, 0, none⟩) 1 c8, us 12, us 11, undef, u8, u9, u10, u11, u12, u13, u14, .bool false, u16, u17, u18, u19, .bool false, u21, u22, u23, u24, u25, u26, u27, u28, u29, u30, u31, u32, u33, u34, u35, u36, u37, u38, u39, u40, u41, u42, u43, u44, .bool false, u46, us 8, us 0, us 1, us 2, us 3, us 4, us 5, us 6, .tuple #[.slice (some ⟨A', 0, none⟩) 3 c'', .int .i64 0], us 9, us 10, u58, u59, u60, u61, u62, u63, u64, u65, u66, u67, u68, u69, u70, u71, u72, u73, u74, u75, u76, u77, u78, u79, u80, u81, u82, u83, u84, u85, u86, u87, u88, u89, u90, u91, u92, u93], []⟩ : Act) w2
        go_wp2
        exact hK _ _ hb (Below.refl _ _) ⟨A', c'', rfl, hg', hC'⟩
      rcases i with _ | i
      · obtain rfl := Option.some.inj ho
        clear ho
        obtain ⟨A', c'', d1, hg', hC'⟩ := (hdep { on := 8, ground := .data } (by simp) rfl)
        obtain ⟨us, rfl⟩ : ∃ us', us = upd 8 (.tuple #[.slice (some ⟨A', 0, none⟩) 3 c'', .int .i64 0]) us' := ⟨us, upd_eq d1⟩
        show wpList _ _ _ _ (⟨#[.slice (some ad) xs.length c, undef, .pointer (some ⟨w.heap.size, 0, none⟩), .int .i64 0, .slice (some ⟨g8, 0, none⟩) 1 c8, us 12, us 11, undef, u8, u9, u10, u11, u12, u13, u14, .bool false, u16, u17, u18, u19, .bool false, u21, u22, u23, u24, u25, u26, u27, u28, u29, u30, u31, u32, u33, u34, u35, u36, u37, u38, u39, u40, u41, u42, u43, u44, .bool false, u46, .tuple #[.slice (some ⟨A', 0, none⟩) 3 c'', .int .i64 0], us 0, us 1, us 2, us 3, us 4, us 5, us 6, us 7, us 9, us 10, u58, u59, u60, u61, u62, u63, u64, u65, u66, u67, u68, u69, u70, u71, u72, u73, u74, u75, u76, u77, u78, u79, u80, u81, u82, u83, u84, u85, u86, u87, u88, u89, u90, u91, u92, u93], []⟩ : Act) w2
        go_wp2
        exact hK _ _ hb (Below.refl _ _) ⟨A', c'', rfl, hg', hC'⟩
      rcases i with _ | i
      · obtain rfl := Option.some.inj ho
        clear ho
        obtain ⟨A', c'', d1, hg', hC'⟩ := (hdep { on := 8, ground := .data } (by simp) rfl)
        obtain ⟨us, rfl⟩ : ∃ us', us = upd 8 (.tuple #[.slice (some ⟨A', 0, none⟩) 3 c'', .int .i64 0]) us' := ⟨us, upd_eq d1⟩
        show wpList _ _ _ _ (⟨#[.slice (some ad) xs.length c, undef, .pointer (some ⟨w.heap.size, 0, none⟩), .int .i64 0, .slice (some ⟨g8, 0, none⟩) 1 c8, us 12, us 11, undef, u8, u9, u10, u11, u12, u13, u14, .bool false, u16, u17, u18, u19, .bool false, u21, u22, u23, u24, u25, u26, u27, u28, u29, u30, u31, u32, u33, u34, u35, u36, u37, u38, u39, u40, u41, u42, u43, u44, .bool false, u46, .tuple #[.slice (some ⟨A', 0, none⟩) 3 c'', .int .i64 0], us 0, us 1, us 2, us 3, us 4, us 5, us 6, us 7, us 9, us 10, u58, u59, u60, u61, u62, u63, u64, u65, u66, u67, u68, u69, u70, u71, u72, u73, u74, u75, u76, u77, u78, u79, u80, u81, u82, u83, u84, u85, u86, u87, u88, u89, u90, u91, u92, u93], []⟩ : Act) w2
        go_wp2
        exact hK _ _ hb (Below.refl _ _) rfl
      rcases i with _ | i
      · obtain rfl := Option.some.inj ho
        clear ho
        obtain ⟨A', c'', d1, hg', hC'⟩ := (hdep { on := 9, ground := .data } (by simp) rfl)
        obtain ⟨us, rfl⟩ : ∃ us', us = upd 9 (.slice (some ⟨A', 0, none⟩) 3 c'') us' := ⟨us, upd_eq d1⟩
        show wpList _ _ _ _ (⟨#[.slice (some ad) xs.length c, undef, .pointer (some ⟨w.heap.size, 0, none⟩), .int .i64 0, .slice (some ⟨g8, 0, none⟩) 1 c8, us 12, us 11, undef, u8, u9, u10, u11, u12, u13, u14, .bool false, u16, u17, u18, u19, .bool false, u21, u22, u23, u24, u25, u26, u27, u28, u29, u30, u31, u32, u33, u34, u35, u36, u37, u38, u39, u40, u41, u42, u43, u44, .bool false, u46, us 8, us 0, us 1, us 2, us 3, us 4, us 5, us 6, us 7, .slice (some ⟨A', 0, none⟩) 3 c'', us 10, u58, u59, u60, u61, u62, u63, u64, u65, u66, u67, u68, u69, u70, u71, u72, u73, u74, u75, u76, u77, u78, u79, u80, u81, u82, u83, u84, u85, u86, u87, u88, u89, u90, u91, u92, u93], []⟩ : Act) w2
        go_wp2
        exact hK _ _ hb (Below.refl _ _) ⟨A', c'', rfl, hg', hC'⟩
      rcases i with _ | i
      · obtain rfl := Option.some.inj ho
        clear ho
        obtain ⟨us, rfl⟩ : ∃ us', us = upd 10 (.int .i64 0) us' := ⟨us, upd_eq (hdep { on := 10, ground := .data } (by simp) rfl)⟩
        show wpList _ _ _ _ (⟨#[.slice (some ad) xs.length c, undef, .pointer (some ⟨w.heap.size, 0, none⟩), .int .i64 0, .slice (some ⟨g8, 0, none⟩) 1 c8, us 12, us 11, undef, u8, u9, u10, u11, u12, u13, u14, .bool false, u16, u17, u18, u19, .bool false, u21, u22, u23, u24, u25, u26, u27, u28, u29, u30, u31, u32, u33, u34, u35, u36, u37, u38, u39, u40, u41, u42, u43, u44, .bool false, u46, us 8, us 0, us 1, us 2, us 3, us 4, us 5, us 6, us 7, us 9, .int .i64 0, u58, u59, u60, u61, u62, u63, u64, u65, u66, u67, u68, u69, u70, u71, u72, u73, u74, u75, u76, u77, u78, u79, u80, u81, u82, u83, u84, u85, u86, u87, u88, u89, u90, u91, u92, u93], []⟩ : Act) w2
        go_wp2
        exact hK _ _ hb (Below.refl _ _) rfl
      cases ho
    · intro us w2 hb hT
      obtain ⟨A', c'', d1, hg', hC'⟩ := hT 11 (by show 11 < 13; decide)
      have d2 : us 12 = .int .i64 0 := hT 12 (by show 12 < 13; decide)
      have HC' := Lib.hid hC'
      have HG' := Lib.hid hg'
      have HBe := Lib.hid hb
      clear hT hb hC' hg'
      obtain ⟨us, rfl⟩ : ∃ us', us = upd 11 (.slice (some ⟨A', 0, none⟩) 3 c'') us' := ⟨us, upd_eq d1⟩
      obtain ⟨us, rfl⟩ : ∃ us', us = upd 12 (.int .i64 0) us' := ⟨us, upd_eq d2⟩
      show Exit.then _ _ Exit.normal (⟨#[.slice (some ad) xs.length c, undef, .pointer (some ⟨w.heap.size, 0, none⟩), .int .i64 0, .slice (some ⟨g8, 0, none⟩) 1 c8, .int .i64 0, .slice (some ⟨A', 0, none⟩) 3 c'', undef, u8, u9, u10, u11, u12, u13, u14, .bool false, u16, u17, u18, u19, .bool false, u21, u22, u23, u24, u25, u26, u27, u28, u29, u30, u31, u32, u33, u34, u35, u36, u37, u38, u39, u40, u41, u42, u43, u44, .bool false, u46, us 8, us 0, us 1, us 2, us 3, us 4, us 5, us 6, us 7, us 9, us 10, u58, u59, u60, u61, u62, u63, u64, u65, u66, u67, u68, u69, u70, u71, u72, u73, u74, u75, u76, u77, u78, u79, u80, u81, u82, u83, u84, u85, u86, u87, u88, u89, u90, u91, u92, u93], []⟩ : Act) w2
      go_wp2_with fail
      go_meet
      exact ⟨rfl, A', c'', rfl, HG', HC', HBe⟩
  -- BEHIND 11
  obtain ⟨rfl, g9, c9, rfl, hg9, HC9, HB4⟩ := hcut
  obtain ⟨w4, rfl⟩ : ∃ w4 : World, w4 = wc := ⟨_, rfl⟩
  obtain ⟨a9, e9, x0⟩ := cell_int (ns := [h.mode, h.size, h.time]) HC9.out 0 (by show 0 < 3; decide)
  obtain ⟨a9', e9', x1⟩ := cell_int (ns := [h.mode, h.size, h.time]) HC9.out 1 (by show 1 < 3; decide)
  obtain ⟨a9'', e9'', x2⟩ := cell_int (ns := [h.mode, h.size, h.time]) HC9.out 2 (by show 2 < 3; decide)
  obtain rfl := Option.some.inj e9
  obtain rfl := Option.some.inj e9'
  obtain rfl := Option.some.inj e9''
  rw [show (⟨g9, 0, none⟩ : Addr).add 0 = ⟨g9, 0, none⟩ from rfl, show ([h.mode, h.size, h.time] : List Int)[0] = h.mode from rfl] at x0
  rw [show (⟨g9, 0, none⟩ : Addr).add 1 = ⟨g9, 1, none⟩ from rfl, show ([h.mode, h.size, h.time] : List Int)[1] = h.size from rfl] at x1
  rw [show (⟨g9, 0, none⟩ : Addr).add 2 = ⟨g9, 2, none⟩ from rfl, show ([h.mode, h.size, h.time] : List Int)[2] = h.time from rfl] at x2
  have HBW4 := Lib.hid (bgo HB3.out HB4.out)
  have HBX4 := Lib.hid (show BoxH w4 w.heap.size ⟨⟨#[]⟩, ⟨#[]⟩, 0, 0, 0, h.kind⟩ from (HB4.out.block _ (Array.getElem?_eq_some_iff.1 HBX3.out).1).trans HBX3.out)
  have hne : g9 ≠ w.heap.size := by have h1 := (Array.getElem?_eq_some_iff.1 HBX3.out).1; have h2 := hg9.out; omega
  have hne' : w.heap.size ≠ g9 := fun e => hne e.symm
  have z : ∀ i, w4.frozen? ⟨w.heap.size, i, none⟩ = false := fun i => by have h := HBX4.out; unfold BoxH at h; simp [World.frozen?, h]
  have z2 := z 2
  have z3 := z 3
  have z4 := z 4
  have y2 : w4.cell? ⟨w.heap.size, 2, none⟩ = some (.int .i64 0) := by have h := HBX4.out; unfold BoxH at h; simp [World.cell?, h]
  have y3 : w4.cell? ⟨w.heap.size, 3, none⟩ = some (.int .i64 0) := by have h := HBX4.out; unfold BoxH at h; simp [World.cell?, h]
  have y4 : w4.cell? ⟨w.heap.size, 4, none⟩ = some (.int .i64 0) := by have h := HBX4.out; unfold BoxH at h; simp [World.cell?, h]
  clear e9 e9' e9'' HB4 HBX3 HB3 HC9 HNB z hg9
  go_upto_region 14 with (fail)
  go_cut [] (fun w5 => Hid (BoxH w5 w.heap.size ⟨⟨#[]⟩, ⟨#[]⟩, h.mode, h.size, h.time, h.kind⟩) ∧ Hid (Below w.heap.size w w5))
  · go_region
    have q1 := box_set (i := 2) (.int .i64 h.mode) HBX4.out
    have q2 := box_set (i := 3) (.int .i64 h.size) q1
    have q3 := box_set (i := 4) (.int .i64 h.time) q2
    have r1 := set_below (i := 2) HBW4.out (.int .i64 h.mode) HBX4.out (Nat.le_refl _)
    have r2 := set_below (i := 3) r1 (.int .i64 h.size) q1 (Nat.le_refl _)
    have r3 := set_below (i := 4) r2 (.int .i64 h.time) q2 (Nat.le_refl _)
    have HQ := Lib.hid (And.intro q3 r3)
    clear q1 q2 q3 r1 r2 r3
    go_wp2_with fail
    go_meet
    exact ⟨Lib.hid HQ.out.1, Lib.hid (bdrew HQ.out.2)⟩
  obtain ⟨HBX5, HBW5⟩ := hcut
  obtain ⟨w5, rfl⟩ : ∃ w5 : World, w5 = wc := ⟨_, rfl⟩
  clear x0 x1 x2 z2 z3 z4 y2 y3 y4 hne hne' HBX4 HBW4 s2 l2 s3 l3 s4 l4
  have HU7 := Lib.hid (fun W (hb : Below w.heap.size w W) => (by
    have h0 := upto_calls (some ad) c f7 W (Kd.C_below HD0.out.2.2.2.2.2 hb) (by have := HN.out.2.2.2.2.2; omega) (HL.out.below hb)
    rw [HF.out.2.2.2.2.2, HT.out.name, ← HF.out.2.2.2.2.2] at h0
    exact h0 : Calls Tryz.prog 40 #[.slice (some ad) f7.length c] W fun e w' => e = .returned (.string h.name) ∧ ∃ n, w' = W.drewN n))
  have HU5 := Lib.hid (fun W (hb : Below w.heap.size w W) => (by
    have h0 := upto_calls A5 c5 f5 W (Kd.C_below HD0.out.2.2.2.1 hb) (by have := HN.out.2.2.2.1; omega) (HL.out.below hb)
    rw [HF.out.2.2.2.1, HT.out.link, ← HF.out.2.2.2.1] at h0
    exact h0 : Calls Tryz.prog 40 #[.slice A5 f5.length c5] W fun e w' => e = .returned (.string h.link) ∧ ∃ n, w' = W.drewN n))
  have HU6 := Lib.hid (fun W (hb : Below w.heap.size w W) => (by
    have h0 := upto_calls A6 c6 f6 W (Kd.C_below HD0.out.2.2.2.2.1 hb) (by have := HN.out.2.2.2.2.1; omega) (HL.out.below hb)
    rw [HF.out.2.2.2.2.1, HT.out.pre, ← HF.out.2.2.2.2.1] at h0
    exact h0 : Calls Tryz.prog 40 #[.slice A6 f6.length c6] W fun e w' => e = .returned (.string ⟨#[]⟩) ∧ ∃ n, w' = W.drewN n))
  clear HX HD0 HN HF
  go_upto_region 15 with (fail)
  -- REGION 15
  go_cut [] (fun w6 => Hid (BoxH w6 w.heap.size h) ∧ Hid (Below w.heap.size w w6))
  · refine region_J (by kernel_rfl) (KnowJ w h.mode h.size h.time h.kind) (KeepG w.heap.size h.name h.link) (fun us => (⟨#[.slice (some ad) xs.length c, undef, .pointer (some ⟨w.heap.size, 0, none⟩), .int .i64 0, .slice (some ⟨g8, 0, none⟩) 1 c8, .int .i64 0, .slice (some ⟨g9, 0, none⟩) 3 c9, undef, u8, u9, u10, u11, u12, u13, u14, .bool false, u16, u17, u18, u19, .bool false, u21, u22, u23, u24, u25, u26, u27, u28, u29, u30, u31, u32, u33, u34, u35, u36, u37, u38, u39, u40, u41, u42, u43, u44, u45, u46, u47, u48, u49, u50, u51, u52, u53, u54, u55, u56, u57, u58, u59, u60, u61, u62, u63, u64, u65, u66, u67, u68, u69, u70, u71, u72, u73, us 0, us 1, us 2, us 3, us 4, us 5, us 6, us 8, u82, u83, u84, u85, u86, u87, u88, u89, u90, u91, u92, u93], []⟩ : Act)) (rh15 w.heap.size (.slice (some ad) xs.length c) (.slice (some ad) f7.length c) (.slice A5 f5.length c5) h.name h.link) (fun i => [u74, u75, u76, u77, u78, u79, u80, undef, u81, undef].getD i undef) (fun i v W W' _ _ hG hT => rh15_mono _ _ _ _ _ _ i v W W' hG hT) ?_ (deps_any (by kernel_rfl)).1 (deps_any (by kernel_rfl)).2 ⟨bdrew HBW5.out, ⟨#[]⟩, ⟨#[]⟩, HBX5.out⟩ ?_ ?_
    · intro i o ho us v
      iterate 10
        rcases i with _ | i
        · obtain rfl := Option.some.inj ho
          rfl
      cases ho
    · intro i o ho us w2 hb hdep K hK
      rcases i with _ | i
      · obtain rfl := Option.some.inj ho
        clear ho
        show wpList _ _ _ _ (⟨#[.slice (some ad) xs.length c, undef, .pointer (some ⟨w.heap.size, 0, none⟩), .int .i64 0, .slice (some ⟨g8, 0, none⟩) 1 c8, .int .i64 0, .slice (some ⟨g9, 0, none⟩) 3 c9, undef, u8, u9, u10, u11, u12, u13, u14, .bool false, u16, u17, u18, u19, .bool false, u21, u22, u23, u24, u25, u26, u27, u28, u29, u30, u31, u32, u33, u34, u35, u36, u37, u38, u39, u40, u41, u42, u43, u44, u45, u46, u47, u48, u49, u50, u51, u52, u53, u54, u55, u56, u57, u58, u59, u60, u61, u62, u63, u64, u65, u66, u67, u68, u69, u70, u71, u72, u73, us 0, us 1, us 2, us 3, us 4, us 5, us 6, us 8, u82, u83, u84, u85, u86, u87, u88, u89, u90, u91, u92, u93], []⟩ : Act) w2
        go_wp2
        exact hK _ _ hb (KeepG.refl _ _ _ _) rfl
      rcases i with _ | i
      · obtain rfl := Option.some.inj ho
        clear ho
        obtain ⟨us, rfl⟩ : ∃ us', us = upd 0 (.slice (some ad) xs.length c) us' := ⟨us, upd_eq (hdep { on := 0, ground := .data } (by simp) rfl)⟩
        show wpList _ _ _ _ (⟨#[.slice (some ad) xs.length c, undef, .pointer (some ⟨w.heap.size, 0, none⟩), .int .i64 0, .slice (some ⟨g8, 0, none⟩) 1 c8, .int .i64 0, .slice (some ⟨g9, 0, none⟩) 3 c9, undef, u8, u9, u10, u11, u12, u13, u14, .bool false, u16, u17, u18, u19, .bool false, u21, u22, u23, u24, u25, u26, u27, u28, u29, u30, u31, u32, u33, u34, u35, u36, u37, u38, u39, u40, u41, u42, u43, u44, u45, u46, u47, u48, u49, u50, u51, u52, u53, u54, u55, u56, u57, u58, u59, u60, u61, u62, u63, u64, u65, u66, u67, u68, u69, u70, u71, u72, u73, .slice (some ad) xs.length c, us 1, us 2, us 3, us 4, us 5, us 6, us 8, u82, u83, u84, u85, u86, u87, u88, u89, u90, u91, u92, u93], []⟩ : Act) w2
        go_wp2
        exact hK _ _ hb (KeepG.refl _ _ _ _) rfl
      rcases i with _ | i
      · obtain rfl := Option.some.inj ho
        clear ho
        obtain ⟨us, rfl⟩ : ∃ us', us = upd 1 (.slice (some ad) f7.length c) us' := ⟨us, upd_eq (hdep { on := 1, ground := .data } (by simp) rfl)⟩
        have HCC := Lib.hid (HU7.out w2 hb.1)
        show wpList _ _ _ _ (⟨#[.slice (some ad) xs.length c, undef, .pointer (some ⟨w.heap.size, 0, none⟩), .int .i64 0, .slice (some ⟨g8, 0, none⟩) 1 c8, .int .i64 0, .slice (some ⟨g9, 0, none⟩) 3 c9, undef, u8, u9, u10, u11, u12, u13, u14, .bool false, u16, u17, u18, u19, .bool false, u21, u22, u23, u24, u25, u26, u27, u28, u29, u30, u31, u32, u33, u34, u35, u36, u37, u38, u39, u40, u41, u42, u43, u44, u45, u46, u47, u48, u49, u50, u51, u52, u53, u54, u55, u56, u57, u58, u59, u60, u61, u62, u63, u64, u65, u66, u67, u68, u69, u70, u71, u72, u73, us 0, .slice (some ad) f7.length c, us 2, us 3, us 4, us 5, us 6, us 8, u82, u83, u84, u85, u86, u87, u88, u89, u90, u91, u92, u93], []⟩ : Act) w2
        go_wp2_with (go_at_call 40; refine HCC.out.mono ?_; rintro e w8 ⟨rfl, n8, rfl⟩)
        exact hK _ _ ⟨bdrewN hb.1 n8, hb.2⟩ (KeepG.refl _ _ _ _) rfl
      rcases i with _ | i
      · obtain rfl := Option.some.inj ho
        clear ho
        show wpList _ _ _ _ (⟨#[.slice (some ad) xs.length c, undef, .pointer (some ⟨w.heap.size, 0, none⟩), .int .i64 0, .slice (some ⟨g8, 0, none⟩) 1 c8, .int .i64 0, .slice (some ⟨g9, 0, none⟩) 3 c9, undef, u8, u9, u10, u11, u12, u13, u14, .bool false, u16, u17, u18, u19, .bool false, u21, u22, u23, u24, u25, u26, u27, u28, u29, u30, u31, u32, u33, u34, u35, u36, u37, u38, u39, u40, u41, u42, u43, u44, u45, u46, u47, u48, u49, u50, u51, u52, u53, u54, u55, u56, u57, u58, u59, u60, u61, u62, u63, u64, u65, u66, u67, u68, u69, u70, u71, u72, u73, us 0, us 1, us 2, us 3, us 4, us 5, us 6, us 8, u82, u83, u84, u85, u86, u87, u88, u89, u90, u91, u92, u93], []⟩ : Act) w2
        go_wp2
        exact hK _ _ hb (KeepG.refl _ _ _ _) rfl
      rcases i with _ | i
      · obtain rfl := Option.some.inj ho
        clear ho
        obtain ⟨us, rfl⟩ : ∃ us', us = upd 3 (.slice (some ad) xs.length c) us' := ⟨us, upd_eq (hdep { on := 3, ground := .data } (by simp) rfl)⟩
        show wpList _ _ _ _ (⟨#[.slice (some ad) xs.length c, undef, .pointer (some ⟨w.heap.size, 0, none⟩), .int .i64 0, .slice (some ⟨g8, 0, none⟩) 1 c8, .int .i64 0, .slice (some ⟨g9, 0, none⟩) 3 c9, undef, u8, u9, u10, u11, u12, u13, u14, .bool false, u16, u17, u18, u19, .bool false, u21, u22, u23, u24, u25, u26, u27, u28, u29, u30, u31, u32, u33, u34, u35, u36, u37, u38, u39, u40, u41, u42, u43, u44, u45, u46, u47, u48, u49, u50, u51, u52, u53, u54, u55, u56, u57, u58, u59, u60, u61, u62, u63, u64, u65, u66, u67, u68, u69, u70, u71, u72, u73, us 0, us 1, us 2, .slice (some ad) xs.length c, us 4, us 5, us 6, us 8, u82, u83, u84, u85, u86, u87, u88, u89, u90, u91, u92, u93], []⟩ : Act) w2
        go_wp2
        exact hK _ _ hb (KeepG.refl _ _ _ _) rfl
      rcases i with _ | i
      · obtain rfl := Option.some.inj ho
        clear ho
        obtain ⟨us, rfl⟩ : ∃ us', us = upd 4 (.slice A5 f5.length c5) us' := ⟨us, upd_eq (hdep { on := 4, ground := .data } (by simp) rfl)⟩
        have HCC := Lib.hid (HU5.out w2 hb.1)
        show wpList _ _ _ _ (⟨#[.slice (some ad) xs.length c, undef, .pointer (some ⟨w.heap.size, 0, none⟩), .int .i64 0, .slice (some ⟨g8, 0, none⟩) 1 c8, .int .i64 0, .slice (some ⟨g9, 0, none⟩) 3 c9, undef, u8, u9, u10, u11, u12, u13, u14, .bool false, u16, u17, u18, u19, .bool false, u21, u22, u23, u24, u25, u26, u27, u28, u29, u30, u31, u32, u33, u34, u35, u36, u37, u38, u39, u40, u41, u42, u43, u44, u45, u46, u47, u48, u49, u50, u51, u52, u53, u54, u55, u56, u57, u58, u59, u60, u61, u62, u63, u64, u65, u66, u67, u68, u69, u70, u71, u72, u73, us 0, us 1, us 2, us 3, .slice A5 f5.length c5, us 5, us 6, us 8, u82, u83, u84, u85, u86, u87, u88, u89, u90, u91, u92, u93], []⟩ : Act) w2
        go_wp2_with (go_at_call 40; refine HCC.out.mono ?_; rintro e w8 ⟨rfl, n8, rfl⟩)
        exact hK _ _ ⟨bdrewN hb.1 n8, hb.2⟩ (KeepG.refl _ _ _ _) rfl
      rcases i with _ | i
      · obtain rfl := Option.some.inj ho
        clear ho
        show wpList _ _ _ _ (⟨#[.slice (some ad) xs.length c, undef, .pointer (some ⟨w.heap.size, 0, none⟩), .int .i64 0, .slice (some ⟨g8, 0, none⟩) 1 c8, .int .i64 0, .slice (some ⟨g9, 0, none⟩) 3 c9, undef, u8, u9, u10, u11, u12, u13, u14, .bool false, u16, u17, u18, u19, .bool false, u21, u22, u23, u24, u25, u26, u27, u28, u29, u30, u31, u32, u33, u34, u35, u36, u37, u38, u39, u40, u41, u42, u43, u44, u45, u46, u47, u48, u49, u50, u51, u52, u53, u54, u55, u56, u57, u58, u59, u60, u61, u62, u63, u64, u65, u66, u67, u68, u69, u70, u71, u72, u73, us 0, us 1, us 2, us 3, us 4, us 5, us 6, us 8, u82, u83, u84, u85, u86, u87, u88, u89, u90, u91, u92, u93], []⟩ : Act) w2
        go_wp2
        exact hK _ _ hb (KeepG.refl _ _ _ _) rfl
      rcases i with _ | i
      · obtain rfl := Option.some.inj ho
        clear ho
        have HSN := Lib.hid (set_name (nm := h.name) (lk := h.link) hb)
        obtain ⟨_, a, b, hx⟩ := hb
        have y0 := hx.c0
        have z0 := hx.free 0
        obtain ⟨us, rfl⟩ : ∃ us', us = upd 6 (.pointer (some ⟨w.heap.size, 0, none⟩)) us' := ⟨us, upd_eq (hdep { on := 6, ground := .data } (by simp) rfl)⟩
        obtain ⟨us, rfl⟩ : ∃ us', us = upd 2 (.string h.name) us' := ⟨us, upd_eq (hdep { on := 2, ground := .data } (by simp) rfl)⟩
        clear hx hdep
        show wpList _ _ _ _ (⟨#[.slice (some ad) xs.length c, undef, .pointer (some ⟨w.heap.size, 0, none⟩), .int .i64 0, .slice (some ⟨g8, 0, none⟩) 1 c8, .int .i64 0, .slice (some ⟨g9, 0, none⟩) 3 c9, undef, u8, u9, u10, u11, u12, u13, u14, .bool false, u16, u17, u18, u19, .bool false, u21, u22, u23, u24, u25, u26, u27, u28, u29, u30, u31, u32, u33, u34, u35, u36, u37, u38, u39, u40, u41, u42, u43, u44, u45, u46, u47, u48, u49, u50, u51, u52, u53, u54, u55, u56, u57, u58, u59, u60, u61, u62, u63, u64, u65, u66, u67, u68, u69, u70, u71, u72, u73, us 0, us 1, .string h.name, us 3, us 4, us 5, .pointer (some ⟨w.heap.size, 0, none⟩), us 8, u82, u83, u84, u85, u86, u87, u88, u89, u90, u91, u92, u93], []⟩ : Act) w2
        go_wp2
        exact hK undef _ HSN.out.1 HSN.out.2.1 HSN.out.2.2
      rcases i with _ | i
      · obtain rfl := Option.some.inj ho
        clear ho
        show wpList _ _ _ _ (⟨#[.slice (some ad) xs.length c, undef, .pointer (some ⟨w.heap.size, 0, none⟩), .int .i64 0, .slice (some ⟨g8, 0, none⟩) 1 c8, .int .i64 0, .slice (some ⟨g9, 0, none⟩) 3 c9, undef, u8, u9, u10, u11, u12, u13, u14, .bool false, u16, u17, u18, u19, .bool false, u21, u22, u23, u24, u25, u26, u27, u28, u29, u30, u31, u32, u33, u34, u35, u36, u37, u38, u39, u40, u41, u42, u43, u44, u45, u46, u47, u48, u49, u50, u51, u52, u53, u54, u55, u56, u57, u58, u59, u60, u61, u62, u63, u64, u65, u66, u67, u68, u69, u70, u71, u72, u73, us 0, us 1, us 2, us 3, us 4, us 5, us 6, us 8, u82, u83, u84, u85, u86, u87, u88, u89, u90, u91, u92, u93], []⟩ : Act) w2
        go_wp2
        exact hK _ _ hb (KeepG.refl _ _ _ _) rfl
      rcases i with _ | i
      · obtain rfl := Option.some.inj ho
        clear ho
        have HSN := Lib.hid (set_link (nm := h.name) (lk := h.link) hb)
        obtain ⟨_, a, b, hx⟩ := hb
        have y0 := hx.c1
        have z0 := hx.free 1
        obtain ⟨us, rfl⟩ : ∃ us', us = upd 8 (.pointer (some ⟨w.heap.size, 1, none⟩)) us' := ⟨us, upd_eq (hdep { on := 8, ground := .data } (by simp) rfl)⟩
        obtain ⟨us, rfl⟩ : ∃ us', us = upd 5 (.string h.link) us' := ⟨us, upd_eq (hdep { on := 5, ground := .data } (by simp) rfl)⟩
        clear hx hdep
        show wpList _ _ _ _ (⟨#[.slice (some ad) xs.length c, undef, .pointer (some ⟨w.heap.size, 0, none⟩), .int .i64 0, .slice (some ⟨g8, 0, none⟩) 1 c8, .int .i64 0, .slice (some ⟨g9, 0, none⟩) 3 c9, undef, u8, u9, u10, u11, u12, u13, u14, .bool false, u16, u17, u18, u19, .bool false, u21, u22, u23, u24, u25, u26, u27, u28, u29, u30, u31, u32, u33, u34, u35, u36, u37, u38, u39, u40, u41, u42, u43, u44, u45, u46, u47, u48, u49, u50, u51, u52, u53, u54, u55, u56, u57, u58, u59, u60, u61, u62, u63, u64, u65, u66, u67, u68, u69, u70, u71, u72, u73, us 0, us 1, us 2, us 3, us 4, .string h.link, us 6, .pointer (some ⟨w.heap.size, 1, none⟩), u82, u83, u84, u85, u86, u87, u88, u89, u90, u91, u92, u93], []⟩ : Act) w2
        go_wp2
        exact hK undef _ HSN.out.1 HSN.out.2.1 HSN.out.2.2
      cases ho
    · intro us w2 hb hT
      have HK2 := Lib.hid (And.intro (know_box hb (hT 7 (by show 7 < 10; decide)) (hT 9 (by show 9 < 10; decide))) hb.1)
      clear hT hb
      show Exit.then _ _ Exit.normal (⟨#[.slice (some ad) xs.length c, undef, .pointer (some ⟨w.heap.size, 0, none⟩), .int .i64 0, .slice (some ⟨g8, 0, none⟩) 1 c8, .int .i64 0, .slice (some ⟨g9, 0, none⟩) 3 c9, undef, u8, u9, u10, u11, u12, u13, u14, .bool false, u16, u17, u18, u19, .bool false, u21, u22, u23, u24, u25, u26, u27, u28, u29, u30, u31, u32, u33, u34, u35, u36, u37, u38, u39, u40, u41, u42, u43, u44, u45, u46, u47, u48, u49, u50, u51, u52, u53, u54, u55, u56, u57, u58, u59, u60, u61, u62, u63, u64, u65, u66, u67, u68, u69, u70, u71, u72, u73, us 0, us 1, us 2, us 3, us 4, us 5, us 6, us 8, u82, u83, u84, u85, u86, u87, u88, u89, u90, u91, u92, u93], []⟩ : Act) w2
      go_wp2_with fail
      go_meet
      exact ⟨Lib.hid HK2.out.1, Lib.hid HK2.out.2⟩
  -- BEHIND 15
  obtain ⟨HBX6, HBW6⟩ := hcut
  obtain ⟨w6, rfl⟩ : ∃ w6 : World, w6 = wc := ⟨_, rfl⟩
  have HC6 := Lib.hid (HU6.out w6 HBW6.out)
  have y0 := HBX6.out.c0
  have y1 := HBX6.out.c1
  have y2 := HBX6.out.c2
  have y3 := HBX6.out.c3
  have y4 := HBX6.out.c4
  have y5 := HBX6.out.c5
  have z0 := HBX6.out.free 0
  have z1 := HBX6.out.free 1
  have z2 := HBX6.out.free 2
  have z3 := HBX6.out.free 3
  have z4 := HBX6.out.free 4
  have z5 := HBX6.out.free 5
  go_wp2_with (go_at_call 40; refine HC6.out.mono ?_; rintro e w7 ⟨rfl, n7, rfl⟩)
  have HSX := Lib.hid (box_six (HBX6.out.drewN n7) (bdrewN HBW6.out n7) (Nat.le_refl _))
  clear y0 y1 y2 y3 y4 y5 z0 z1 z2 z3 z4 z5
  revert HSX
  generalize ((((((w6.drewN n7).setCell ⟨w.heap.size, 0, none⟩ (.string h.name)).setCell ⟨w.heap.size, 1, none⟩ (.string h.link)).setCell ⟨w.heap.size, 2, none⟩ (.int .i64 h.mode)).setCell ⟨w.heap.size, 3, none⟩ (.int .i64 h.size)).setCell ⟨w.heap.size, 4, none⟩ (.int .i64 h.time)).setCell ⟨w.heap.size, 5, none⟩ (.int .u8 h.kind) = w9
  intro HSX
  have y0 := HSX.out.1.c0
  have y1 := HSX.out.1.c1
  have y2 := HSX.out.1.c2
  have y3 := HSX.out.1.c3
  have y4 := HSX.out.1.c4
  have y5 := HSX.out.1.c5
  refine bodyPost_ret (v := .tuple #[.agg #[.string h.name, .string h.link, .int .i64 h.mode, .int .i64 h.size, .int .i64 h.time, .int .u8 h.kind], .int .i64 0]) (by simp [results, Tryz.results16, go_sem, y0, y1, y2, y3, y4, y5]) rfl ⟨rfl, HSX.out.2⟩
end Go.Proofs.YtkmjbakiippfpaaGreatDoor.Tar
