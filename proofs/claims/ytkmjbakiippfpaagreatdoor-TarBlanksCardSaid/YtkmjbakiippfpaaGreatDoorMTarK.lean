/- TarK, TarL, TarM, TarN put together. -/
import Derived.Test.YtkmjbakiippfpaaGreatDoorMTarE
import Derived.Test.YtkmjbakiippfpaaGreatDoorMTree
import Derived.WalkSpells
import Derived.Test.YtkmjbakiippfpaaGreatDoorMTarF
import Derived.Maps.OwnSet
import Derived.StillTailTactics
import Derived.Deep.RegionHeld3
import Derived.Deep.DrawnRows
import Derived.Deep.RegionLaw
import Derived.BigRegion
set_option linter.unusedVariables false
set_option linter.unusedSimpArgs false
namespace Go.Proofs.YtkmjbakiippfpaaGreatDoor.Tar
open Go.RowKit Go.BigFrame Go.Maps Go.Proofs.YtkmjbakiippfpaaGreatDoor.Reg Go.Proofs.YtkmjbakiippfpaaGreatDoor.Rout Go.Proofs.YtkmjbakiippfpaaGreatDoor.Node Go.Proofs.YtkmjbakiippfpaaGreatDoor.Tree Go.Proofs.YtkmjbakiippfpaaGreatDoorW.PrintWords Go.Proofs.YtkmjbakiippfpaaGreatDoorW.PrintLast Go.Proofs.YtkmjbakiippfpaaGreatDoorW.PrintMore
open Go.Proofs.YtkmjbakiippfpaaGreatDoor.Oct (Tz octO)
open Go.Proofs.YtkmjbakiippfpaaGreatDoor.Rec (Laid B)
/-! ### blank -/
def zeroB (xs : List Int) : Bool := xs.all (fun b => b == 0)
theorem dropWhile_nil (p : UInt8 → Bool) : ∀ l : List UInt8, l.dropWhile p = [] ↔ ∀ x ∈ l, p x = true
  | [] => by simp
  | a :: r => by
    rw [List.dropWhile_cons]
    cases h : p a
    · simp [h]
    · simp [h, dropWhile_nil p r]
theorem trimS_zero (l : List UInt8) : (Lib.trimS l [0]).length = 0 ↔ ∀ x ∈ l, x = 0 := by
  have hp : ∀ x : UInt8, ([0] : List UInt8).contains x = true ↔ x = 0 := fun x => by simp
  unfold Lib.trimS Lib.trimLeftS Lib.trimRightS
  rw [List.length_eq_zero_iff, dropWhile_nil]
  constructor
  · intro h
    have hn : l.reverse.dropWhile (([0] : List UInt8).contains ·) = [] := by
      cases hd : l.reverse.dropWhile (([0] : List UInt8).contains ·) with
      | nil => rfl
      | cons a r =>
        have h1 := h a (by rw [hd]; simp)
        have h2 := List.head?_dropWhile_not (([0] : List UInt8).contains ·) l.reverse
        rw [hd] at h2
        simp only [List.head?_cons] at h2
        rw [h1] at h2
        cases h2
    rw [dropWhile_nil] at hn
    exact fun x hx => (hp x).1 (hn x (by simpa using hx))
  · intro h x hx
    rw [List.mem_reverse] at hx
    have := List.dropWhile_sublist (([0] : List UInt8).contains ·) |>.subset hx
    exact (hp x).2 (h x (by simpa using this))
theorem bytes_zero (xs : List Int) (h : ∀ b ∈ xs, 0 ≤ b ∧ b ≤ 255) : (Lib.trimS (Lib.bytesOf xs) [0]).length = 0 ↔ zeroB xs = true := by
  rw [trimS_zero]
  unfold zeroB
  rw [List.all_eq_true]
  constructor
  · intro hz b hb
    have h1 := h b hb
    have h2 := hz (UInt8.ofNat b.toNat) (by unfold Lib.bytesOf; exact List.mem_map.2 ⟨b, hb, rfl⟩)
    have h3 := congrArg UInt8.toNat h2
    simp at h3
    simp
    omega
  · intro hz u hu
    unfold Lib.bytesOf at hu
    obtain ⟨b, hb, rfl⟩ := List.mem_map.1 hu
    have := hz b hb
    simp at this
    subst this
    rfl
theorem C_at {w : World} {g o : Nat} {xs : List Int} (hC : (Kd.int .u8).C w (some ⟨g, o, none⟩) xs.length xs) (h : ∀ b ∈ xs, 0 ≤ b ∧ b ≤ 255) : Lib.BytesAt w (some ⟨g, o, none⟩) xs.length (Lib.bytesOf xs) := fun h0 => by
  refine ⟨g, o, rfl, fun i hi => ?_⟩
  obtain ⟨ad, e, hj⟩ := hC.2.2 h0
  obtain rfl := Option.some.inj e
  obtain ⟨cc, hlen, hK, hc⟩ := hj i _ (List.getElem?_eq_getElem hi)
  have hcc : cc = [.int .u8 xs[i]] := hK
  subst hcc
  have h1 := hc 0 _ rfl
  rw [show i * Kd.sz (Kd.int .u8) + 0 = i from by show i * 1 + 0 = i; omega] at h1
  have h2 : (⟨g, o, none⟩ : Addr).add i = ⟨g, o + i, none⟩ := by
    unfold Addr.add
    split
    · rename_i e; rw [e]; rfl
    · rfl
  rw [h2] at h1
  rw [h1]
  have hm := h _ (List.getElem_mem hi)
  have h3 : (Lib.bytesOf xs).getD i 0 = UInt8.ofNat xs[i].toNat := by
    unfold Lib.bytesOf
    rw [List.getD_eq_getElem?_getD, List.getElem?_map, List.getElem?_eq_getElem hi]
    rfl
  rw [h3]
  simp
  omega
theorem blank_calls (g o c : Nat) (xs : List Int) (w : World) (hC : (Kd.int .u8).C w (some ⟨g, o, none⟩) xs.length xs) (h : ∀ b ∈ xs, 0 ≤ b ∧ b ≤ 255) (hc : xs.length ≤ c) (hbig : c ≤ 9223372036854775807) (h0 : 0 < xs.length) :
    Calls Tryz.prog 15 #[.slice (some ⟨g, o, none⟩) xs.length c] w fun e w' => e = .returned (.bool (zeroB xs)) ∧ ∃ q, w' = w.drewN q := by
  have hT := Any.bytes_Trim_one Tryz.laysSlbv6 (some ⟨g, o, none⟩) xs.length c (Lib.bytesOf xs) 0 w (by unfold Lib.bytesOf; simp) hc hbig (C_at hC h) h0 (by decide)
  have hbz := bytes_zero xs h
  have hH : ∃ (A' : Option Addr) (m c' : Nat), Calls Tryz.prog 36 #[.slice (some ⟨g, o, none⟩) xs.length c, .string ⟨#[0]⟩] w (fun e w' => e = .returned (.slice A' m c') ∧ ∃ q, w' = w.drewN q) ∧ ((m : Int) == 0) = zeroB xs := by
    unfold Lib.leftV at hT
    have hle : (Lib.trimS (Lib.bytesOf xs) [0]).length ≤ (Lib.trimRightS (Lib.bytesOf xs) [0]).length := by
      unfold Lib.trimS Lib.trimLeftS
      exact (List.dropWhile_sublist _).length_le
    by_cases hz : zeroB xs = true
    · have h1 := hbz.2 hz
      rw [if_pos (by omega)] at hT
      exact ⟨none, 0, 0, hT, by rw [hz]; rfl⟩
    · have h1 : (Lib.trimS (Lib.bytesOf xs) [0]).length ≠ 0 := fun e => hz (hbz.1 e)
      rw [if_neg (by omega)] at hT
      refine ⟨_, _, _, hT, ?_⟩
      have h2 : zeroB xs = false := by simpa using hz
      rw [h2]
      exact beq_eq_false_iff_ne.2 (by omega)
  obtain ⟨A', m, c', h1, h2⟩ := hH
  have H := Lib.hid h1
  have HZ := Lib.hid h2
  clear hT h1 h2 hbz hC h
  go_enter Tryz.func15, Tryz.ntmps15
  go_wp2_with (go_at_call 36; refine H.out.mono ?_; rintro e w1 ⟨rfl, q, rfl⟩)
  go_ret
  exact ⟨by rw [← HZ.out]; rfl, q, rfl⟩
/-! ### worlds that part in some blocks alone -/
structure Mod (S : Nat → Prop) (w w' : World) : Prop where
  os : w'.os = w.os
  tape : w'.tape = w.tape
  output : w'.output = w.output
  size : w.heap.size ≤ w'.heap.size
  block : ∀ i, i < w.heap.size → ¬ S i → w'.heap[i]? = w.heap[i]?
theorem Mod.refl (S : Nat → Prop) (w : World) : Mod S w w := ⟨rfl, rfl, rfl, Nat.le_refl _, fun _ _ _ => rfl⟩
theorem Mod.trans {S : Nat → Prop} {w w1 w2 : World} (h : Mod S w w1) (k : Mod S w1 w2) : Mod S w w2 :=
  ⟨k.os.trans h.os, k.tape.trans h.tape, k.output.trans h.output, Nat.le_trans h.size k.size, fun i hi hs => (k.block i (Nat.lt_of_lt_of_le hi h.size) hs).trans (h.block i hi hs)⟩
theorem Mod.mono {S S' : Nat → Prop} {w w' : World} (h : Mod S w w') (hS : ∀ i, i < w.heap.size → S i → S' i) : Mod S' w w' := ⟨h.os, h.tape, h.output, h.size, fun i hi hs => h.block i hi (fun k => hs (hS i hi k))⟩
/-- What lies behind the first world's blocks is nobody's. -/
theorem Mod.then_ {S S' : Nat → Prop} {w w1 w2 : World} (h : Mod S w w1) (k : Mod S' w1 w2) (hS : ∀ i, i < w.heap.size → S' i → S i) : Mod S w w2 :=
  ⟨k.os.trans h.os, k.tape.trans h.tape, k.output.trans h.output, Nat.le_trans h.size k.size, fun i hi hs => (k.block i (Nat.lt_of_lt_of_le hi h.size) (fun e => hs (hS i hi e))).trans (h.block i hi hs)⟩
theorem Mod.of_below {S : Nat → Prop} {w w' : World} (h : Below w.heap.size w w') : Mod S w w' := ⟨h.os, h.tape, h.output, h.size, fun i hi _ => h.block i hi⟩
theorem Mod.below {S : Nat → Prop} {w0 w w' : World} (h : Mod S w w') (h0 : Below w0.heap.size w0 w) (hS : ∀ i, S i → w0.heap.size ≤ i) : Below w0.heap.size w0 w' :=
  h0.trans ⟨h.os, h.tape, h.output, h.size, fun i hi => h.block i (Nat.lt_of_lt_of_le hi h0.size) (fun k => by have := hS i k; omega)⟩
theorem Mod.of_grown {S : Nat → Prop} {w w' : World} {row : Option Nat} (h : w.grownBy w' row) (hS : ∀ i, row = some i → S i) : Mod S w w' :=
  ⟨h.os, h.tape, h.output, h.size, fun i hi hs => h.block i hi (fun e => hs (hS i e.symm))⟩
theorem Mod.of_setCell {S : Nat → Prop} (w : World) (p : Addr) (v : Value) (hS : S p.block) : Mod S w (w.setCell p v) :=
  ⟨rfl, rfl, rfl, by simp [World.setCell], fun i _ hs => heap_setCell_other w p i v (fun e => hs (e ▸ hS))⟩
theorem Mod.drew {S : Nat → Prop} {w w' : World} (h : Mod S w w') : Mod S w w'.drew := ⟨h.os, h.tape, h.output, h.size, h.block⟩
/-- A row of whatever kind stays, if none of its blocks' types is among what is written. -/
theorem R_mod {α : Type} {d : Kd α} {e : Nat} {w w' : World} {base : Nat} {ok : Nat → Prop} {v : Value} {xs : List α} {S : Nat → Prop} (h : d.R e w base ok v xs) (hm : Mod S w w') (hS : ∀ i, S i → ∀ q cells, w.heap[i]? = some (.cells cells q (0, 0)) → q ∉ e :: d.E) : d.R e w' base ok v xs :=
  Kd.R_mono (Kd.R_move (Kd.R_bound h) (fun k hk => by
    obtain ⟨_, _, hlt, q, hq, cells, hc⟩ := hk
    exact hm.block k hlt (fun hs => hS k hs q cells hc hq))) (fun _ hk => hk.1)
theorem R_set {α : Type} {d : Kd α} {e : Nat} {w : World} {base : Nat} {ok : Nat → Prop} {v : Value} {xs : List α} {g i : Nat} {u : Value} (h : d.R e w base ok v xs) (hS : ∀ q cells, w.heap[g]? = some (.cells cells q (0, 0)) → q ∉ e :: d.E) : d.R e (w.setCell ⟨g, i, none⟩ u) base ok v xs :=
  R_mod h (Mod.of_setCell (S := fun k => k = g) w ⟨g, i, none⟩ u rfl) (fun k hk q cells hc => by subst hk; exact hS q cells hc)
/-! ### rows of nodes whose bytes are merely read -/
def BC (w : World) (A : Option Addr) (xs : List Int) : Prop := (Kd.int .u8).C w A xs.length xs ∧ (0 < xs.length → ∃ ad cells fr, A = some ad ∧ w.heap[ad.block]? = some (.cells cells 5 fr))
/-- Blocks of bytes stay. -/
def Keep8 (w w' : World) : Prop := ∀ (k : Nat) (cells : Array Value) (fr : Nat × Nat), w.heap[k]? = some (.cells cells 5 fr) → w'.heap[k]? = some (.cells cells 5 fr)
theorem Keep8.below {w w' : World} (hb : Below w.heap.size w w') : Keep8 w w' := fun k cells fr h => (hb.block k (Array.getElem?_eq_some_iff.1 h).1).trans h
theorem Keep8.mod {S : Nat → Prop} {w w' : World} (hm : Mod S w w') (hS : ∀ i, S i → ∀ cells fr, w.heap[i]? ≠ some (.cells cells 5 fr)) : Keep8 w w' := fun k cells fr h => (hm.block k (Array.getElem?_eq_some_iff.1 h).1 (fun hs => hS k hs cells fr h)).trans h
theorem add_block (a : Addr) (n : Nat) : (a.add n).block = a.block := by unfold Addr.add; split <;> rfl
theorem BC.keep {w w' : World} {A : Option Addr} {xs : List Int} (h : BC w A xs) (hk : Keep8 w w') : BC w' A xs := by
  refine ⟨⟨h.1.1, h.1.2.1, fun h0 => ?_⟩, fun h0 => ?_⟩
  · obtain ⟨ad, e, hj⟩ := h.1.2.2 h0
    obtain ⟨ad', cells, fr, e', hb⟩ := h.2 h0
    obtain rfl : ad = ad' := by rw [e] at e'; exact Option.some.inj e'
    refine ⟨ad, e, fun j p hp => ?_⟩
    obtain ⟨cc, hc, hK, hi⟩ := hj j p hp
    refine ⟨cc, hc, hK, fun i u hu => ?_⟩
    have h1 := hi i u hu
    unfold World.cell? at h1 ⊢
    rw [add_block, hb] at h1
    rw [add_block, hk _ _ _ hb]
    exact h1
  · obtain ⟨ad, cells, fr, e, hb⟩ := h.2 h0
    exact ⟨ad, cells, fr, e, hk _ _ _ hb⟩
theorem BC.of_R {w : World} {base : Nat} {ok : Nat → Prop} {A : Option Addr} {c : Nat} {xs : List Int} (h : (Kd.int .u8).R 5 w base ok (.slice A xs.length c) xs) : BC w A xs := by
  refine ⟨rowC h, fun h0 => ?_⟩
  rcases (Kd.own_of_R h).2 with ⟨_, e⟩ | ⟨g, cap, cur, e, hg, hh, h1, h2, h3, h4⟩
  · omega
  · cases e
    exact ⟨⟨g, 0, none⟩, cur, (0, 0), rfl, hh⟩
def NodeC (w : World) (x : Nd) (cs : List Value) : Prop := ∃ A c, cs = [.int .i64 x.f0, .string x.f1, .slice A x.f2.length c, .int .i64 x.f3, .int .i64 x.f4] ∧ x.f2.length ≤ c ∧ BC w A x.f2
theorem NodeC.keep {w w' : World} {x : Nd} {cs : List Value} (h : NodeC w x cs) (hk : Keep8 w w') : NodeC w' x cs := by
  obtain ⟨A, c, e, hl, hb⟩ := h
  exact ⟨A, c, e, hl, hb.keep hk⟩
/-- Five cells as they are. -/
structure Raw5 where
  val : List Value
  len : val.length = 5
  one : ∀ u ∈ val, u.oneCell' = true
def kRaw : Kd Raw5 where
  sz := 5
  E := []
  K := fun _ x cs => cs = x.val
  M := fun _ _ _ x cs => cs = x.val
  K_len := by
    intro w x cs h
    rw [h]
    exact x.len
  K_one := by
    intro w x cs h u hu
    rw [h] at hu
    exact x.one u hu
  K_below := fun _ h => h
  K_of_M := fun h => h
  M_mono := fun _ h => h
  M_bound := fun h => h
  M_move := fun _ h => h
  M_lower := fun _ h => h
def Nodes (w : World) (rs : List Raw5) (l : List Nd) : Prop := rs.length = l.length ∧ ∀ (j : Nat) (r : Raw5) (x : Nd), rs[j]? = some r → l[j]? = some x → NodeC w x r.val
theorem Nodes.keep {w w' : World} {rs : List Raw5} {l : List Nd} (h : Nodes w rs l) (hk : Keep8 w w') : Nodes w' rs l := ⟨h.1, fun j r x hr hx => (h.2 j r x hr hx).keep hk⟩
theorem Nodes.snoc {w : World} {rs : List Raw5} {l : List Nd} (h : Nodes w rs l) {r : Raw5} {x : Nd} (hx : NodeC w x r.val) : Nodes w (rs ++ [r]) (l ++ [x]) := by
  refine ⟨by simp [h.1], fun j r' x' hr hx' => ?_⟩
  by_cases hj : j < rs.length
  · rw [List.getElem?_append_left hj] at hr
    rw [List.getElem?_append_left (by rw [← h.1]; exact hj)] at hx'
    exact h.2 j r' x' hr hx'
  · rw [List.getElem?_append_right (by omega)] at hr
    rw [List.getElem?_append_right (by rw [← h.1]; omega)] at hx'
    obtain rfl : j = rs.length := by
      have := (List.getElem?_eq_some_iff.1 hr).1
      simp at this
      omega
    rw [Nat.sub_self] at hr
    rw [h.1, Nat.sub_self] at hx'
    cases hr
    cases hx'
    exact hx
theorem nodes_C {w : World} {base : Nat} {ok : Nat → Prop} {A : Option Addr} {c : Nat} {rs : List Raw5} {l : List Nd} (h : kRaw.R 31 w base ok (.slice A rs.length c) rs) (hn : Nodes w rs l) : kN.C w A l.length l := by
  obtain ⟨A', c', e, _, hC⟩ := Kd.R_reads h
  injection e with e1 _ _
  subst e1
  refine ⟨rfl, by rw [← hn.1]; exact hC.2.1, fun h0 => ?_⟩
  obtain ⟨ad, e, hj⟩ := hC.2.2 (by rw [hn.1]; exact h0)
  refine ⟨ad, e, fun j x hx => ?_⟩
  have hjl : j < rs.length := by rw [hn.1]; exact (List.getElem?_eq_some_iff.1 hx).1
  have hr := List.getElem?_eq_getElem hjl
  obtain ⟨cc, hlen, hK, hi⟩ := hj j _ hr
  obtain ⟨A2, c2, e2, l2, b2⟩ := hn.2 j _ x hr hx
  have hcc : cc = (rs[j]).val := hK
  rw [e2] at hcc
  subst hcc
  exact ⟨_, rfl, kN_mk w x l2 b2.1, hi⟩
/-! ### what a reading holds -/
structure RdAt (w0 w : World) (g : Nat) (b o c : Nat) (ys : List Int) (most : Int) (lv : Value) (l : List Nd) (m : Option Nat) : Prop where
  head : w.heap[g]? = some (.cells #[.slice (some ⟨b, o, none⟩) ys.length c, .int .i64 most, lv, .map m] 47 (0, 0))
  below : Below w0.heap.size w0 w
  gb : w0.heap.size ≤ g
  bytes : (Kd.int .u8).C w0 (some ⟨b, o, none⟩) ys.length ys
  byte : ∀ x ∈ ys, 0 ≤ x ∧ x ≤ 255
  cap : ys.length ≤ c
  big : c ≤ 9223372036854775807
  lenB : ys.length ≤ 140737488355328
  row : ∃ rs, kRaw.R 31 w w0.heap.size (fun _ => True) lv rs ∧ Nodes w rs l
section
variable {w0 w w' : World} {g b o c : Nat} {ys : List Int} {most : Int} {lv : Value} {l : List Nd} {m : Option Nat}
theorem RdAt.glt (h : RdAt w0 w g b o c ys most lv l m) : g < w.heap.size := (Array.getElem?_eq_some_iff.1 h.head).1
theorem RdAt.c0 (h : RdAt w0 w g b o c ys most lv l m) : w.cell? ⟨g, 0, none⟩ = some (.slice (some ⟨b, o, none⟩) ys.length c) := by have e := h.head; simp [World.cell?, e]
theorem RdAt.c1 (h : RdAt w0 w g b o c ys most lv l m) : w.cell? ⟨g, 1, none⟩ = some (.int .i64 most) := by have e := h.head; simp [World.cell?, e]
theorem RdAt.c2 (h : RdAt w0 w g b o c ys most lv l m) : w.cell? ⟨g, 2, none⟩ = some lv := by have e := h.head; simp [World.cell?, e]
theorem RdAt.c3 (h : RdAt w0 w g b o c ys most lv l m) : w.cell? ⟨g, 3, none⟩ = some (.map m) := by have e := h.head; simp [World.cell?, e]
theorem RdAt.free (h : RdAt w0 w g b o c ys most lv l m) (i : Nat) : w.frozen? ⟨g, i, none⟩ = false := by have e := h.head; simp [World.frozen?, e]
theorem RdAt.rowT (h : RdAt w0 w g b o c ys most lv l m) (k : Nat) (hk : lv.ownBlock = some k) : k < w.heap.size ∧ w0.heap.size ≤ k ∧ ∃ cells, w.heap[k]? = some (.cells cells 31 (0, 0)) := by
  obtain ⟨rs, ⟨_, inner, ho, _⟩, _⟩ := h.row
  exact ⟨own_lt ho k hk, own_base ho k hk, own_typed ho k hk⟩
theorem RdAt.rowNg (h : RdAt w0 w g b o c ys most lv l m) : lv.ownBlock ≠ some g := fun e => by
  obtain ⟨_, _, cells, hc⟩ := h.rowT g e
  rw [h.head] at hc
  cases hc
/-- Worlds above keep it. -/
theorem RdAt.kept (h : RdAt w0 w g b o c ys most lv l m) (hb : Below w.heap.size w w') : RdAt w0 w' g b o c ys most lv l m :=
  ⟨(hb.block g h.glt).trans h.head, bgo h.below hb, h.gb, h.bytes, h.byte, h.cap, h.big, h.lenB, by
    obtain ⟨rs, h1, h2⟩ := h.row
    exact ⟨rs, Kd.R_mono (Kd.R_below h1 hb) (fun _ _ => trivial), h2.keep (Keep8.below hb)⟩⟩
theorem RdAt.drewN (h : RdAt w0 w g b o c ys most lv l m) (n : Nat) : RdAt w0 (w.drewN n) g b o c ys most lv l m := h.kept (bdrewN (Below.refl _ _) n)
theorem RdAt.rowSet (h : RdAt w0 w g b o c ys most lv l m) (i : Nat) (u : Value) : ∃ rs, kRaw.R 31 (w.setCell ⟨g, i, none⟩ u) w0.heap.size (fun _ => True) lv rs ∧ Nodes (w.setCell ⟨g, i, none⟩ u) rs l := by
  obtain ⟨rs, h1, h2⟩ := h.row
  exact ⟨rs, R_set h1 (fun q cells hc => by rw [h.head] at hc; cases hc; decide), h2.keep (Keep8.mod (Mod.of_setCell (S := fun k => k = g) w ⟨g, i, none⟩ u rfl) (fun k hk cells fr hc => by subst hk; rw [h.head] at hc; cases hc))⟩
/-- The bytes go on. -/
theorem RdAt.next (h : RdAt w0 w g b o c ys most lv l m) (n : Nat) (hn : n < ys.length) : RdAt w0 (w.setCell ⟨g, 0, none⟩ (.slice (some ⟨b, o + n, none⟩) (ys.length - n) (c - n))) g b (o + n) (c - n) (ys.drop n) most lv l m := by
  have hlen : (ys.drop n).length = ys.length - n := List.length_drop
  refine ⟨?_, ?_, h.gb, ?_, fun x hx => h.byte x (List.mem_of_mem_drop hx), ?_, ?_, ?_, ?_⟩
  · rw [hlen]
    exact heap_setCell_same w g 0 _ _ _ h.head
  · exact set_below (i := 0) h.below _ h.head h.gb
  · have h1 := Kd.C_drop h.bytes (m := n) (by omega) h.cap
    rw [if_neg (by have := h.cap; omega)] at h1
    have h2 : (some (⟨b, o, none⟩ : Addr)).map (·.add (n * Kd.sz (Kd.int .u8))) = some ⟨b, o + n, none⟩ := by
      show some ((⟨b, o, none⟩ : Addr).add (n * 1)) = _
      rw [Nat.mul_one]
      unfold Addr.add
      split
      · rename_i e; rw [e]; rfl
      · rfl
    rw [h2] at h1
    exact h1
  · have := h.cap; omega
  · have := h.big; omega
  · have := h.lenB; omega
  · exact h.rowSet 0 _
end
/-! ### data -/
theorem up_511 (n : Nat) (hn : n ≤ 140737488355328) : bits .andNot .i64 ((n : Int) + 511) 511 = ((n + padN n : Nat) : Int) := by
  unfold padN
  show IntKind.i64.wrap ((BitVec.ofInt 64 ((n : Int) + 511) &&& ~~~ BitVec.ofInt 64 511).toNat : Int) = _
  have e1 : BitVec.ofInt 64 ((n : Int) + 511) = BitVec.ofNat 64 (n + 511) := by
    rw [show ((n : Int) + 511) = ((n + 511 : Nat) : Int) by omega, BitVec.ofInt_natCast]
  have e2 : (BitVec.ofInt 64 ((n : Int) + 511) &&& ~~~ BitVec.ofInt 64 511).toNat = (n + 511) / 512 * 512 := by
    have hx : ∀ x : BitVec 64, x &&& ~~~ (BitVec.ofInt 64 511) = (x >>> 9) <<< 9 := by
      intro x
      apply BitVec.eq_of_getLsbD_eq
      intro i hi
      have h5 : (BitVec.ofInt 64 511).getLsbD i = decide (i < 9) := by
        rw [show BitVec.ofInt 64 511 = BitVec.ofNat 64 (2 ^ 9 - 1) from rfl, BitVec.getLsbD_ofNat, Nat.testBit_two_pow_sub_one]
        simp [hi]
      rw [BitVec.getLsbD_and, BitVec.getLsbD_not, h5, BitVec.getLsbD_shiftLeft, BitVec.getLsbD_ushiftRight]
      by_cases h9 : i < 9
      · simp [h9]
      · simp only [h9, hi, decide_true, decide_false, Bool.not_false, Bool.and_true, Bool.true_and]
        rw [show 9 + (i - 9) = i by omega]
    rw [e1, hx, BitVec.toNat_shiftLeft, BitVec.toNat_ushiftRight, BitVec.toNat_ofNat, Nat.shiftRight_eq_div_pow, Nat.shiftLeft_eq]
    omega
  rw [e2, IntKind.wrap_i64]
  omega
def DataPost (w0 : World) (g b o c : Nat) (ys : List Int) (s : Nat) (most : Int) (lv : Value) (l : List Nd) (m : Option Nat) (w : World) (e : Ending) (w' : World) : Prop :=
  e = .returned (.tuple #[.slice (some ⟨b, o, none⟩) s c, .int .i64 0]) ∧ RdAt w0 w' g b (o + (s + padN s)) (c - (s + padN s)) (ys.drop (s + padN s)) most lv l m ∧ Mod (fun k => k = g) w w'
set_option maxHeartbeats 2000000 in
theorem data_calls (w0 w : World) (g b o c : Nat) (ys : List Int) (most : Int) (lv : Value) (l : List Nd) (m : Option Nat) (h : RdAt w0 w g b o c ys most lv l m) (s : Nat) (room : Int) (hr : (s : Int) ≤ room) (hs : s + padN s < ys.length) (hr2 : room ≤ 9223372036854775807) :
    Calls Tryz.prog 41 #[.pointer (some ⟨g, 0, none⟩), .int .i64 s, .int .i64 room] w (DataPost w0 g b o c ys s most lv l m w) := by
  have c0 := h.c0
  have z0 := h.free 0
  have hcap := h.cap
  have hbig := h.big
  have hlb := h.lenB
  have hup : bits .andNot .i64 (wrap64 (wrap64 ((s : Int) + 512) - 1)) 511 = ((s + padN s : Nat) : Int) := by rw [show wrap64 (wrap64 ((s : Int) + 512) - 1) = (s : Int) + 511 by unfold wrap64; omega]; exact up_511 s (by omega)
  have hcut : ∀ W, (Instr.slice 23 (.slice (some ⟨b, o, none⟩) ys.length c) none (some (.int .i64 (s : Int))) none).run Tryz.prog W = .ok (.slice (some ⟨b, o, none⟩) s c) W := Oct.cutT _ ys.length c s (by omega) (by omega)
  have hcutF : ∀ W, (Instr.slice 23 (.slice (some ⟨b, o, none⟩) ys.length c) (some (.int .i64 ((s + padN s : Nat) : Int))) none none).run Tryz.prog W = .ok (.slice (some ⟨b, o + (s + padN s), none⟩) (ys.length - (s + padN s)) (c - (s + padN s))) W := fun W => by
    have h1 := Oct.cutF (some ⟨b, o, none⟩) ys.length c (s + padN s) (by omega) W
    rw [if_neg (by omega)] at h1
    have h2 : (some (⟨b, o, none⟩ : Addr)).map (·.add ((s + padN s) * 1)) = some ⟨b, o + (s + padN s), none⟩ := by
      show some ((⟨b, o, none⟩ : Addr).add ((s + padN s) * 1)) = _
      rw [Nat.mul_one]
      unfold Addr.add
      split
      · rename_i e; rw [e]; rfl
      · rfl
    rw [h2] at h1
    exact h1
  have HN := Lib.hid (h.next (s + padN s) hs)
  have HM := Lib.hid (Mod.of_setCell (S := fun k => k = g) w ⟨g, 0, none⟩ (.slice (some ⟨b, o + (s + padN s), none⟩) (ys.length - (s + padN s)) (c - (s + padN s))) rfl)
  obtain ⟨al, hal⟩ : ∃ al, al = s + padN s := ⟨_, rfl⟩
  rw [← hal] at hs hup hcutF HN HM
  have HAL := Lib.hid hal
  clear h hal
  have hr' : ¬ room < (s : Int) := by omega
  have hs' : ¬ ((ys.length : Nat) : Int) < (al : Int) := by omega
  go_enter Tryz.func41, Tryz.ntmps41
  go_wp2
  go_ret2
  unfold DataPost
  rw [← HAL.out]
  exact ⟨rfl, HN.out, HM.out⟩
theorem data_big (w : World) (g : Nat) (s : Nat) (room : Int) (hr : room < (s : Int)) (hs : s ≤ 140737488355328) :
    Calls Tryz.prog 41 #[.pointer (some ⟨g, 0, none⟩), .int .i64 s, .int .i64 room] w fun e w' => e = .returned (.tuple #[.slice none 0 0, .int .i64 3]) ∧ w' = w := by
  go_enter Tryz.func41, Tryz.ntmps41
  go_wp2
  go_ret2
  exact ⟨rfl, rfl⟩
end Go.Proofs.YtkmjbakiippfpaaGreatDoor.Tar
set_option linter.unusedVariables false
set_option linter.unusedSimpArgs false
namespace Go.Proofs.YtkmjbakiippfpaaGreatDoor.Tar
open Go.RowKit Go.BigFrame Go.Maps Go.Proofs.YtkmjbakiippfpaaGreatDoor.Reg Go.Proofs.YtkmjbakiippfpaaGreatDoor.Rout Go.Proofs.YtkmjbakiippfpaaGreatDoor.Node Go.Proofs.YtkmjbakiippfpaaGreatDoor.Tree Go.Proofs.YtkmjbakiippfpaaGreatDoorW.PrintWords Go.Proofs.YtkmjbakiippfpaaGreatDoorW.PrintLast Go.Proofs.YtkmjbakiippfpaaGreatDoorW.PrintMore
open Go.Proofs.YtkmjbakiippfpaaGreatDoor.Oct (Tz octO)
open Go.Proofs.YtkmjbakiippfpaaGreatDoor.Rec (Laid B Saids SayIs said_calls saids_app read_calls rdec rdec_itoa tailOf)
open Go.Lib (decDigits itoa)
abbrev SMap := ByteArray → Option ByteArray
def putS (M : SMap) (k v : ByteArray) : SMap := fun p => if k = p then some v else M p
def mapS : List (ByteArray × ByteArray) → SMap := fun l => l.foldl (fun M kv => putS M kv.1 kv.2) (fun _ => none)
theorem mapS_snoc (l : List (ByteArray × ByteArray)) (kv : ByteArray × ByteArray) : mapS (l ++ [kv]) = putS (mapS l) kv.1 kv.2 := by
  unfold mapS
  rw [List.foldl_append]
  rfl
/-! ### what is said of a node -/
noncomputable def pairsN (x : Nd) : List (ByteArray × ByteArray) := (if longB x then [(pathK, nameN x)] else []) ++ (if 100 < (linkN x).size then [(linkK, linkN x)] else []) ++ (if lateB x then [(timeK, B (itoa x.f4))] else [])
theorem say_saids (k v : ByteArray) (hk : k.size ≤ 10000) (hv : v.size ≤ 10000) (h0 : k.data.toList ≠ []) (h61 : (61 : UInt8) ∉ k.data.toList) : Saids [(k, v)] (sayB k v).data.toList := by
  refine ⟨sayN k v, [], sayN_is k v hk hv, h0, h61, rfl, ?_⟩
  unfold sayB
  rw [Rec.B_data, List.append_nil]
theorem data_app (a b : ByteArray) : (a ++ b).data.toList = a.data.toList ++ b.data.toList := by rw [ByteArray.data_append, Array.toList_append]
theorem pairs_saids (x : Nd) (hp : x.f1.size ≤ 1024) (hm : mayB x = true) : Saids (pairsN x) (saidN x).data.toList := by
  obtain ⟨m0, m1, t0, t1, hl, hd, _, _, _⟩ := may_facts x hm
  have hn := nm_le x hp
  have hi := lateB_size x t0 t1
  have a1 : Saids (if longB x then [(pathK, nameN x)] else []) (said1 x).data.toList := by
    unfold said1
    split
    · rw [data_app]
      exact say_saids pathK (nameN x) (by decide) (by omega) (by decide) (by decide)
    · rfl
  have a2 : Saids ((if longB x then [(pathK, nameN x)] else []) ++ (if 100 < (linkN x).size then [(linkK, linkN x)] else [])) (said2 x).data.toList := by
    unfold said2
    by_cases h : 100 < (linkN x).size
    · rw [if_pos h, if_pos h, data_app]
      exact saids_app _ _ _ _ a1 (say_saids linkK (linkN x) (by decide) (by omega) (by decide) (by decide))
    · rw [if_neg h, if_neg h, List.append_nil]
      exact a1
  unfold pairsN saidN
  by_cases h : lateB x = true
  · rw [if_pos h, if_pos h, data_app]
    exact saids_app _ _ _ _ a2 (say_saids timeK _ (by decide) (by omega) (by decide) (by decide))
  · rw [if_neg h, if_neg h, List.append_nil]
    exact a2
theorem pairs_len (x : Nd) : (pairsN x).length ≤ 3 := by
  unfold pairsN
  simp only [List.length_append]
  have h1 : (if longB x then [(pathK, nameN x)] else []).length ≤ 1 := by split <;> simp
  have h2 : (if 100 < (linkN x).size then [(linkK, linkN x)] else []).length ≤ 1 := by split <;> simp
  have h3 : (if lateB x then [(timeK, B (itoa x.f4))] else []).length ≤ 1 := by split <;> simp
  omega
theorem pairs_look (x : Nd) : mapS (pairsN x) pathK = (if longB x then some (nameN x) else none) ∧ mapS (pairsN x) linkK = (if 100 < (linkN x).size then some (linkN x) else none) ∧ mapS (pairsN x) timeK = (if lateB x then some (B (itoa x.f4)) else none) ∧ mapS (pairsN x) ⟨#[115, 105, 122, 101]⟩ = none := by
  have n1 : pathK ≠ linkK := by decide
  have n2 : pathK ≠ timeK := by decide
  have n3 : linkK ≠ timeK := by decide
  have n4 : pathK ≠ (⟨#[115, 105, 122, 101]⟩ : ByteArray) := by decide
  have n5 : linkK ≠ (⟨#[115, 105, 122, 101]⟩ : ByteArray) := by decide
  have n6 : timeK ≠ (⟨#[115, 105, 122, 101]⟩ : ByteArray) := by decide
  unfold pairsN
  generalize (⟨#[115, 105, 122, 101]⟩ : ByteArray) = sizeK at *
  generalize pathK = p at *
  generalize linkK = q at *
  generalize timeK = r at *
  cases longB x <;> cases lateB x <;> by_cases h : 100 < (linkN x).size <;> simp [h, mapS, putS, n1, n2, n3, n4, n5, n6, n1.symm, n2.symm, n3.symm]
/-- What is said of a node makes no fault. -/
theorem pairs_fine (x : Nd) (hm : mayB x = true) (hp : x.f1.size ≤ 1024) : ∀ kv ∈ pairsN x, kv.1.size ≤ 10000 ∧ kv.2.size ≤ 10000 ∧ (kv.1 = timeK → (rdec kv.2.data.toList).2 = 0) := by
  obtain ⟨m0, m1, t0, t1, hl, hd, _, _, _⟩ := may_facts x hm
  have hn := nm_le x hp
  have hi := lateB_size x t0 t1
  intro kv hkv
  unfold pairsN at hkv
  rcases List.mem_append.1 hkv with h | h
  · rcases List.mem_append.1 h with h | h
    · split at h
      · obtain rfl := List.mem_singleton.1 h
        exact ⟨by show pathK.size ≤ 10000; decide, by show (nameN x).size ≤ _; omega, fun e => absurd (show pathK = timeK from e) (by decide)⟩
      · cases h
    · split at h
      · obtain rfl := List.mem_singleton.1 h
        exact ⟨by show linkK.size ≤ 10000; decide, by show (linkN x).size ≤ _; omega, fun e => absurd (show linkK = timeK from e) (by decide)⟩
      · cases h
  · split at h
    · obtain rfl := List.mem_singleton.1 h
      refine ⟨by show timeK.size ≤ 10000; decide, by show (B (itoa x.f4)).size ≤ _; omega, fun _ => ?_⟩
      show (rdec (B (itoa x.f4)).data.toList).2 = 0
      rw [Rec.B_data, rdec_itoa x.f4 (by omega) (by omega)]
    · cases h
/-! ### the map in memory -/
def rawS (v : Value) : Option (DataW Value × List MemPlace) := some (.held v, [])
abbrev ownT (w : World) (b n : Nat) (D : DataW Value) : Prop := w.ownsMap Tryz.prog 9 rawS b n D
theorem zeroS (w : World) : (zeroValue 9).run Tryz.prog w = .ok (.string ⟨#[]⟩) w := by kernel_rfl
def SaysT (D : DataW Value) (M : SMap) : Prop :=
  ∀ p : ByteArray, (M p = none → Maps.has D (.string p.data.toList) = false) ∧ ∀ v, M p = some v → Maps.has D (.string p.data.toList) = true ∧ D.atKey (.string p.data.toList) (.held (.string ⟨#[]⟩)) = .held (.string v)
def TAt (w : World) (b n : Nat) (M : SMap) : Prop := ∃ D, ownT w b n D ∧ SaysT D M
theorem TAt.kept {w w' : World} {b n : Nat} {M : SMap} (h : TAt w b n M) (hb : w'.heap[b]? = w.heap[b]?) : TAt w' b n M := by
  obtain ⟨D, ⟨es, clock, h1, h2⟩, hp⟩ := h
  exact ⟨D, ⟨es, clock, hb.trans h1, h2⟩, hp⟩
theorem TAt.lt {w : World} {b n : Nat} {M : SMap} (h : TAt w b n M) : b < w.heap.size := by
  obtain ⟨D, h1, _⟩ := h
  exact h1.lt
theorem TAt.below {w w' : World} {b n : Nat} {M : SMap} (h : TAt w b n M) (hb : Below w.heap.size w w') : TAt w' b n M := h.kept (hb.block b h.lt)
theorem TAt.noCells {w : World} {b n : Nat} {M : SMap} (h : TAt w b n M) (cells : Array Value) (t : TypeId) (fr : Nat × Nat) : w.heap[b]? ≠ some (.cells cells t fr) := by
  obtain ⟨D, ⟨es, clock, h1, _⟩, _⟩ := h
  rw [h1]
  intro e
  cases e
theorem TAt.made (w : World) : TAt (w.alloc (.map #[] 0)) w.heap.size 0 (fun _ => none) :=
  ⟨_, World.ownsMap_made w _ _ _, fun p => ⟨fun _ => rfl, fun x hx => by cases hx⟩⟩
theorem SaysT.put {D : DataW Value} {M : SMap} (h : SaysT D M) (hD : IsMap D) (k v : ByteArray) : SaysT (D.put (.string k.data.toList) (.held (.string v))) (putS M k v) := by
  intro p
  unfold putS
  by_cases he : k = p
  · subst he
    rw [if_pos rfl]
    refine ⟨(fun h => by cases h), fun y hy => ?_⟩
    cases hy
    exact ⟨Maps.has_put_same hD (by trivial) _, Maps.atKey_put_same hD (by trivial) _ _⟩
  · rw [if_neg he]
    have hne : Lit.string p.data.toList ≠ Lit.string k.data.toList := fun e => he (ba_ext (by injection e with e; exact e.symm))
    rw [Maps.has_put_other hne, Maps.atKey_put_other hne]
    exact h p
theorem TAt.look {w : World} {b n : Nat} {M : SMap} (h : TAt w b n M) (p : ByteArray) (hp : p.size ≤ 140737488351232) :
    (M p = none → (Instr.lookup 45 (.map (some b)) (.string p) true).run Tryz.prog w = .ok (.tuple #[.string ⟨#[]⟩, .bool false]) w) ∧
    ∀ v, M p = some v → (Instr.lookup 45 (.map (some b)) (.string p) true).run Tryz.prog w = .ok (.tuple #[.string v, .bool true]) w := by
  obtain ⟨D, h1, hq⟩ := h
  obtain ⟨v, ps, hrun, hv⟩ := h1.look_ok (z := .string ⟨#[]⟩) (zd := .held (.string ⟨#[]⟩)) (zp := []) key9 Tryz.underlying45 (zeroS w) rfl (Go.WideMaps.keyOf_string_mk (s := p) Tryz.underlying9 (by unfold maxLen; omega))
  unfold rawS at hv
  simp only [Option.some.injEq, Prod.mk.injEq] at hv
  refine ⟨fun hn => ?_, fun x hx => ?_⟩
  · have h0 := (hq p).1 hn
    rw [Maps.atKey_of_not_has h0] at hv
    obtain rfl : v = .string ⟨#[]⟩ := by injection hv.1
    rw [hrun, h0]
  · obtain ⟨g1, g2⟩ := (hq p).2 x hx
    rw [g2] at hv
    obtain rfl : v = .string x := by injection hv.1
    rw [hrun, g1]
section
variable {w0 w w' : World} {g b o c : Nat} {ys : List Int} {most : Int} {lv : Value} {l : List Nd} {m : Option Nat}
theorem RdAt.setMap (h : RdAt w0 w g b o c ys most lv l m) (m' : Option Nat) : RdAt w0 (w.setCell ⟨g, 3, none⟩ (.map m')) g b o c ys most lv l m' :=
  ⟨heap_setCell_same w g 3 _ _ _ h.head, set_below (i := 3) h.below _ h.head h.gb, h.gb, h.bytes, h.byte, h.cap, h.big, h.lenB, h.rowSet 3 _⟩
/-- A map's block is written. -/
theorem RdAt.mapPut {B n : Nat} {M : SMap} (h : RdAt w0 w g b o c ys most lv l m) (hT : TAt w B n M) (hB : w0.heap.size ≤ B) (hg : w.grownBy w' (some B)) : RdAt w0 w' g b o c ys most lv l m := by
  have hM : Mod (fun i => i = B) w w' := Mod.of_grown hg (fun i e => by injection e with e; exact e.symm)
  refine ⟨(hM.block g h.glt (fun e => hT.noCells _ _ _ (e ▸ h.head))).trans h.head, hM.below h.below (fun i e => by omega), h.gb, h.bytes, h.byte, h.cap, h.big, h.lenB, ?_⟩
  obtain ⟨rs, h1, h2⟩ := h.row
  exact ⟨rs, R_mod h1 hM (fun i e q cells hc => by subst e; exact absurd hc (hT.noCells _ _ _)), h2.keep (Keep8.mod hM (fun i e cells fr hc => by subst e; exact hT.noCells _ _ _ hc))⟩
end
theorem cell_str {w : World} {A : Option Addr} {ss : List ByteArray} (h : Kd.string.C w A ss.length ss) (k : Nat) (hk : k < ss.length) : ∃ ad, A = some ad ∧ w.cell? (ad.add k) = some (.string ss[k]) := by
  obtain ⟨ad, e, hj⟩ := h.2.2 (by omega)
  obtain ⟨cc, hlen, hK, hi⟩ := hj k _ (List.getElem?_eq_getElem hk)
  have hcc : cc = [.string ss[k]] := hK
  subst hcc
  have := hi 0 _ rfl
  exact ⟨ad, e, by rwa [show k * Kd.sz Kd.string + 0 = k from by show k * 1 + 0 = k; omega] at this⟩
theorem row_str {w : World} {base : Nat} {ok : Nat → Prop} {v : Value} {ss : List ByteArray} (h : Kd.string.R 9 w base ok v ss) : ∃ A c, v = .slice A ss.length c ∧ Kd.string.C w A ss.length ss := by
  obtain ⟨A, c, e, _, hC⟩ := Kd.R_reads h
  exact ⟨A, c, e, hC⟩
def SaidPost (w0 : World) (g b o c : Nat) (ys : List Int) (s : Nat) (most : Int) (lv : Value) (l : List Nd) (S : List (ByteArray × ByteArray)) (w : World) (e : Ending) (w' : World) : Prop :=
  ∃ mb, e = .returned (.int .i64 0) ∧ RdAt w0 w' g b (o + (s + padN s)) (c - (s + padN s)) (ys.drop (s + padN s)) most lv l (some mb) ∧ TAt w' mb S.length (mapS S) ∧ w0.heap.size ≤ mb
set_option maxRecDepth 100000 in
set_option maxHeartbeats 8000000 in
theorem saidR_calls (w0 w : World) (g b o c : Nat) (ys : List Int) (most : Int) (lv : Value) (l : List Nd) (h : RdAt w0 w g b o c ys most lv l none) (s : Nat) (hs : s + padN s < ys.length) (hsm : s ≤ 1048576) (S : List (ByteArray × ByteArray)) (hS : Saids S (strOfNums (ys.take s)).data.toList) (hn : S.length ≤ 50)
    (hf : ∀ kv ∈ S, kv.1.size ≤ 10000 ∧ kv.2.size ≤ 10000 ∧ (kv.1 = timeK → (rdec kv.2.data.toList).2 = 0)) (hz : mapS S ⟨#[115, 105, 122, 101]⟩ = none) (hd : Hd) (hds : hd.size = s) (hL : Laid w0) :
    Calls Tryz.prog 17 #[.pointer (some ⟨g, 0, none⟩), .agg #[.string hd.name, .string hd.link, .int .i64 hd.mode, .int .i64 hd.size, .int .i64 hd.time, .int .u8 hd.kind]] w (SaidPost w0 g b o c ys s most lv l S w) := by
  obtain ⟨wb, hwb⟩ : ∃ wb, wb = w.alloc (.cells #[.string hd.name, .string hd.link, .int .i64 hd.mode, .int .i64 hd.size, .int .i64 hd.time, .int .u8 hd.kind] 50) := ⟨_, rfl⟩
  have hbb : Below w.heap.size w wb := by rw [hwb]; exact balloc (Below.refl _ _) _
  have hbox : BoxH wb w.heap.size hd := by rw [hwb]; exact heap_alloc_new _ _
  have HR := Lib.hid (h.kept hbb)
  have HD := Lib.hid (data_calls w0 wb g b o c ys most lv l none HR.out s 1048576 (by omega) hs (by decide))
  have HL := Lib.hid hL
  have HS := Lib.hid hS
  have HF := Lib.hid hf
  have HZ := Lib.hid hz
  have HT := Lib.hid (Kd.C_take h.bytes (m := s) (by omega))
  have HTL := Lib.hid (show (ys.take s).length = s by rw [List.length_take]; omega)
  have b3 : wb.cell? ⟨w.heap.size, 3, none⟩ = some (.int .i64 (s : Int)) := by rw [← hds]; exact hbox.c3
  have c3 := HR.out.c3
  have qT : ∀ (w : World) (r : Option Nat), (binOp .neq 45 (.map r) (.map none)).run Tryz.prog w = .ok (.bool !r.isNone) w := fun w r => run_neq_map_nil w _ _ _ r Tryz.underlying45
  have hmm := @run_makeMap Tryz.prog
  have HWB := Lib.hid hwb
  clear h hbb hbox hL hS hf hz hwb hds
  go_enter Tryz.func17, Tryz.ntmps17
  go_upto_region 1 with fail
  rw [← HWB.out]
  go_upto_region 6 with (go_at_call 41; refine HD.out.mono ?_; rintro e w1 ⟨rfl, h1, hm1⟩)
  have hcv : (convert 23 9 (.slice (some ⟨b, o, none⟩) s c)).run Tryz.prog w1 = .ok (.string (strOfNums (ys.take s))) w1 := by
    have h0 := Kd.C_string (P := Tryz.prog) (w := w1) (src := 23) (dst := 9) (e := 5) (c := c) Tryz.underlying23 Tryz.underlying5 Tryz.underlying9 (Kd.C_below HT.out h1.below)
    rw [HTL.out] at h0
    exact h0
  have HSD := Lib.hid (said_calls S (strOfNums (ys.take s)) HS.out hn (by rw [strOfNums_size, HTL.out]; omega) w1 (HL.out.below h1.below))
  have H1 := Lib.hid h1
  clear HD HR b3 c3 h1 hm1 HWB
  generalize strOfNums (ys.take s) = str at *
  obtain ⟨al, hal⟩ : ∃ al, al = s + padN s := ⟨_, rfl⟩
  have HAL := Lib.hid hal
  rw [← hal] at H1
  clear hal
  go_upto_region 9 with (go_at_call 42; refine HSD.out.mono ?_; rintro e w2 ⟨u, v, rfl, hu, hv, hb2⟩; obtain ⟨Au, cu, rfl, hCu⟩ := row_str hu; obtain ⟨Av, cv, rfl, hCv⟩ := row_str hv; rw [List.length_map] at hu hv; have H2 := Lib.hid (H1.out.kept hb2); have HU := Lib.hid (Kd.R_lower hu (show w0.heap.size ≤ w1.heap.size from H1.out.below.size)); have HV := Lib.hid (Kd.R_lower hv (show w0.heap.size ≤ w1.heap.size from H1.out.below.size)); clear hu hv hCu hCv hb2)
  have c3 := H2.out.c3
  have z3 := H2.out.free 3
  have hgl := H2.out.glt
  have hne : w2.heap.size ≠ g := by omega
  have h0s := H2.out.below.size
  have hsz : (w2.setCell ⟨g, 3, none⟩ (.map (some w2.heap.size))).heap.size = w2.heap.size := by simp [World.setCell]
  have H3 := Lib.hid ((H2.out.setMap (some w2.heap.size)).kept (balloc (Below.refl _ _) (.map #[] 0)))
  have ht3 := TAt.made (w2.setCell ⟨g, 3, none⟩ (.map (some w2.heap.size)))
  rw [hsz] at ht3
  have HT3 := Lib.hid ht3
  have HU3 := Lib.hid (Kd.R_mono (Kd.R_below (R_set (g := g) (i := 3) (u := .map (some w2.heap.size)) (Kd.R_mono (Kd.R_below HU.out (Below.refl _ _)) (fun _ _ => trivial) (ok' := fun _ => True)) (fun q cells hc => by rw [H2.out.head] at hc; cases hc; decide)) (balloc (Below.refl _ _) (.map #[] 0))) (fun _ _ => trivial) (ok' := fun _ => True))
  have HV3 := Lib.hid (Kd.R_mono (Kd.R_below (R_set (g := g) (i := 3) (u := .map (some w2.heap.size)) (Kd.R_mono (Kd.R_below HV.out (Below.refl _ _)) (fun _ _ => trivial) (ok' := fun _ => True)) (fun q cells hc => by rw [H2.out.head] at hc; cases hc; decide)) (balloc (Below.refl _ _) (.map #[] 0))) (fun _ _ => trivial) (ok' := fun _ => True))
  generalize hmb : w2.heap.size = mb at *
  go_upto_region 10 with (fail)
  have hmb0 : w0.heap.size ≤ mb := by omega
  clear c3 z3 hgl hne hsz ht3 hcv HSD H1 H2 HU HV hmm qT hmb
  generalize (w2.setCell ⟨g, 3, none⟩ (.map (some mb))).alloc (.map #[] 0) = w3 at *
  go_upto_region 11 with (fail)
  go_wp2
  go_loopw [9, 10, 11, 12, 13, 47] (fun ws _ _ _ _ i wr => ∃ k : Nat, i = .int .i64 k ∧ k ≤ S.length ∧ ws = .int .i64 0 ∧ Hid (RdAt w0 wr g b (o + al) (c - al) (ys.drop al) most lv l (some mb)) ∧ Hid (TAt wr mb k (mapS (S.take k))) ∧ Hid (Kd.string.R 9 wr w0.heap.size (fun _ => True) (.slice Au S.length cu) (S.map (·.1))) ∧ Hid (Kd.string.R 9 wr w0.heap.size (fun _ => True) (.slice Av S.length cv) (S.map (·.2)))) (fun _ _ _ _ _ i _ => (S.length - intOf i).toNat)
  case atStart => exact ⟨0, rfl, by omega, rfl, H3, HT3, HU3, HV3⟩
  case round =>
    clear H3 HT3 HU3 HV3
    obtain ⟨k, rfl, hk, rfl, HR, HM, HU, HV⟩ := hrel
    by_cases hlt : k < S.length
    · obtain ⟨Au', cu', eu, hCu⟩ := row_str HU.out
      obtain ⟨Av', cv', ev, hCv⟩ := row_str HV.out
      obtain ⟨au, hau, xu⟩ := cell_str hCu k (by rw [List.length_map]; exact hlt)
      obtain ⟨av, hav, xv⟩ := cell_str hCv k (by rw [List.length_map]; exact hlt)
      obtain rfl : Au = some au := by injection eu with e _ _; rw [e, hau]
      obtain rfl : Av = some av := by injection ev with e _ _; rw [e, hav]
      rw [List.getElem_map] at xu xv
      have hfk := HF.out _ (List.getElem_mem hlt)
      have HSN := Lib.hid (show mapS (S.take (k + 1)) = putS (mapS (S.take k)) S[k].1 S[k].2 by rw [List.take_succ_eq_append_getElem hlt, mapS_snoc])
      have HFK := Lib.hid hfk.2.2
      have hs1 := hfk.1
      have hs2 := hfk.2.1
      clear eu ev hCu hCv hau hav hfk
      generalize S[k].1 = ky at *
      generalize hvl : S[k].2 = vl at *
      have HVL := Lib.hid hvl
      clear hvl
      have k0 : (0 : Int) ≤ (k : Int) := by omega
      have k1 : (k : Int) < S.length := by omega
      have c3 := HR.out.c3
      go_upto_region 14 with (fail)
      go_still_tail 9, (by kernel_rfl)
      obtain ⟨D, hown, hsays⟩ := HM.out
      have HSY := Lib.hid hsays
      have HIM := Lib.hid hown.isMap
      clear hsays
      go_upto_region 15 with (at_mapUpdate; refine wpList_mapUpdate_own _ rfl _ _ _ 45 rfl 9 9 key9 Tryz.underlying45 _ mb k D rfl hown (by unfold maxLen; omega) _ (.string vl) _ rfl rfl (Go.WideMaps.keyOf_string_mk Tryz.underlying9 (by unfold maxLen; omega)) _ [] rfl ?_; intro w5 hown5 hgr5)
      have hgr : wr.grownBy w5 (some mb) := ⟨hgr5.os, hgr5.tape, hgr5.output, hgr5.size, hgr5.block⟩
      have hMod : Mod (fun i => i = mb) wr w5 := Mod.of_grown hgr (fun i e => by injection e with e; exact e.symm)
      have HR5 := Lib.hid (HR.out.mapPut HM.out hmb0 hgr)
      have HM5 := Lib.hid (show TAt w5 mb (k + 1) (mapS (S.take (k + 1))) from ⟨_, hown5, by rw [HSN.out]; exact HSY.out.put HIM.out ky vl⟩)
      have HU5 := Lib.hid (R_mod HU.out hMod (fun i e q cells hc => by subst e; exact absurd hc (HM.out.noCells _ _ _)))
      have HV5 := Lib.hid (R_mod HV.out hMod (fun i e q cells hc => by subst e; exact absurd hc (HM.out.noCells _ _ _)))
      obtain ⟨Av9, cv9, ev9, hCv9⟩ := row_str HV5.out
      obtain ⟨av9, hav9, xv5⟩ := cell_str hCv9 k (by rw [List.length_map]; exact hlt)
      obtain rfl : av = av9 := by injection ev9 with e _ _; rw [hav9] at e; exact Option.some.inj e
      rw [List.getElem_map, HVL.out] at xv5
      clear hgr hgr5 hown5 hMod hown HSY HIM HM HU HV xu xv c3 ev9 hCv9 hav9 HR
      by_cases he : ky = timeK
      · have hb : (ky.toList == [109, 116, 105, 109, 101]) = true := by rw [he, ByteArray.toList_eq]; rfl
        have HRD := Lib.hid (read_calls vl (by omega) w5 (HL.out.below HR5.out.below))
        rw [HFK.out he] at HRD
        clear he
        generalize (rdec vl.data.toList).1 = dv at *
        go_wp2_with (go_at_call 43; refine HRD.out.mono ?_; rintro e w6 ⟨rfl, hb6⟩)
        have HR6 := Lib.hid (HR5.out.kept hb6)
        have HM6 := Lib.hid (HM5.out.below hb6)
        have HU6 := Lib.hid (Kd.R_mono (Kd.R_below HU5.out hb6) (fun _ _ => trivial) (ok' := fun _ => True))
        have HV6 := Lib.hid (Kd.R_mono (Kd.R_below HV5.out hb6) (fun _ _ => trivial) (ok' := fun _ => True))
        clear hb6
        go_roundw
        case rel => exact ⟨k + 1, by go_num, by omega, rfl, HR6, HM6, HU6, HV6⟩
        case measure => simp [intOf]; omega
      · have hb : (ky.toList == [109, 116, 105, 109, 101]) = false := by
          rw [beq_eq_false_iff_ne, ByteArray.toList_eq]
          intro e
          exact he (ByteArray.ext (Array.toList_inj.1 e))
        go_wp2
        go_roundw
        case rel => exact ⟨k + 1, by go_num, by omega, rfl, HR5, HM5, HU5, HV5⟩
        case measure => simp [intOf]; omega
    · obtain rfl : k = S.length := by omega
      have k1 : ¬ (S.length : Int) < S.length := by omega
      rw [List.take_length] at HM
      have c3 := HR.out.c3
      have hlk := (HM.out.look ⟨#[115, 105, 122, 101]⟩ (by decide)).1 HZ.out
      have HA := HAL.out
      go_wp2
      go_ret
      subst HA
      exact ⟨mb, rfl, HR.out, HM.out, hmb0⟩
end Go.Proofs.YtkmjbakiippfpaaGreatDoor.Tar
set_option linter.unusedVariables false
set_option linter.unusedSimpArgs false
namespace Go.Proofs.YtkmjbakiippfpaaGreatDoor.Tar
open Go.RowKit Go.BigFrame Go.Maps Go.Proofs.YtkmjbakiippfpaaGreatDoor.Reg Go.Proofs.YtkmjbakiippfpaaGreatDoor.Rout Go.Proofs.YtkmjbakiippfpaaGreatDoor.Node Go.Proofs.YtkmjbakiippfpaaGreatDoor.Tree Go.Proofs.YtkmjbakiippfpaaGreatDoorW.PrintWords Go.Proofs.YtkmjbakiippfpaaGreatDoorW.PrintLast Go.Proofs.YtkmjbakiippfpaaGreatDoorW.PrintMore
open Go.Proofs.YtkmjbakiippfpaaGreatDoor.Oct (Tz octO)
open Go.Proofs.YtkmjbakiippfpaaGreatDoor.Rec (Laid B read_calls rdec)
open Go.Proofs.YtkmjbakiippfpaaGreatDoor.InvR (region_J deps_any)
theorem cut_mem : ∀ (l : List UInt8) (c : UInt8), c ∈ l → c = 47 ∨ ∃ p ∈ cut l, c ∈ p
  | [], c, h => by cases h
  | a :: r, c, h => by
    unfold cut
    by_cases ha : a = 47
    · rw [if_pos ha]
      rcases List.mem_cons.1 h with e | h
      · exact .inl (e.trans ha)
      · rcases cut_mem r c h with e | ⟨p, hp, hc⟩
        · exact .inl e
        · exact .inr ⟨p, List.mem_cons_of_mem _ hp, hc⟩
    · rw [if_neg ha]
      cases hr : cut r with
      | nil => exact absurd hr (cut_ne r)
      | cons p ps =>
        rcases List.mem_cons.1 h with e | h
        · exact .inr ⟨_, List.mem_cons_self, by rw [e]; exact List.mem_cons_self⟩
        · rcases cut_mem r c h with e | ⟨q, hq, hc⟩
          · exact .inl e
          · rw [hr] at hq
            rcases List.mem_cons.1 hq with e | hq
            · exact .inr ⟨_, List.mem_cons_self, by rw [← e]; exact List.mem_cons_of_mem _ hc⟩
            · exact .inr ⟨q, List.mem_cons_of_mem _ hq, hc⟩
theorem cut_last : ∀ l : List UInt8, ∃ p ps, cut (l ++ [47]) = p :: (ps ++ [[]])
  | [] => ⟨[], [], by simp [cut]⟩
  | a :: r => by
    obtain ⟨p, ps, e⟩ := cut_last r
    rw [List.cons_append]
    unfold cut
    by_cases ha : a = 47
    · rw [if_pos ha, e]
      exact ⟨[], p :: ps, rfl⟩
    · rw [if_neg ha, e]
      exact ⟨a :: p, ps, rfl⟩
theorem cut_end (l : List UInt8) : [] ∈ cut (l ++ [47]) := by
  obtain ⟨p, ps, e⟩ := cut_last l
  rw [e]
  simp
theorem piece_name {s : ByteArray} (h : validB s = true) (p : List UInt8) (hp : p ∈ cut s.data.toList) : nameB (toB p) = true := by
  unfold validB at h
  simp only [Bool.and_eq_true] at h
  exact (List.all_eq_true.1 h.1.1) _ (by unfold pcs; exact List.mem_map.2 ⟨p, hp, rfl⟩)
theorem name_facts {p : List UInt8} (h : nameB (toB p) = true) : p ≠ [] ∧ ∀ c ∈ p, c ≠ 47 ∧ c ≠ 0 := by
  unfold nameB at h
  simp only [Bool.and_eq_true, decide_eq_true_eq] at h
  obtain ⟨⟨⟨⟨h1, h2⟩, h3⟩, h4⟩, h5⟩ := h
  rw [data_toB] at h5
  refine ⟨fun e => by rw [e] at h1; rw [size_toB] at h1; simp at h1, fun c hc => ?_⟩
  have := List.all_eq_true.1 h5 c hc
  simpa using this
theorem valid_no0 {s : ByteArray} (h : validB s = true) : (0 : UInt8) ∉ s.data.toList := fun hm => by
  rcases cut_mem _ _ hm with e | ⟨p, hp, hc⟩
  · cases e
  · exact ((name_facts (piece_name h p hp)).2 0 hc).2 rfl
theorem valid_end {s : ByteArray} (h : validB s = true) : Lib.hasSuffix s.data.toList [47] = false := by
  cases hs : Lib.hasSuffix s.data.toList [47] with
  | false => rfl
  | true =>
    unfold Lib.hasSuffix at hs
    rw [List.isSuffixOf_iff_suffix] at hs
    obtain ⟨q, hq⟩ := hs
    have := cut_end q
    rw [hq] at this
    exact absurd rfl (name_facts (piece_name h [] this)).1
theorem and_4095 (v : Int) (h0 : 0 ≤ v) (h1 : v ≤ 4095) : bits .and .i64 v 4095 = v := by
  obtain ⟨n, rfl⟩ := Int.eq_ofNat_of_zero_le h0
  show IntKind.i64.wrap ((BitVec.ofInt 64 (n : Int) &&& BitVec.ofInt 64 4095).toNat : Int) = _
  rw [BitVec.toNat_and, show (BitVec.ofInt 64 4095).toNat = 2 ^ 12 - 1 from rfl, Nat.and_two_pow_sub_one_eq_mod, BitVec.ofInt_natCast, BitVec.toNat_ofNat, IntKind.wrap_i64]
  omega
theorem readP_calls (s p : ByteArray) (b : Bool) (hs : s.size ≤ 9223372036854775807) (h1 : Lib.hasSuffix s.data.toList [47] = b) (h2 : Lib.trimSuffix s.data.toList [47] = p.data.toList) (hv : validB p = true) (w : World) :
    Calls Tryz.prog 71 #[.string s] w fun e w' => e = .returned (.tuple #[.string p, .bool b, .int .i64 0]) ∧ Below w.heap.size w w' := by
  have H := Lib.hid (Tryz.strings_CutSuffix s ⟨#[47]⟩ w hs)
  rw [show (⟨#[47]⟩ : ByteArray).data.toList = [47] from rfl, h1, h2, show (⟨p.data.toList.toArray⟩ : ByteArray) = p from ba_ext (by simp)] at H
  have hsz := valid_size _ hv
  have HV := Lib.hid (valid_calls p w (by omega))
  rw [hv] at HV
  clear h1 h2 hv
  go_enter Tryz.func71, Tryz.ntmps71
  go_wp2_with (first | (go_at_call 96; refine H.out.mono ?_; rintro e w1 ⟨rfl, rfl⟩) | (go_at_call 11; refine HV.out.mono ?_; rintro e w1 ⟨rfl, hb1⟩))
  refine bodyPost_ret (v := .tuple #[.string p, .bool b, .int .i64 0]) (by simp [results, Tryz.results71, go_sem]) rfl ⟨rfl, hb1⟩
theorem readN_calls (x : Nd) (hv : validB x.f1 = true) (w : World) :
    Calls Tryz.prog 71 #[.string (nameN x)] w fun e w' => e = .returned (.tuple #[.string x.f1, .bool (decide (x.f0 = 1)), .int .i64 0]) ∧ Below w.heap.size w w' := by
  have hsz := valid_size _ hv
  have hn := nm_le x hsz
  refine readP_calls (nameN x) x.f1 _ (by omega) ?_ ?_ hv w
  · unfold nameN
    by_cases h : x.f0 = 1
    · rw [if_pos h, decide_eq_true h, data_app]
      unfold Lib.hasSuffix
      rw [List.isSuffixOf_iff_suffix]
      exact ⟨_, rfl⟩
    · rw [if_neg h, decide_eq_false h]
      exact valid_end hv
  · unfold nameN Lib.trimSuffix
    by_cases h : x.f0 = 1
    · rw [if_pos h, data_app]
      have : Lib.hasSuffix (x.f1.data.toList ++ (⟨#[47]⟩ : ByteArray).data.toList) [47] = true := by
        unfold Lib.hasSuffix
        rw [List.isSuffixOf_iff_suffix]
        exact ⟨_, rfl⟩
      rw [if_pos this]
      exact List.take_left' (by simp)
    · rw [if_neg h, if_neg (by rw [valid_end hv]; simp)]
/-- A node's box. -/
def BoxN (w : World) (g : Nat) (k : Int) (p : ByteArray) (v : Value) (m t : Int) : Prop := w.heap[g]? = some (.cells #[.int .i64 k, .string p, v, .int .i64 m, .int .i64 t] 31 (0, 0))
section
variable {W W' : World} {g : Nat} {k : Int} {p : ByteArray} {v : Value} {m t : Int}
theorem BoxN.c0 (b : BoxN W g k p v m t) : W.cell? ⟨g, 0, none⟩ = some (.int .i64 k) := by unfold BoxN at b; simp [World.cell?, b]
theorem BoxN.c1 (b : BoxN W g k p v m t) : W.cell? ⟨g, 1, none⟩ = some (.string p) := by unfold BoxN at b; simp [World.cell?, b]
theorem BoxN.c2 (b : BoxN W g k p v m t) : W.cell? ⟨g, 2, none⟩ = some v := by unfold BoxN at b; simp [World.cell?, b]
theorem BoxN.c3 (b : BoxN W g k p v m t) : W.cell? ⟨g, 3, none⟩ = some (.int .i64 m) := by unfold BoxN at b; simp [World.cell?, b]
theorem BoxN.c4 (b : BoxN W g k p v m t) : W.cell? ⟨g, 4, none⟩ = some (.int .i64 t) := by unfold BoxN at b; simp [World.cell?, b]
theorem BoxN.free (b : BoxN W g k p v m t) (i : Nat) : W.frozen? ⟨g, i, none⟩ = false := by unfold BoxN at b; simp [World.frozen?, b]
theorem BoxN.below (b : BoxN W g k p v m t) (hb : Below W.heap.size W W') : BoxN W' g k p v m t := (hb.block _ (Array.getElem?_eq_some_iff.1 b).1).trans b
theorem BoxN.other (b : BoxN W g k p v m t) {h i : Nat} (hne : h ≠ g) (u : Value) : BoxN (W.setCell ⟨h, i, none⟩ u) g k p v m t := (heap_setCell_other W ⟨h, i, none⟩ g u (fun e => hne e.symm)).trans b
theorem BoxH.other {hd : Hd} (b : BoxH W g hd) {h i : Nat} (hne : h ≠ g) (u : Value) : BoxH (W.setCell ⟨h, i, none⟩ u) g hd := (heap_setCell_other W ⟨h, i, none⟩ g u (fun e => hne e.symm)).trans b
end
theorem box_setN {W : World} {g i : Nat} {cs : Array Value} (v : Value) (h : W.heap[g]? = some (.cells cs 31 (0, 0))) : (W.setCell ⟨g, i, none⟩ v).heap[g]? = some (.cells (cs.setIfInBounds i v) 31 (0, 0)) := box_set v h
theorem keep_N {W : World} {g : Nat} {k : Int} {p : ByteArray} {v : Value} {m t : Int} (b : BoxN W g k p v m t) (i : Nat) (u : Value) : Keep8 W (W.setCell ⟨g, i, none⟩ u) :=
  Keep8.mod (Mod.of_setCell (S := fun k => k = g) W ⟨g, i, none⟩ u rfl) (fun j hj cells fr hc => by subst hj; unfold BoxN at b; rw [b] at hc; cases hc)
theorem below_N {w W : World} {g : Nat} {k : Int} {p : ByteArray} {v : Value} {m t : Int} (hb : Below w.heap.size w W) (b : BoxN W g k p v m t) (hg : w.heap.size ≤ g) (i : Nat) (u : Value) : Below w.heap.size w (W.setCell ⟨g, i, none⟩ u) := set_below (i := i) hb u b hg
theorem five_N {w W : World} {g : Nat} {k : Int} {p : ByteArray} {v : Value} {m t : Int} (hx : BoxN W g k p v m t) (hb : Below w.heap.size w W) (hg : w.heap.size ≤ g) (k' : Int) (p' : ByteArray) (v' : Value) (m' t' : Int) :
    BoxN (((((W.setCell ⟨g, 0, none⟩ (.int .i64 k')).setCell ⟨g, 1, none⟩ (.string p')).setCell ⟨g, 2, none⟩ v').setCell ⟨g, 3, none⟩ (.int .i64 m')).setCell ⟨g, 4, none⟩ (.int .i64 t')) g k' p' v' m' t' ∧ Below w.heap.size w (((((W.setCell ⟨g, 0, none⟩ (.int .i64 k')).setCell ⟨g, 1, none⟩ (.string p')).setCell ⟨g, 2, none⟩ v').setCell ⟨g, 3, none⟩ (.int .i64 m')).setCell ⟨g, 4, none⟩ (.int .i64 t')) ∧ ∀ A xs, BC W A xs → BC (((((W.setCell ⟨g, 0, none⟩ (.int .i64 k')).setCell ⟨g, 1, none⟩ (.string p')).setCell ⟨g, 2, none⟩ v').setCell ⟨g, 3, none⟩ (.int .i64 m')).setCell ⟨g, 4, none⟩ (.int .i64 t')) A xs := by
  have x0 : BoxN (W.setCell ⟨g, 0, none⟩ (.int .i64 k')) g k' p v m t := box_setN (i := 0) _ hx
  have x1 : BoxN _ g k' p' v m t := box_setN (i := 1) (.string p') x0
  have x2 : BoxN _ g k' p' v' m t := box_setN (i := 2) v' x1
  have x3 : BoxN _ g k' p' v' m' t := box_setN (i := 3) (.int .i64 m') x2
  have x4 : BoxN _ g k' p' v' m' t' := box_setN (i := 4) (.int .i64 t') x3
  refine ⟨x4, ?_, fun A xs hB => ?_⟩
  · exact below_N (below_N (below_N (below_N (below_N hb hx hg 0 _) x0 hg 1 _) x1 hg 2 _) x2 hg 3 _) x3 hg 4 _
  · exact ((((hB.keep (keep_N hx 0 _)).keep (keep_N x0 1 _)).keep (keep_N x1 2 _)).keep (keep_N x2 3 _)).keep (keep_N x3 4 _)
theorem conv_both (w : World) (s : ByteArray) (c k : Nat) (hs : s.size ≤ 65536) :
    BC (w.alloc (.cells (bytesRow s c) 5 (k, k + 1))).drew (some ⟨w.heap.size, 0, none⟩) (bytesOf s) ∧ Below w.heap.size w (w.alloc (.cells (bytesRow s c) 5 (k, k + 1))).drew :=
  ⟨⟨(conv_row w s c k hs).1, fun _ => ⟨_, _, _, rfl, heap_alloc_new w _⟩⟩, (conv_row w s c k hs).2⟩
/-- What is known of the world while a link's node is filled. -/
def KnowL (w : World) (x : Nd) (sz : Int) (W : World) : Prop := Below w.heap.size w W ∧ BoxH W w.heap.size ⟨nameN x, linkN x, x.f3, sz, x.f4, kindN x⟩ ∧ ∃ k v, BoxN W (w.heap.size + 1) k x.f1 v x.f3 x.f4
def LinkAt (g : Nat) (s : ByteArray) (W : World) : Prop := ∃ (A : Option Addr) (G : Nat), W.cell? ⟨g, 2, none⟩ = some (.slice A s.size G) ∧ s.size ≤ G ∧ BC W A (bytesOf s)
def KeepL (g : Nat) (s : ByteArray) (W W' : World) : Prop := Keep8 W W' ∧ (W.cell? ⟨g, 0, none⟩ = some (.int .i64 3) → W'.cell? ⟨g, 0, none⟩ = some (.int .i64 3)) ∧ (LinkAt g s W → LinkAt g s W')
theorem KeepL.refl (g : Nat) (s : ByteArray) (W : World) : KeepL g s W W := ⟨fun _ _ _ h => h, id, id⟩
theorem KeepL.below (g : Nat) (s : ByteArray) {W W' : World} (hb : Below W.heap.size W W') : KeepL g s W W' := ⟨Keep8.below hb, bkeep hb, fun ⟨A, G, h1, h2, h3⟩ => ⟨A, G, bkeep hb h1, h2, h3.keep (Keep8.below hb)⟩⟩
theorem KnowL.below {w : World} {x : Nd} {sz : Int} {W W' : World} (h : KnowL w x sz W) (hb : Below W.heap.size W W') : KnowL w x sz W' := by
  obtain ⟨h1, h2, k, v, h3⟩ := h
  exact ⟨bgo h1 hb, h2.below hb, k, v, h3.below hb⟩
theorem KnowL.kind3 {w : World} {x : Nd} {sz : Int} {W : World} {s : ByteArray} (h : KnowL w x sz W) : KnowL w x sz (W.setCell ⟨w.heap.size + 1, 0, none⟩ (.int .i64 3)) ∧ KeepL (w.heap.size + 1) s W (W.setCell ⟨w.heap.size + 1, 0, none⟩ (.int .i64 3)) ∧ (W.setCell ⟨w.heap.size + 1, 0, none⟩ (.int .i64 3)).cell? ⟨w.heap.size + 1, 0, none⟩ = some (.int .i64 3) := by
  obtain ⟨h1, h2, k, v, h3⟩ := h
  have hx : BoxN (W.setCell ⟨w.heap.size + 1, 0, none⟩ (.int .i64 3)) (w.heap.size + 1) 3 x.f1 v x.f3 x.f4 := box_setN (i := 0) (.int .i64 3) h3
  refine ⟨⟨below_N h1 h3 (by omega) 0 _, h2.other (by omega) _, 3, v, hx⟩, ⟨keep_N h3 0 _, fun _ => hx.c0, fun ⟨A, G, e1, e2, e3⟩ => ⟨A, G, ?_, e2, e3.keep (keep_N h3 0 _)⟩⟩, hx.c0⟩
  rw [hx.c2]
  rw [h3.c2] at e1
  exact e1
theorem KnowL.data2 {w : World} {x : Nd} {sz : Int} {W : World} (h : KnowL w x sz W) (A : Option Addr) (G : Nat) (hge : (linkN x).size ≤ G) (hbc : BC W A (bytesOf (linkN x))) : KnowL w x sz (W.setCell ⟨w.heap.size + 1, 2, none⟩ (.slice A (linkN x).size G)) ∧ KeepL (w.heap.size + 1) (linkN x) W (W.setCell ⟨w.heap.size + 1, 2, none⟩ (.slice A (linkN x).size G)) ∧ LinkAt (w.heap.size + 1) (linkN x) (W.setCell ⟨w.heap.size + 1, 2, none⟩ (.slice A (linkN x).size G)) := by
  obtain ⟨h1, h2, k, v, h3⟩ := h
  have hx : BoxN (W.setCell ⟨w.heap.size + 1, 2, none⟩ (.slice A (linkN x).size G)) (w.heap.size + 1) k x.f1 (.slice A (linkN x).size G) x.f3 x.f4 := box_setN (i := 2) (.slice A (linkN x).size G) h3
  have hl : LinkAt (w.heap.size + 1) (linkN x) (W.setCell ⟨w.heap.size + 1, 2, none⟩ (.slice A (linkN x).size G)) := ⟨A, G, hx.c2, hge, hbc.keep (keep_N h3 2 _)⟩
  refine ⟨⟨below_N h1 h3 (by omega) 2 _, h2.other (by omega) _, k, _, hx⟩, ⟨keep_N h3 2 _, fun e => ?_, fun _ => hl⟩, hl⟩
  rw [hx.c0]
  rw [h3.c0] at e
  exact e
def rn20 (h : Nat) (s : ByteArray) : Nat → Value → World → Prop
  | 0 => fun v _ => v = .pointer (some ⟨h, 1, none⟩)
  | 1 => fun v _ => v = .string s
  | 2 => fun v W => ∃ (A : Option Addr) (G : Nat), v = .slice A s.size G ∧ s.size ≤ G ∧ BC W A (bytesOf s)
  | 3 => fun v _ => v = .pointer (some ⟨h + 1, 0, none⟩)
  | 4 => fun _ W => W.cell? ⟨h + 1, 0, none⟩ = some (.int .i64 3)
  | 5 => fun v _ => v = .pointer (some ⟨h + 1, 2, none⟩)
  | 6 => fun _ W => LinkAt (h + 1) s W
  | _ => fun _ _ => True
theorem rn20_mono (h : Nat) (s : ByteArray) : ∀ i v W W', KeepL (h + 1) s W W' → rn20 h s i v W → rn20 h s i v W'
  | 0, _, _, _, _ => id
  | 1, _, _, _, _ => id
  | 2, _, _, _, hk => fun ⟨A, G, e, hl, hb⟩ => ⟨A, G, e, hl, hb.keep hk.1⟩
  | 3, _, _, _, _ => id
  | 4, _, _, _, hk => hk.2.1
  | 5, _, _, _, _ => id
  | 6, _, _, _, hk => hk.2.2
  | _ + 7, _, _, _, _ => id
theorem link_box {w : World} {x : Nd} {sz : Int} {W : World} (h : KnowL w x sz W) (h0 : W.cell? ⟨w.heap.size + 1, 0, none⟩ = some (.int .i64 3)) (h2 : LinkAt (w.heap.size + 1) (linkN x) W) : ∃ (A : Option Addr) (G : Nat), (linkN x).size ≤ G ∧ BC W A (bytesOf (linkN x)) ∧ BoxN W (w.heap.size + 1) 3 x.f1 (.slice A (linkN x).size G) x.f3 x.f4 := by
  obtain ⟨_, _, k, v, h3⟩ := h
  obtain ⟨A, G, e1, e2, e3⟩ := h2
  rw [h3.c0] at h0
  rw [h3.c2] at e1
  obtain rfl : k = 3 := by injection h0 with e; injection e
  obtain rfl : v = .slice A (linkN x).size G := Option.some.inj e1
  exact ⟨A, G, e2, e3, h3⟩
theorem five_box {w W : World} {g h : Nat} {k : Int} {p : ByteArray} {v : Value} {m t : Int} {hd : Hd} (hx : BoxN W g k p v m t) (hh : BoxH W h hd) (hne : h ≠ g) (hb : Below w.heap.size w W) (hg : w.heap.size ≤ g) (k' : Int) (p' : ByteArray) (v' : Value) (m' t' : Int) :
    BoxN (((((W.setCell ⟨g, 0, none⟩ (.int .i64 k')).setCell ⟨g, 1, none⟩ (.string p')).setCell ⟨g, 2, none⟩ v').setCell ⟨g, 3, none⟩ (.int .i64 m')).setCell ⟨g, 4, none⟩ (.int .i64 t')) g k' p' v' m' t' ∧
    BoxH (((((W.setCell ⟨g, 0, none⟩ (.int .i64 k')).setCell ⟨g, 1, none⟩ (.string p')).setCell ⟨g, 2, none⟩ v').setCell ⟨g, 3, none⟩ (.int .i64 m')).setCell ⟨g, 4, none⟩ (.int .i64 t')) h hd ∧
    Below w.heap.size w (((((W.setCell ⟨g, 0, none⟩ (.int .i64 k')).setCell ⟨g, 1, none⟩ (.string p')).setCell ⟨g, 2, none⟩ v').setCell ⟨g, 3, none⟩ (.int .i64 m')).setCell ⟨g, 4, none⟩ (.int .i64 t')) ∧
    ∀ A xs, BC W A xs → BC (((((W.setCell ⟨g, 0, none⟩ (.int .i64 k')).setCell ⟨g, 1, none⟩ (.string p')).setCell ⟨g, 2, none⟩ v').setCell ⟨g, 3, none⟩ (.int .i64 m')).setCell ⟨g, 4, none⟩ (.int .i64 t')) A xs := by
  have x0 : BoxN (W.setCell ⟨g, 0, none⟩ (.int .i64 k')) g k' p v m t := box_setN (i := 0) _ hx
  have x1 : BoxN _ g k' p' v m t := box_setN (i := 1) (.string p') x0
  have x2 : BoxN _ g k' p' v' m t := box_setN (i := 2) v' x1
  have x3 : BoxN _ g k' p' v' m' t := box_setN (i := 3) (.int .i64 m') x2
  have x4 : BoxN _ g k' p' v' m' t' := box_setN (i := 4) (.int .i64 t') x3
  refine ⟨x4, ?_, ?_, fun A xs hB => ?_⟩
  · exact ((((hh.other (fun e => hne e.symm) _).other (fun e => hne e.symm) _).other (fun e => hne e.symm) _).other (fun e => hne e.symm) _).other (fun e => hne e.symm) _
  · exact below_N (below_N (below_N (below_N (below_N hb hx hg 0 _) x0 hg 1 _) x1 hg 2 _) x2 hg 3 _) x3 hg 4 _
  · exact ((((hB.keep (keep_N hx 0 _)).keep (keep_N x0 1 _)).keep (keep_N x1 2 _)).keep (keep_N x2 3 _)).keep (keep_N x3 4 _)
def NodePost (x : Nd) (w : World) (e : Ending) (w' : World) : Prop := ∃ (A : Option Addr) (c : Nat), e = .returned (.tuple #[.agg #[.int .i64 x.f0, .string x.f1, .slice A x.f2.length c, .int .i64 x.f3, .int .i64 x.f4], .int .i64 0]) ∧ x.f2.length ≤ c ∧ Hid (BC w' A x.f2) ∧ Hid (Below w.heap.size w w')
set_option maxRecDepth 100000 in
set_option maxHeartbeats 8000000 in
theorem node_calls (x : Nd) (hv : validB x.f1 = true) (hmay : mayB x = true) (hby : ∀ b ∈ x.f2, 0 ≤ b ∧ b ≤ 255) (w : World) (g : Nat) (m : Option Nat) (hm : w.cell? ⟨g, 3, none⟩ = some (.map m)) (hd : Hd) (A : Option Addr) (c : Nat) (hC : (Kd.int .u8).C w A (dataN x).length (dataN x)) (hc : (dataN x).length ≤ c)
    (s1 s2 s3 : ByteArray) (b1 b2 b3 : Bool)
    (hl1 : ∀ W, Below w.heap.size w W → (Instr.lookup 45 (.map m) (.string ⟨#[112, 97, 116, 104]⟩) true).run Tryz.prog W = .ok (.tuple #[.string s1, .bool b1]) W)
    (hl2 : ∀ W, Below w.heap.size w W → (Instr.lookup 45 (.map m) (.string ⟨#[108, 105, 110, 107, 112, 97, 116, 104]⟩) true).run Tryz.prog W = .ok (.tuple #[.string s2, .bool b2]) W)
    (hl3 : ∀ W, Below w.heap.size w W → (Instr.lookup 45 (.map m) (.string ⟨#[109, 116, 105, 109, 101]⟩) true).run Tryz.prog W = .ok (.tuple #[.string s3, .bool b3]) W)
    (e1 : (if b1 then s1 else hd.name) = nameN x) (e2 : (if b2 then s2 else hd.link) = linkN x) (e3 : (if b3 then (rdec s3.data.toList).1 else hd.time) = x.f4) (z3 : s3.size ≤ 10000) (e4 : hd.mode = x.f3) (e5 : hd.kind = kindN x) (hL : Laid w) :
    Calls Tryz.prog 44 #[.pointer (some ⟨g, 0, none⟩), .agg #[.string hd.name, .string hd.link, .int .i64 hd.mode, .int .i64 hd.size, .int .i64 hd.time, .int .u8 hd.kind], .slice A (dataN x).length c] w (NodePost x w) := by
  obtain ⟨wb, hwb⟩ : ∃ wb, wb = (w.alloc (.cells #[.string hd.name, .string hd.link, .int .i64 hd.mode, .int .i64 hd.size, .int .i64 hd.time, .int .u8 hd.kind] 50)).alloc (.cells #[.int .i64 0, .string ⟨#[]⟩, .slice none 0 0, .int .i64 0, .int .i64 0] 31) := ⟨_, rfl⟩
  have hbb : Below w.heap.size w wb := by rw [hwb]; exact balloc (balloc (Below.refl _ _) _) _
  have hx1 : BoxH wb w.heap.size hd := by rw [hwb]; exact BoxH.below (heap_alloc_new w _) (balloc (Below.refl _ _) _)
  have hx2 : BoxN wb (w.heap.size + 1) 0 ⟨#[]⟩ (.slice none 0 0) 0 0 := by
    have h := heap_alloc_new (w.alloc (.cells #[.string hd.name, .string hd.link, .int .i64 hd.mode, .int .i64 hd.size, .int .i64 hd.time, .int .u8 hd.kind] 50)) (.cells #[.int .i64 0, .string ⟨#[]⟩, .slice none 0 0, .int .i64 0, .int .i64 0] 31)
    rw [World.size_alloc] at h
    rw [hwb]
    exact h
  have HB := Lib.hid hbb
  have HX1 := Lib.hid hx1
  have HX2 := Lib.hid hx2
  have HW := Lib.hid hwb
  have HL := Lib.hid hL
  have HC := Lib.hid hC
  have HM := Lib.hid (fun W (hb : Below w.heap.size w W) => bkeep hb hm)
  have L1 := Lib.hid hl1
  have L2 := Lib.hid hl2
  have L3 := Lib.hid hl3
  have E1 := Lib.hid e1
  have E2 := Lib.hid e2
  have E3 := Lib.hid e3
  have E4 := Lib.hid e4
  have E5 := Lib.hid e5
  have HV := Lib.hid hv
  have HMY := Lib.hid hmay
  have HBY := Lib.hid hby
  clear hwb hbb hx1 hx2 hL hC hm hl1 hl2 hl3 e1 e2 e3 e4 e5 hv hmay hby
  go_enter Tryz.func44, Tryz.ntmps44
  go_upto_region 1 with fail
  rw [← HW.out]
  have c3 := HM.out wb HB.out
  have l1 := L1.out wb HB.out
  go_upto_if 25 with (fail)
  go_cut [] (fun w1 => Hid (BoxH w1 w.heap.size ⟨nameN x, hd.link, hd.mode, hd.size, hd.time, hd.kind⟩) ∧ Hid (BoxN w1 (w.heap.size + 1) 0 ⟨#[]⟩ (.slice none 0 0) 0 0) ∧ Hid (Below w.heap.size w w1))
  · have y0 := HX1.out.c0
    have z0 := HX1.out.free 0
    cases b1 with
    | true =>
      have HE := Lib.hid (show s1 = nameN x by have := E1.out; simpa using this)
      go_wp2_with fail
      go_meet
      refine ⟨?_, Lib.hid (HX2.out.other (by omega) _), Lib.hid (set_below (i := 0) HB.out _ HX1.out (Nat.le_refl _))⟩
      have h := box_set (i := 0) (.string s1) HX1.out
      rw [HE.out] at h ⊢
      exact Lib.hid h
    | false =>
      have HE := Lib.hid (show hd.name = nameN x by have := E1.out; simpa using this)
      go_wp2_with fail
      go_meet
      refine ⟨?_, HX2, HB⟩
      rw [← HE.out]
      exact HX1
  obtain ⟨HX3, HX4, HB3⟩ := hcut
  obtain ⟨w1, rfl⟩ : ∃ w1 : World, w1 = wc := ⟨_, rfl⟩
  clear c3 l1 HX1 HX2 HB
  have c3 := HM.out w1 HB3.out
  have l2 := L2.out w1 HB3.out
  go_upto_if 36 with (fail)
  go_cut [] (fun w2 => Hid (BoxH w2 w.heap.size ⟨nameN x, linkN x, hd.mode, hd.size, hd.time, hd.kind⟩) ∧ Hid (BoxN w2 (w.heap.size + 1) 0 ⟨#[]⟩ (.slice none 0 0) 0 0) ∧ Hid (Below w.heap.size w w2))
  · have y0 := HX3.out.c1
    have z0 := HX3.out.free 1
    cases b2 with
    | true =>
      have HE := Lib.hid (show s2 = linkN x by have := E2.out; simpa using this)
      go_wp2_with fail
      go_meet
      refine ⟨?_, Lib.hid (HX4.out.other (by omega) _), Lib.hid (set_below (i := 1) HB3.out _ HX3.out (Nat.le_refl _))⟩
      have h := box_set (i := 1) (.string s2) HX3.out
      rw [HE.out] at h ⊢
      exact Lib.hid h
    | false =>
      have HE := Lib.hid (show hd.link = linkN x by have := E2.out; simpa using this)
      go_wp2_with fail
      go_meet
      refine ⟨?_, HX4, HB3⟩
      rw [← HE.out]
      exact HX3
  obtain ⟨HX5, HX6, HB5⟩ := hcut
  obtain ⟨w2, rfl⟩ : ∃ w2 : World, w2 = wc := ⟨_, rfl⟩
  clear c3 l2 HX3 HX4 HB3
  have c3 := HM.out w2 HB5.out
  have l3 := L3.out w2 HB5.out
  go_upto_if 47 with (fail)
  go_cut [] (fun w3 => Hid (BoxH w3 w.heap.size ⟨nameN x, linkN x, x.f3, hd.size, x.f4, kindN x⟩) ∧ Hid (BoxN w3 (w.heap.size + 1) 0 ⟨#[]⟩ (.slice none 0 0) 0 0) ∧ Hid (Below w.heap.size w w3))
  · have E4' := E4.out
    have E5' := E5.out
    have HX7 := Lib.hid (show BoxH w2 w.heap.size ⟨nameN x, linkN x, x.f3, hd.size, hd.time, kindN x⟩ by rw [← E4', ← E5']; exact HX5.out)
    clear E4' E5'
    cases b3 with
    | true =>
      have HE := Lib.hid (show (rdec s3.data.toList).1 = x.f4 by have := E3.out; simpa using this)
      have HRD := Lib.hid (read_calls s3 (by omega) w2 (HL.out.below HB5.out))
      rw [HE.out] at HRD
      generalize (rdec s3.data.toList).2 = rb at *
      have HFZ := Lib.hid (fun W (hb : Below w2.heap.size w2 W) => And.intro (HX7.out.below hb).c4 ((HX7.out.below hb).free 4))
      go_wp2_with (go_at_call 43; refine HRD.out.mono ?_; rintro e w3 ⟨rfl, hb3⟩; have HB7 := Lib.hid hb3; obtain ⟨y0, z0⟩ := HFZ.out w3 hb3; clear hb3)
      go_meet
      have h := box_set (i := 4) (.int .i64 x.f4) (HX7.out.below HB7.out)
      exact ⟨Lib.hid h, Lib.hid ((HX6.out.below HB7.out).other (by omega) _), Lib.hid (set_below (i := 4) (bgo HB5.out HB7.out) _ (HX7.out.below HB7.out) (Nat.le_refl _))⟩
    | false =>
      have HE := Lib.hid (show hd.time = x.f4 by have := E3.out; simpa using this)
      go_wp2_with fail
      go_meet
      refine ⟨?_, HX6, HB5⟩
      rw [← HE.out]
      exact HX7
  obtain ⟨HX7, HX8, HB7⟩ := hcut
  obtain ⟨w3, rfl⟩ : ∃ w3 : World, w3 = wc := ⟨_, rfl⟩
  clear c3 l3 HX5 HX6 HB5 L1 L2 L3 E1 E2 E3 E4 E5 HM z3
  obtain ⟨fb, hfb⟩ : ∃ fb, fb = decide (x.f0 = 1) := ⟨_, rfl⟩
  have HRN := Lib.hid (readN_calls x HV.out w3)
  rw [← hfb] at HRN
  have HFB := Lib.hid hfb
  clear hfb
  have y0 := HX7.out.c0
  go_upto_region 13 with (go_at_call 71; refine HRN.out.mono ?_; rintro e w4 ⟨rfl, hb4⟩)
  have HX9 := Lib.hid (HX7.out.below hb4)
  have HXA := Lib.hid (HX8.out.below hb4)
  have HBA := Lib.hid (bgo HB7.out hb4)
  clear y0 hb4 HX7 HX8 HB7 HRN
  have y5 := HX9.out.c5
  have hkd : (x.f0 = 1 ∧ kindN x = 53) ∨ (x.f0 ≠ 1 ∧ (x.f0 = 3 ∧ kindN x = 50 ∨ x.f0 = 2 ∧ kindN x = 48)) := by
    have := (may_facts x HMY.out).2.2.2.2.2.2.1
    unfold kindN
    rcases this with h | h | h <;> rw [h] <;> simp
  have HKD := Lib.hid hkd
  go_cut [66] (fun v w5 => v = .bool false ∧ w4 = w5)
  · cases fb with
    | true =>
      have h2 : kindN x = 53 := by
        have h := of_decide_eq_true HFB.out.symm
        rcases hkd with ⟨_, h2⟩ | ⟨h1, _⟩
        · exact h2
        · exact absurd h h1
      rw [h2] at y5
      clear hkd h2
      go_wp2_with fail
      go_meet
      exact ⟨rfl, rfl⟩
    | false =>
      clear hkd
      go_wp2_with fail
      go_meet
      exact ⟨rfl, rfl⟩
  obtain ⟨rfl, rfl⟩ := hcut
  clear hkd
  clear y5
  have HCL := Lib.hid (Kd.C_below HC.out HBA.out)
  have hdl := (may_facts x HMY.out).2.2.2.2.2.1
  have m0 := (may_facts x HMY.out).1
  have m1 := (may_facts x HMY.out).2.1
  have hand : bits .and .i64 x.f3 4095 = x.f3 := and_4095 x.f3 m0 m1
  have HBC := Lib.hid (fun W (hb : Below w4.heap.size w4 W) => (show Calls Tryz.prog 53 #[.slice A (dataN x).length c] W (fun e w6 => ∃ (A3 : Option Addr) (c3 : Nat), e = .returned (.slice A3 (dataN x).length c3) ∧ (dataN x).length ≤ c3 ∧ Hid (BC w6 A3 (dataN x)) ∧ (w6.cell? ⟨w.heap.size, 2, none⟩ = some (.int .i64 x.f3) ∧ w6.cell? ⟨w.heap.size, 4, none⟩ = some (.int .i64 x.f4)) ∧ (w6.cell? ⟨w.heap.size + 1, 0, none⟩ = some (.int .i64 0) ∧ w6.cell? ⟨w.heap.size + 1, 1, none⟩ = some (.string ⟨#[]⟩) ∧ w6.cell? ⟨w.heap.size + 1, 2, none⟩ = some (.slice none 0 0) ∧ w6.cell? ⟨w.heap.size + 1, 3, none⟩ = some (.int .i64 0) ∧ w6.cell? ⟨w.heap.size + 1, 4, none⟩ = some (.int .i64 0)) ∧ (w6.frozen? ⟨w.heap.size + 1, 0, none⟩ = false ∧ w6.frozen? ⟨w.heap.size + 1, 1, none⟩ = false ∧ w6.frozen? ⟨w.heap.size + 1, 2, none⟩ = false ∧ w6.frozen? ⟨w.heap.size + 1, 3, none⟩ = false ∧ w6.frozen? ⟨w.heap.size + 1, 4, none⟩ = false) ∧ Hid (BoxN w6 (w.heap.size + 1) 0 ⟨#[]⟩ (.slice none 0 0) 0 0) ∧ Hid (Below w4.heap.size w4 w6)) from
    (bclone_calls A c (dataN x) W (Kd.C_below HCL.out hb) (by omega)).mono fun e w6 ⟨v, he, hR, hb6⟩ => by
      obtain ⟨A3, c3, rfl, hl3, _⟩ := Kd.R_reads hR
      exact ⟨A3, c3, he, hl3, Lib.hid (BC.of_R hR), ⟨((HX9.out.below hb).below hb6).c2, ((HX9.out.below hb).below hb6).c4⟩, ⟨((HXA.out.below hb).below hb6).c0, ((HXA.out.below hb).below hb6).c1, ((HXA.out.below hb).below hb6).c2, ((HXA.out.below hb).below hb6).c3, ((HXA.out.below hb).below hb6).c4⟩, ⟨((HXA.out.below hb).below hb6).free 0, ((HXA.out.below hb).below hb6).free 1, ((HXA.out.below hb).below hb6).free 2, ((HXA.out.below hb).below hb6).free 3, ((HXA.out.below hb).below hb6).free 4⟩, Lib.hid ((HXA.out.below hb).below hb6), Lib.hid (bgo hb hb6)⟩))
  have y2 := HX9.out.c2
  have y4 := HX9.out.c4
  have x0 := HXA.out.c0
  have x1 := HXA.out.c1
  have x2 := HXA.out.c2
  have x3 := HXA.out.c3
  have x4 := HXA.out.c4
  have z0 := HXA.out.free 0
  have z1 := HXA.out.free 1
  have z2 := HXA.out.free 2
  have z3 := HXA.out.free 3
  have z4 := HXA.out.free 4
  go_upto_region 15 with (fail)
  go_cut [] (fun w7 => ∃ A3 c3, (dataN x).length ≤ c3 ∧ Hid (BC w7 A3 (dataN x)) ∧ Hid (BoxH w7 w.heap.size ⟨nameN x, linkN x, x.f3, hd.size, x.f4, kindN x⟩) ∧ Hid (BoxN w7 (w.heap.size + 1) 2 x.f1 (.slice A3 (dataN x).length c3) x.f3 x.f4) ∧ Hid (Below w.heap.size w w7))
  · go_region_held3 (fun w' => w'.cell? ⟨w.heap.size, 2, none⟩ = some (.int .i64 x.f3) ∧ w'.cell? ⟨w.heap.size, 4, none⟩ = some (.int .i64 x.f4)) (go_keep) ((go_at_call 53; refine (HBC.out _ (by first | exact Below.refl _ _ | exact bdrew (Below.refl _ _))).mono ?_; rintro e w6 ⟨A3, c3, rfl, hl3, HBC3, ⟨i2, i4⟩, ⟨n0, n1, n2, n3, n4⟩, ⟨f0, f1, f2, f3, f4⟩, HXN, HB6⟩))
    have HFV := Lib.hid (five_box HXN.out (HX9.out.below HB6.out) (show w.heap.size ≠ w.heap.size + 1 by omega) (bgo HBA.out HB6.out) (by omega) 2 x.f1 (.slice A3 (dataN x).length c3) x.f3 x.f4)
    clear i2 i4 n0 n1 n2 n3 n4 f0 f1 f2 f3 f4
    go_wp2_with fail
    go_meet
    exact ⟨A3, c3, hl3, Lib.hid (HFV.out.2.2.2 _ _ HBC3.out), Lib.hid HFV.out.2.1, Lib.hid HFV.out.1, Lib.hid HFV.out.2.2.1⟩
  obtain ⟨A3, c3, hl3, HBC7, HXH, HXN, HB7⟩ := hcut
  obtain ⟨w7, rfl⟩ : ∃ w7 : World, w7 = wc := ⟨_, rfl⟩
  clear y2 y4 x0 x1 x2 x3 x4 z0 z1 z2 z3 z4 hand HBC HCL HXA HX9 HBA
  have y5 := HXH.out.c5
  have y1 := HXH.out.c1
  have n0 := HXN.out.c0
  have n2 := HXN.out.c2
  have z0 := HXN.out.free 0
  have z2 := HXN.out.free 2
  have hMF := may_facts x HMY.out
  have HMF := Lib.hid hMF
  clear hMF
  go_upto_block 1 with (fail)
  go_cut [] (fun w8 => ∃ A8 c8, x.f2.length ≤ c8 ∧ Hid (BC w8 A8 x.f2) ∧ Hid (BoxN w8 (w.heap.size + 1) x.f0 x.f1 (.slice A8 x.f2.length c8) x.f3 x.f4) ∧ Hid (Below w.heap.size w w8))
  · rcases HKD.out with ⟨h1, h2⟩ | ⟨h1, ⟨h2, h3⟩ | ⟨h2, h3⟩⟩
    · have hq1 : (kindN x == 53) = true := by rw [h2]; rfl
      have HH := Lib.hid (And.intro h1 (And.intro (HMF.out.2.2.2.2.2.2.2.1 h1) (show dataN x = [] by unfold dataN; rw [if_pos (.inl h1)])))
      clear h1 h2
      go_wp2_with fail
      go_meet
      have hbn := box_setN (i := 0) (.int .i64 1) HXN.out
      rw [HH.out.2.2] at hbn hl3 HBC7
      rw [HH.out.1, HH.out.2.1]
      exact ⟨A3, c3, hl3, Lib.hid (HBC7.out.keep (keep_N HXN.out 0 _)), Lib.hid hbn, Lib.hid (below_N HB7.out HXN.out (by omega) 0 _)⟩
    · have hq1 : (kindN x == 53) = false := by rw [h3]; rfl
      have hq2 : (kindN x == 50) = true := by rw [h3]; rfl
      have HH := Lib.hid (And.intro h2 (HMF.out.2.2.2.2.2.2.2.2 h2))
      have HLK := Lib.hid (show bytesOf (linkN x) = x.f2 by unfold linkN; rw [if_pos h2]; exact Oct.bytes_back x.f2 HBY.out)
      clear h1 h2 h3
      go_upto_region 20 with (fail)
      -- REGION 20
      refine region_J (by kernel_rfl) (KnowL w x hd.size) (KeepL (w.heap.size + 1) (linkN x)) (fun us => (⟨#[.pointer (some ⟨g, 0, none⟩), .agg #[.string hd.name, .string hd.link, .int .i64 hd.mode, .int .i64 hd.size, .int .i64 hd.time, .int .u8 hd.kind], .slice A (dataN x).length c, undef, .pointer (some ⟨w.heap.size, 0, none⟩), undef, .pointer (some ⟨w.heap.size + 1, 0, none⟩), .int .i64 0, .string s1, .bool b1, .string s2, .bool b2, .string s3, .bool b3, .string x.f1, .bool fb, .int .i64 0, u17, u18, u19, u20, u21, u22, u23, u24, u25, u26, u27, u28, u29, u30, u31, u32, u33, u34, u35, u36, u37, u38, u39, u40, u41, u42, u43, u44, u45, u46, u47, u48, u49, u50, u51, u52, u53, u54, u55, u56, u57, u58, u59, u60, .bool false, u62, u63, u64, u65, .bool false, u67, u68, u69, u70, u71, u72, u73, u74, u75, u76, u77, u78, u79, u80, u81, u82, .pointer (some ⟨w.heap.size, 5, none⟩), .int .u8 (kindN x), .bool false, .bool false, u87, .bool true, .bool true, us 0, us 1, us 2, us 3, us 5, u95], []⟩ : Act)) (rn20 w.heap.size (linkN x)) (fun i => [u90, u91, u92, u93, undef, u94, undef].getD i undef) (fun i v W W' _ _ hG hT => rn20_mono _ _ i v W W' hG hT) ?_ (deps_any (by kernel_rfl)).1 (deps_any (by kernel_rfl)).2 ⟨bdrew HB7.out, HXH.out.drew, 2, _, HXN.out⟩ ?_ ?_
      · intro i o ho us v
        iterate 7
          rcases i with _ | i
          · obtain rfl := Option.some.inj ho
            rfl
        cases ho
      · intro i o ho us w2 hb hdep K hK
        rcases i with _ | i
        · obtain rfl := Option.some.inj ho
          clear ho
          show wpList _ _ _ _ (⟨#[.pointer (some ⟨g, 0, none⟩), .agg #[.string hd.name, .string hd.link, .int .i64 hd.mode, .int .i64 hd.size, .int .i64 hd.time, .int .u8 hd.kind], .slice A (dataN x).length c, undef, .pointer (some ⟨w.heap.size, 0, none⟩), undef, .pointer (some ⟨w.heap.size + 1, 0, none⟩), .int .i64 0, .string s1, .bool b1, .string s2, .bool b2, .string s3, .bool b3, .string x.f1, .bool fb, .int .i64 0, u17, u18, u19, u20, u21, u22, u23, u24, u25, u26, u27, u28, u29, u30, u31, u32, u33, u34, u35, u36, u37, u38, u39, u40, u41, u42, u43, u44, u45, u46, u47, u48, u49, u50, u51, u52, u53, u54, u55, u56, u57, u58, u59, u60, .bool false, u62, u63, u64, u65, .bool false, u67, u68, u69, u70, u71, u72, u73, u74, u75, u76, u77, u78, u79, u80, u81, u82, .pointer (some ⟨w.heap.size, 5, none⟩), .int .u8 (kindN x), .bool false, .bool false, u87, .bool true, .bool true, us 0, us 1, us 2, us 3, us 5, u95], []⟩ : Act) w2
          go_wp2
          exact hK _ _ hb (KeepL.refl _ _ _) rfl
        rcases i with _ | i
        · obtain rfl := Option.some.inj ho
          clear ho
          have y1 := hb.2.1.c1
          obtain ⟨us, rfl⟩ : ∃ us', us = upd 0 (.pointer (some ⟨w.heap.size, 1, none⟩)) us' := ⟨us, upd_eq (hdep { on := 0, ground := .data } (by simp) rfl)⟩
          show wpList _ _ _ _ (⟨#[.pointer (some ⟨g, 0, none⟩), .agg #[.string hd.name, .string hd.link, .int .i64 hd.mode, .int .i64 hd.size, .int .i64 hd.time, .int .u8 hd.kind], .slice A (dataN x).length c, undef, .pointer (some ⟨w.heap.size, 0, none⟩), undef, .pointer (some ⟨w.heap.size + 1, 0, none⟩), .int .i64 0, .string s1, .bool b1, .string s2, .bool b2, .string s3, .bool b3, .string x.f1, .bool fb, .int .i64 0, u17, u18, u19, u20, u21, u22, u23, u24, u25, u26, u27, u28, u29, u30, u31, u32, u33, u34, u35, u36, u37, u38, u39, u40, u41, u42, u43, u44, u45, u46, u47, u48, u49, u50, u51, u52, u53, u54, u55, u56, u57, u58, u59, u60, .bool false, u62, u63, u64, u65, .bool false, u67, u68, u69, u70, u71, u72, u73, u74, u75, u76, u77, u78, u79, u80, u81, u82, .pointer (some ⟨w.heap.size, 5, none⟩), .int .u8 (kindN x), .bool false, .bool false, u87, .bool true, .bool true, .pointer (some ⟨w.heap.size, 1, none⟩), us 1, us 2, us 3, us 5, u95], []⟩ : Act) w2
          go_wp2
          exact hK _ _ hb (KeepL.refl _ _ _) rfl
        rcases i with _ | i
        · obtain rfl := Option.some.inj ho
          clear ho
          have hcv := fun (W : World) => run_bytes_of_string (P := Tryz.prog) W 9 23 5 (linkN x) Tryz.underlying9 Tryz.underlying23 Tryz.underlying5
          obtain ⟨us, rfl⟩ : ∃ us', us = upd 1 (.string (linkN x)) us' := ⟨us, upd_eq (hdep { on := 1, ground := .data } (by simp) rfl)⟩
          show wpList _ _ _ _ (⟨#[.pointer (some ⟨g, 0, none⟩), .agg #[.string hd.name, .string hd.link, .int .i64 hd.mode, .int .i64 hd.size, .int .i64 hd.time, .int .u8 hd.kind], .slice A (dataN x).length c, undef, .pointer (some ⟨w.heap.size, 0, none⟩), undef, .pointer (some ⟨w.heap.size + 1, 0, none⟩), .int .i64 0, .string s1, .bool b1, .string s2, .bool b2, .string s3, .bool b3, .string x.f1, .bool fb, .int .i64 0, u17, u18, u19, u20, u21, u22, u23, u24, u25, u26, u27, u28, u29, u30, u31, u32, u33, u34, u35, u36, u37, u38, u39, u40, u41, u42, u43, u44, u45, u46, u47, u48, u49, u50, u51, u52, u53, u54, u55, u56, u57, u58, u59, u60, .bool false, u62, u63, u64, u65, .bool false, u67, u68, u69, u70, u71, u72, u73, u74, u75, u76, u77, u78, u79, u80, u81, u82, .pointer (some ⟨w.heap.size, 5, none⟩), .int .u8 (kindN x), .bool false, .bool false, u87, .bool true, .bool true, us 0, .string (linkN x), us 2, us 3, us 5, u95], []⟩ : Act) w2
          go_wp2
          have hge := grownCap_ge w2 (linkN x).size 0 5
          generalize grownCap w2 (linkN x).size 0 5 = G at *
          have HCR := conv_both w2 (linkN x) G (bytesRow (linkN x) G).size (by have := HMF.out.2.2.2.2.1; omega)
          exact hK _ _ (hb.below HCR.2) (KeepL.below _ _ HCR.2) ⟨_, G, rfl, hge, HCR.1⟩
        rcases i with _ | i
        · obtain rfl := Option.some.inj ho
          clear ho
          show wpList _ _ _ _ (⟨#[.pointer (some ⟨g, 0, none⟩), .agg #[.string hd.name, .string hd.link, .int .i64 hd.mode, .int .i64 hd.size, .int .i64 hd.time, .int .u8 hd.kind], .slice A (dataN x).length c, undef, .pointer (some ⟨w.heap.size, 0, none⟩), undef, .pointer (some ⟨w.heap.size + 1, 0, none⟩), .int .i64 0, .string s1, .bool b1, .string s2, .bool b2, .string s3, .bool b3, .string x.f1, .bool fb, .int .i64 0, u17, u18, u19, u20, u21, u22, u23, u24, u25, u26, u27, u28, u29, u30, u31, u32, u33, u34, u35, u36, u37, u38, u39, u40, u41, u42, u43, u44, u45, u46, u47, u48, u49, u50, u51, u52, u53, u54, u55, u56, u57, u58, u59, u60, .bool false, u62, u63, u64, u65, .bool false, u67, u68, u69, u70, u71, u72, u73, u74, u75, u76, u77, u78, u79, u80, u81, u82, .pointer (some ⟨w.heap.size, 5, none⟩), .int .u8 (kindN x), .bool false, .bool false, u87, .bool true, .bool true, us 0, us 1, us 2, us 3, us 5, u95], []⟩ : Act) w2
          go_wp2
          exact hK _ _ hb (KeepL.refl _ _ _) rfl
        rcases i with _ | i
        · obtain rfl := Option.some.inj ho
          clear ho
          have HSN := Lib.hid (hb.kind3 (s := linkN x))
          obtain ⟨kk, vv, hn⟩ := hb.2.2
          have n0 := hn.c0
          have z0 := hn.free 0
          obtain ⟨us, rfl⟩ : ∃ us', us = upd 3 (.pointer (some ⟨w.heap.size + 1, 0, none⟩)) us' := ⟨us, upd_eq (hdep { on := 3, ground := .data } (by simp) rfl)⟩
          clear hn hdep
          show wpList _ _ _ _ (⟨#[.pointer (some ⟨g, 0, none⟩), .agg #[.string hd.name, .string hd.link, .int .i64 hd.mode, .int .i64 hd.size, .int .i64 hd.time, .int .u8 hd.kind], .slice A (dataN x).length c, undef, .pointer (some ⟨w.heap.size, 0, none⟩), undef, .pointer (some ⟨w.heap.size + 1, 0, none⟩), .int .i64 0, .string s1, .bool b1, .string s2, .bool b2, .string s3, .bool b3, .string x.f1, .bool fb, .int .i64 0, u17, u18, u19, u20, u21, u22, u23, u24, u25, u26, u27, u28, u29, u30, u31, u32, u33, u34, u35, u36, u37, u38, u39, u40, u41, u42, u43, u44, u45, u46, u47, u48, u49, u50, u51, u52, u53, u54, u55, u56, u57, u58, u59, u60, .bool false, u62, u63, u64, u65, .bool false, u67, u68, u69, u70, u71, u72, u73, u74, u75, u76, u77, u78, u79, u80, u81, u82, .pointer (some ⟨w.heap.size, 5, none⟩), .int .u8 (kindN x), .bool false, .bool false, u87, .bool true, .bool true, us 0, us 1, us 2, .pointer (some ⟨w.heap.size + 1, 0, none⟩), us 5, u95], []⟩ : Act) w2
          go_wp2
          exact hK undef _ HSN.out.1 HSN.out.2.1 HSN.out.2.2
        rcases i with _ | i
        · obtain rfl := Option.some.inj ho
          clear ho
          show wpList _ _ _ _ (⟨#[.pointer (some ⟨g, 0, none⟩), .agg #[.string hd.name, .string hd.link, .int .i64 hd.mode, .int .i64 hd.size, .int .i64 hd.time, .int .u8 hd.kind], .slice A (dataN x).length c, undef, .pointer (some ⟨w.heap.size, 0, none⟩), undef, .pointer (some ⟨w.heap.size + 1, 0, none⟩), .int .i64 0, .string s1, .bool b1, .string s2, .bool b2, .string s3, .bool b3, .string x.f1, .bool fb, .int .i64 0, u17, u18, u19, u20, u21, u22, u23, u24, u25, u26, u27, u28, u29, u30, u31, u32, u33, u34, u35, u36, u37, u38, u39, u40, u41, u42, u43, u44, u45, u46, u47, u48, u49, u50, u51, u52, u53, u54, u55, u56, u57, u58, u59, u60, .bool false, u62, u63, u64, u65, .bool false, u67, u68, u69, u70, u71, u72, u73, u74, u75, u76, u77, u78, u79, u80, u81, u82, .pointer (some ⟨w.heap.size, 5, none⟩), .int .u8 (kindN x), .bool false, .bool false, u87, .bool true, .bool true, us 0, us 1, us 2, us 3, us 5, u95], []⟩ : Act) w2
          go_wp2
          exact hK _ _ hb (KeepL.refl _ _ _) rfl
        rcases i with _ | i
        · obtain rfl := Option.some.inj ho
          clear ho
          obtain ⟨A2, G2, d2, hge, hbc⟩ := (hdep { on := 2, ground := .data } (by simp) rfl)
          have HSN := Lib.hid (hb.data2 A2 G2 hge hbc)
          obtain ⟨kk, vv, hn⟩ := hb.2.2
          have n2 := hn.c2
          have z2 := hn.free 2
          obtain ⟨us, rfl⟩ : ∃ us', us = upd 5 (.pointer (some ⟨w.heap.size + 1, 2, none⟩)) us' := ⟨us, upd_eq (hdep { on := 5, ground := .data } (by simp) rfl)⟩
          obtain ⟨us, rfl⟩ : ∃ us', us = upd 2 (.slice A2 (linkN x).size G2) us' := ⟨us, upd_eq d2⟩
          clear hn hdep hbc
          show wpList _ _ _ _ (⟨#[.pointer (some ⟨g, 0, none⟩), .agg #[.string hd.name, .string hd.link, .int .i64 hd.mode, .int .i64 hd.size, .int .i64 hd.time, .int .u8 hd.kind], .slice A (dataN x).length c, undef, .pointer (some ⟨w.heap.size, 0, none⟩), undef, .pointer (some ⟨w.heap.size + 1, 0, none⟩), .int .i64 0, .string s1, .bool b1, .string s2, .bool b2, .string s3, .bool b3, .string x.f1, .bool fb, .int .i64 0, u17, u18, u19, u20, u21, u22, u23, u24, u25, u26, u27, u28, u29, u30, u31, u32, u33, u34, u35, u36, u37, u38, u39, u40, u41, u42, u43, u44, u45, u46, u47, u48, u49, u50, u51, u52, u53, u54, u55, u56, u57, u58, u59, u60, .bool false, u62, u63, u64, u65, .bool false, u67, u68, u69, u70, u71, u72, u73, u74, u75, u76, u77, u78, u79, u80, u81, u82, .pointer (some ⟨w.heap.size, 5, none⟩), .int .u8 (kindN x), .bool false, .bool false, u87, .bool true, .bool true, us 0, us 1, .slice A2 (linkN x).size G2, us 3, .pointer (some ⟨w.heap.size + 1, 2, none⟩), u95], []⟩ : Act) w2
          go_wp2
          exact hK undef _ HSN.out.1 HSN.out.2.1 HSN.out.2.2
        cases ho
      · intro us w2 hb hT
        have HK2 := Lib.hid (link_box hb (hT 4 (by show 4 < 7; decide)) (hT 6 (by show 6 < 7; decide)))
        have HBE := Lib.hid hb.1
        clear hT hb
        show Exit.inBlock _ _ Exit.normal (⟨#[.pointer (some ⟨g, 0, none⟩), .agg #[.string hd.name, .string hd.link, .int .i64 hd.mode, .int .i64 hd.size, .int .i64 hd.time, .int .u8 hd.kind], .slice A (dataN x).length c, undef, .pointer (some ⟨w.heap.size, 0, none⟩), undef, .pointer (some ⟨w.heap.size + 1, 0, none⟩), .int .i64 0, .string s1, .bool b1, .string s2, .bool b2, .string s3, .bool b3, .string x.f1, .bool fb, .int .i64 0, u17, u18, u19, u20, u21, u22, u23, u24, u25, u26, u27, u28, u29, u30, u31, u32, u33, u34, u35, u36, u37, u38, u39, u40, u41, u42, u43, u44, u45, u46, u47, u48, u49, u50, u51, u52, u53, u54, u55, u56, u57, u58, u59, u60, .bool false, u62, u63, u64, u65, .bool false, u67, u68, u69, u70, u71, u72, u73, u74, u75, u76, u77, u78, u79, u80, u81, u82, .pointer (some ⟨w.heap.size, 5, none⟩), .int .u8 (kindN x), .bool false, .bool false, u87, .bool true, .bool true, us 0, us 1, us 2, us 3, us 5, u95], []⟩ : Act) w2
        go_wp2_with fail
        go_meet
        obtain ⟨A2, G2, hge, hbc, hbx⟩ := HK2.out
        have hll : x.f2.length = (linkN x).size := by rw [← HLK.out, bytesOf_length]
        rw [hll, ← HLK.out, HH.out.1]
        exact ⟨A2, G2, hge, Lib.hid hbc, Lib.hid hbx, HBE⟩
      -- BEHIND 20
    · have hq1 : (kindN x == 53) = false := by rw [h3]; rfl
      have hq2 : (kindN x == 50) = false := by rw [h3]; rfl
      have HH := Lib.hid (And.intro h2 (show dataN x = x.f2 by unfold dataN; rw [if_neg (by omega)]))
      clear h1 h2 h3
      go_wp2_with fail
      go_meet
      have hbn := HXN.out
      rw [HH.out.2] at hbn hl3 HBC7
      rw [HH.out.1]
      exact ⟨A3, c3, hl3, HBC7, Lib.hid hbn, HB7⟩
  obtain ⟨A8, c8, hl8, HBC8, HX8, HB8⟩ := hcut
  obtain ⟨w8, rfl⟩ : ∃ w8 : World, w8 = wc := ⟨_, rfl⟩
  clear y5 y1 n0 n2 z0 z2 HXH HXN HB7 HBC7 hl3
  have n0 := HX8.out.c0
  have n1 := HX8.out.c1
  have n2 := HX8.out.c2
  have n3 := HX8.out.c3
  have n4 := HX8.out.c4
  have z0 := HX8.out.free 0
  have z1 := HX8.out.free 1
  have z2 := HX8.out.free 2
  have z3 := HX8.out.free 3
  have z4 := HX8.out.free 4
  go_wp2_with fail
  have HFN := Lib.hid (five_N HX8.out HB8.out (by omega) x.f0 x.f1 (.slice A8 x.f2.length c8) x.f3 x.f4)
  clear n0 n1 n2 n3 n4 z0 z1 z2 z3 z4
  revert HFN
  generalize ((((w8.setCell ⟨w.heap.size + 1, 0, none⟩ (.int .i64 x.f0)).setCell ⟨w.heap.size + 1, 1, none⟩ (.string x.f1)).setCell ⟨w.heap.size + 1, 2, none⟩ (.slice A8 x.f2.length c8)).setCell ⟨w.heap.size + 1, 3, none⟩ (.int .i64 x.f3)).setCell ⟨w.heap.size + 1, 4, none⟩ (.int .i64 x.f4) = w9
  intro HFN
  have n0 := HFN.out.1.c0
  have n1 := HFN.out.1.c1
  have n2 := HFN.out.1.c2
  have n3 := HFN.out.1.c3
  have n4 := HFN.out.1.c4
  refine bodyPost_ret (v := .tuple #[.agg #[.int .i64 x.f0, .string x.f1, .slice A8 x.f2.length c8, .int .i64 x.f3, .int .i64 x.f4], .int .i64 0]) (by simp [results, Tryz.results44, go_sem, n0, n1, n2, n3, n4]) rfl ⟨A8, c8, rfl, hl8, Lib.hid (HFN.out.2.2 _ _ HBC8.out), Lib.hid HFN.out.2.1⟩
end Go.Proofs.YtkmjbakiippfpaaGreatDoor.Tar
set_option linter.unusedVariables false
set_option linter.unusedSimpArgs false
namespace Go.Proofs.YtkmjbakiippfpaaGreatDoor.Tar
open Go.RowKit Go.BigFrame Go.Maps Go.Proofs.YtkmjbakiippfpaaGreatDoor.Reg Go.Proofs.YtkmjbakiippfpaaGreatDoor.Rout Go.Proofs.YtkmjbakiippfpaaGreatDoor.Node Go.Proofs.YtkmjbakiippfpaaGreatDoor.Tree Go.Proofs.YtkmjbakiippfpaaGreatDoorW.PrintWords Go.Proofs.YtkmjbakiippfpaaGreatDoorW.PrintLast Go.Proofs.YtkmjbakiippfpaaGreatDoorW.PrintMore
open Go.Proofs.YtkmjbakiippfpaaGreatDoor.Oct (Tz octO)
open Go.Proofs.YtkmjbakiippfpaaGreatDoor.Rec (Laid B read_calls rdec rdec_itoa)
open Go.Lib (itoa)
section
variable {w0 w w' : World} {g b o c : Nat} {ys : List Int} {most : Int} {lv : Value} {l : List Nd} {m : Option Nat}
theorem RdAt.setMost (h : RdAt w0 w g b o c ys most lv l m) (most' : Int) : RdAt w0 (w.setCell ⟨g, 1, none⟩ (.int .i64 most')) g b o c ys most' lv l m :=
  ⟨heap_setCell_same w g 1 _ _ _ h.head, set_below (i := 1) h.below _ h.head h.gb, h.gb, h.bytes, h.byte, h.cap, h.big, h.lenB, h.rowSet 1 _⟩
theorem RdAt.drew (h : RdAt w0 w g b o c ys most lv l m) : RdAt w0 w.drew g b o c ys most lv l m := h.kept (bdrew (Below.refl _ _))
theorem RdAt.putRow {w5 : World} {lv' : Value} {rs : List Raw5} {r : Raw5} {x : Nd} (h : RdAt w0 w g b o c ys most lv l m) (hn : Nodes w rs l) (hg : w.grownBy w5 lv.ownBlock) (hR : kRaw.R 31 w5 w0.heap.size (fun _ => True) lv' (rs ++ [r])) (hx : NodeC w x r.val) :
    RdAt w0 (w5.setCell ⟨g, 2, none⟩ lv') g b o c ys most lv' (l ++ [x]) m := by
  have hM : Mod (fun i => lv.ownBlock = some i) w w5 := Mod.of_grown hg (fun i e => e)
  have hK : Keep8 w w5 := Keep8.mod hM (fun i e cells fr hc => by
    obtain ⟨_, _, cells', hc'⟩ := h.rowT i e
    rw [hc'] at hc
    cases hc)
  have hh : w5.heap[g]? = some (.cells #[.slice (some ⟨b, o, none⟩) ys.length c, .int .i64 most, lv, .map m] 47 (0, 0)) := (hM.block g h.glt h.rowNg).trans h.head
  have hK2 : Keep8 w5 (w5.setCell ⟨g, 2, none⟩ lv') := Keep8.mod (Mod.of_setCell (S := fun k => k = g) w5 ⟨g, 2, none⟩ lv' rfl) (fun k hk cells fr hc => by subst hk; rw [hh] at hc; cases hc)
  have hb5 : Below w0.heap.size w0 w5 := hM.below h.below (fun i e => (h.rowT i e).2.1)
  refine ⟨heap_setCell_same w5 g 2 _ _ _ hh, set_below (i := 2) hb5 _ hh h.gb, h.gb, h.bytes, h.byte, h.cap, h.big, h.lenB, rs ++ [r], R_set hR (fun q cells hc => by rw [hh] at hc; cases hc; decide), ?_⟩
  exact ((hn.snoc hx).keep hK).keep hK2
end
/-! ### the end -/
theorem zero_mem {ys : List Int} (h : zeroB ys = true) (n : Nat) : zeroB (ys.take n) = true := by
  unfold zeroB at *
  rw [List.all_eq_true] at *
  exact fun x hx => h x (List.mem_of_mem_take hx)
theorem end_calls (w0 w : World) (g b o c : Nat) (ys : List Int) (most : Int) (lv : Value) (l : List Nd) (h : RdAt w0 w g b o c ys most lv l none) (hz : zeroB ys = true) :
    Calls Tryz.prog 19 #[.pointer (some ⟨g, 0, none⟩)] w fun e w' => e = .returned (.int .i64 (if ys.length < 1024 then 10 else 0)) ∧ ∃ n, w' = w.drewN n := by
  have c0 := h.c0
  have c3 := h.c3
  have hcap := h.cap
  have hbig := h.big
  have qT : ∀ (w : World) (r : Option Nat), (binOp .neq 45 (.map r) (.map none)).run Tryz.prog w = .ok (.bool !r.isNone) w := fun w r => run_neq_map_nil w _ _ _ r Tryz.underlying45
  by_cases hs : ys.length < 1024
  · rw [if_pos hs]
    clear h hz
    have hs' : ((ys.length : Nat) : Int) < 1024 := by omega
    go_enter Tryz.func19, Tryz.ntmps19
    go_wp2
    go_ret
    exact ⟨rfl, 0, rfl⟩
  · rw [if_neg hs]
    have hs' : ¬ ((ys.length : Nat) : Int) < 1024 := by omega
    have hcut : ∀ W, (Instr.slice 23 (.slice (some ⟨b, o, none⟩) ys.length c) none (some (.int .i64 1024)) none).run Tryz.prog W = .ok (.slice (some ⟨b, o, none⟩) 1024 c) W := Oct.cutT _ ys.length c 1024 (by omega) (by omega)
    have hC := Kd.C_below h.bytes h.below
    have hlen : (ys.take 1024).length = 1024 := by rw [List.length_take]; omega
    have h1 := blank_calls b o c (ys.take 1024) w (Kd.C_take hC (by omega)) (fun x hx => h.byte x (List.mem_of_mem_take hx)) (by omega) (by omega) (by omega)
    rw [hlen, zero_mem hz] at h1
    have H1 := Lib.hid h1
    have H2 := Lib.hid (fun n => (by
      have h2 := blank_calls b o c ys (w.drewN n) (Kd.C_below hC (bdrewN (Below.refl _ _) n)) h.byte (by omega) (by omega) (by omega)
      rw [hz] at h2
      exact h2 : Calls Tryz.prog 15 #[.slice (some ⟨b, o, none⟩) ys.length c] (w.drewN n) fun e w' => e = .returned (.bool true) ∧ ∃ q, w' = (w.drewN n).drewN q))
    clear h hz h1 hC hlen
    go_enter Tryz.func19, Tryz.ntmps19
    go_upto_region 7 with (go_at_call 15; refine H1.out.mono ?_; rintro e w1 ⟨rfl, n1, rfl⟩)
    go_wp2_with (go_at_call 15; refine (H2.out n1).mono ?_; rintro e w1 ⟨rfl, n2, rfl⟩)
    go_ret
    exact ⟨rfl, n1 + n2, by first | rfl | rw [World.drewN_drewN]⟩
/-! ### an entry -/
/-- What is said ahead of x's entry, as it waits. -/
def Waits (w : World) (m : Option Nat) (x : Nd) : Prop := match m with
  | none => pairsN x = []
  | some mb => ∃ n, TAt w mb n (mapS (pairsN x))
theorem waits_look {w W : World} {m : Option Nat} {x : Nd} (h : Waits w m x) (hW : Below w.heap.size w W) (p : ByteArray) (hp : p.size ≤ 140737488351232) :
    (Instr.lookup 45 (.map m) (.string p) true).run Tryz.prog W = .ok (.tuple #[.string ((mapS (pairsN x) p).getD ⟨#[]⟩), .bool (mapS (pairsN x) p).isSome]) W := by
  cases m with
  | none =>
    have e : pairsN x = [] := h
    rw [e]
    exact Maps.look_nil (P := Tryz.prog) (w := W) true key9 Tryz.underlying45 (zeroS W) (Go.WideMaps.keyOf_string_mk (s := p) Tryz.underlying9 (by unfold maxLen; omega))
  | some mb =>
    obtain ⟨n, hT⟩ := h
    have h1 := (hT.below hW).look p hp
    cases hm : mapS (pairsN x) p with
    | none => exact h1.1 hm
    | some v => exact h1.2 v hm
/-- The header of x's entry, as it is read. -/
noncomputable def hdR (x : Nd) : Hd := ⟨B ((nameN x).data.toList.take 100), B ((linkN x).data.toList.take 100), x.f3, ((dataN x).length : Nat), timeN x, kindN x⟩
theorem take_all (s : ByteArray) (h : s.size ≤ 100) : B (s.data.toList.take 100) = s := by
  rw [List.take_of_length_le (by rw [size_data]; exact h), Rec.of_B]
theorem waits_name (x : Nd) : (if (mapS (pairsN x) pathK).isSome then (mapS (pairsN x) pathK).getD ⟨#[]⟩ else (hdR x).name) = nameN x := by
  rw [(pairs_look x).1]
  cases h : longB x with
  | true => rfl
  | false =>
    show B ((nameN x).data.toList.take 100) = nameN x
    refine take_all _ ?_
    unfold longB at h
    rw [Bool.or_eq_false_iff, decide_eq_false_iff_not] at h
    omega
theorem waits_link (x : Nd) : (if (mapS (pairsN x) linkK).isSome then (mapS (pairsN x) linkK).getD ⟨#[]⟩ else (hdR x).link) = linkN x := by
  rw [(pairs_look x).2.1]
  by_cases h : 100 < (linkN x).size
  · rw [if_pos h]; rfl
  · rw [if_neg h]
    exact take_all _ (by omega)
theorem waits_time (x : Nd) (h0 : -1099511627776 ≤ x.f4) (h1 : x.f4 ≤ 1099511627776) : (if (mapS (pairsN x) timeK).isSome then (rdec ((mapS (pairsN x) timeK).getD ⟨#[]⟩).data.toList).1 else (hdR x).time) = x.f4 ∧ ((mapS (pairsN x) timeK).getD ⟨#[]⟩).size ≤ 10000 := by
  rw [(pairs_look x).2.2.1]
  cases h : lateB x with
  | true =>
    refine ⟨?_, ?_⟩
    · show (rdec (B (itoa x.f4)).data.toList).1 = x.f4
      rw [Rec.B_data, rdec_itoa x.f4 (by omega) (by omega)]
    · show (B (itoa x.f4)).size ≤ 10000
      have := lateB_size x h0 h1
      omega
  | false =>
    refine ⟨?_, by show (⟨#[]⟩ : ByteArray).size ≤ 10000; decide⟩
    show timeN x = x.f4
    unfold timeN
    rw [h]
    rfl
def EntryPost (w0 : World) (g b o c : Nat) (ys : List Int) (s : Nat) (most : Int) (l : List Nd) (x : Nd) (e : Ending) (w' : World) : Prop :=
  ∃ lv', e = .returned (.int .i64 0) ∧ RdAt w0 w' g b (o + (s + padN s)) (c - (s + padN s)) (ys.drop (s + padN s)) (most - s) lv' (l ++ [x]) none
theorem infoR : (Tryz.prog.info? 31).map (fun i => (i.zero, i.size, i.bytes)) = some (some (.agg #[.int .i64 0, .string ⟨#[]⟩, .slice none 0 0, .int .i64 0, .int .i64 0]), 5, 64) := infoN
theorem cond_entry (x : Nd) : ((kindN x != 48) && (((dataN x).length : Nat) : Int) != 0) = false := by
  unfold kindN dataN
  by_cases h1 : x.f0 = 1
  · rw [if_pos h1, if_pos (.inl h1)]; rfl
  · by_cases h3 : x.f0 = 3
    · rw [if_neg h1, if_pos h3, if_pos (.inr h3)]; rfl
    · rw [if_neg h1, if_neg h3]; rfl
set_option maxRecDepth 100000 in
set_option maxHeartbeats 8000000 in
theorem entryR_ok (x : Nd) (hv : validB x.f1 = true) (hmay : mayB x = true) (hby : ∀ b ∈ x.f2, 0 ≤ b ∧ b ≤ 255) (w0 w : World) (g b o c : Nat) (ys : List Int) (most : Int) (lv : Value) (l : List Nd) (m : Option Nat) (h : RdAt w0 w g b o c ys most lv l m) (hW : Waits w m x)
    (hs : (dataN x).length + padN (dataN x).length < ys.length) (htk : ys.take (dataN x).length = dataN x) (hr : ((dataN x).length : Int) ≤ most) (hmost : most ≤ 268435456) (hll : l.length ≤ 65536) (hL : Laid w0) :
    Calls Tryz.prog 18 #[.pointer (some ⟨g, 0, none⟩), .agg #[.string (hdR x).name, .string (hdR x).link, .int .i64 (hdR x).mode, .int .i64 (hdR x).size, .int .i64 (hdR x).time, .int .u8 (hdR x).kind]] w (EntryPost w0 g b o c ys (dataN x).length most l x) := by
  obtain ⟨wb, hwb⟩ : ∃ wb, wb = w.alloc (.cells #[.string (hdR x).name, .string (hdR x).link, .int .i64 (hdR x).mode, .int .i64 (hdR x).size, .int .i64 (hdR x).time, .int .u8 (hdR x).kind] 50) := ⟨_, rfl⟩
  have hbb : Below w.heap.size w wb := by rw [hwb]; exact balloc (Below.refl _ _) _
  have hbox : BoxH wb w.heap.size (hdR x) := by rw [hwb]; exact heap_alloc_new _ _
  have HR := Lib.hid (h.kept hbb)
  have HX := Lib.hid hbox
  have HWT := Lib.hid (show Waits wb m x by
    cases m with
    | none => exact hW
    | some mb => obtain ⟨n, hT⟩ := hW; exact ⟨n, hT.below hbb⟩)
  have hgl : g < w.heap.size := h.glt
  have HWB := Lib.hid hwb
  have HL := Lib.hid hL
  have HV := Lib.hid hv
  have HMY := Lib.hid hmay
  have HBY := Lib.hid hby
  have HTK := Lib.hid htk
  have HRB := Lib.hid h.bytes
  have hcap := h.cap
  have HCE := Lib.hid (cond_entry x)
  have y3 : wb.cell? ⟨w.heap.size, 3, none⟩ = some (.int .i64 (((dataN x).length : Nat) : Int)) := hbox.c3
  have y5 : wb.cell? ⟨w.heap.size, 5, none⟩ = some (.int .u8 (kindN x)) := hbox.c5
  clear h hW hbb hbox hwb hL hv hmay hby htk
  go_enter Tryz.func18, Tryz.ntmps18
  go_upto_region 1 with fail
  rw [← HWB.out]
  go_cut [15] (fun v w1 => v = .bool false ∧ wb = w1)
  · cases hk : (kindN x != 48) with
    | true =>
      have h2 : ((((dataN x).length : Nat) : Int) != 0) = false := by have := HCE.out; rw [hk] at this; simpa using this
      go_wp2_with fail
      go_meet
      exact ⟨rfl, rfl⟩
    | false =>
      go_wp2_with fail
      go_meet
      exact ⟨rfl, rfl⟩
  obtain ⟨rfl, rfl⟩ := hcut
  clear y5 HCE
  have c1 := HR.out.c1
  go_upto_region 3 with (fail)
  have HDA := Lib.hid (fun W (hb : Below wb.heap.size wb W) => (show Calls Tryz.prog 41 #[.pointer (some ⟨g, 0, none⟩), .int .i64 (((dataN x).length : Nat) : Int), .int .i64 most] W (fun e w' => e = .returned (.tuple #[.slice (some ⟨b, o, none⟩) (dataN x).length c, .int .i64 0]) ∧ (w'.cell? ⟨w.heap.size, 3, none⟩ = some (.int .i64 (((dataN x).length : Nat) : Int)) ∧ w'.cell? ⟨g, 1, none⟩ = some (.int .i64 most)) ∧ Hid (RdAt w0 w' g b (o + ((dataN x).length + padN (dataN x).length)) (c - ((dataN x).length + padN (dataN x).length)) (ys.drop ((dataN x).length + padN (dataN x).length)) most lv l m) ∧ Hid (BoxH w' w.heap.size (hdR x)) ∧ Hid (Waits w' m x)) from
    (data_calls w0 W g b o c ys most lv l m (HR.out.kept hb) (dataN x).length most hr hs (by omega)).mono fun e w' ⟨he, h2, hM⟩ => by
      have hbx : BoxH w' w.heap.size (hdR x) := (hM.block _ (Array.getElem?_eq_some_iff.1 (HX.out.below hb)).1 (by omega)).trans (HX.out.below hb)
      refine ⟨he, ⟨hbx.c3, h2.c1⟩, Lib.hid h2, Lib.hid hbx, Lib.hid ?_⟩
      have hwt := HWT.out
      cases m with
      | none => exact hwt
      | some mb =>
        obtain ⟨n, hT⟩ := hwt
        have hT2 := hT.below hb
        exact ⟨n, hT2.kept (hM.block mb hT2.lt (fun e => by subst e; exact hT2.noCells _ _ _ (HR.out.kept hb).head))⟩))
  go_cut [5, 6] (fun v5 v6 w2 => v5 = .slice (some ⟨b, o, none⟩) (dataN x).length c ∧ v6 = .int .i64 0 ∧ Hid (RdAt w0 w2 g b (o + ((dataN x).length + padN (dataN x).length)) (c - ((dataN x).length + padN (dataN x).length)) (ys.drop ((dataN x).length + padN (dataN x).length)) most lv l m) ∧ Hid (BoxH w2 w.heap.size (hdR x)) ∧ Hid (Waits w2 m x))
  · go_region_held3 (fun w' => w'.cell? ⟨w.heap.size, 3, none⟩ = some (.int .i64 (((dataN x).length : Nat) : Int)) ∧ w'.cell? ⟨g, 1, none⟩ = some (.int .i64 most)) (go_keep) ((go_at_call 41; refine (HDA.out _ (by first | exact Below.refl _ _ | exact bdrew (Below.refl _ _))).mono ?_; rintro e w3 ⟨rfl, ⟨i1, i2⟩, HR3, HX3, HW3⟩))
    all_goals
      go_wp2_with fail
      go_meet
      exact ⟨rfl, rfl, HR3, HX3, HW3⟩
  obtain ⟨rfl, rfl, HR2, HX2, HW2⟩ := hcut
  obtain ⟨w2, rfl⟩ : ∃ w2 : World, w2 = wc := ⟨_, rfl⟩
  clear y3 c1 HDA HR HX HWT
  have y0 := HX2.out.c0
  have y1 := HX2.out.c1
  have y2 := HX2.out.c2
  have y3 := HX2.out.c3
  have y4 := HX2.out.c4
  have y5 := HX2.out.c5
  have hdl := (may_facts x HMY.out).2.2.2.2.2.1
  have t0 := (may_facts x HMY.out).2.2.1
  have t1 := (may_facts x HMY.out).2.2.2.1
  have hCd : (Kd.int .u8).C w2 (some ⟨b, o, none⟩) (dataN x).length (dataN x) := by
    have h1 := Kd.C_below (Kd.C_take (HRB.out) (m := (dataN x).length) (by omega)) HR2.out.below
    rw [HTK.out] at h1
    exact h1
  have HND := Lib.hid (node_calls x HV.out HMY.out HBY.out w2 g m HR2.out.c3 (hdR x) (some ⟨b, o, none⟩) c hCd (by omega) _ _ _ _ _ _ (fun W hb => waits_look HW2.out hb pathK (by decide)) (fun W hb => waits_look HW2.out hb linkK (by decide)) (fun W hb => waits_look HW2.out hb timeK (by decide)) (waits_name x) (waits_link x) (waits_time x t0 t1).1 (waits_time x t0 t1).2 rfl rfl (HL.out.below HR2.out.below))
  clear hCd
  go_upto_region 7 with (go_at_call 44; refine HND.out.mono ?_; rintro e w3 ⟨A8, c8, rfl, hl8, HBC8, HB3⟩)
  have HB4 := Lib.hid (balloc HB3.out (.cells #[.int .i64 x.f0, .string x.f1, .slice A8 x.f2.length c8, .int .i64 x.f3, .int .i64 x.f4] 31))
  have HR4 := Lib.hid (HR2.out.kept HB4.out)
  have HX4 := Lib.hid (HX2.out.below HB4.out)
  have HC4 := Lib.hid (HBC8.out.keep (Keep8.below (balloc (Below.refl w3.heap.size w3) (.cells #[.int .i64 x.f0, .string x.f1, .slice A8 x.f2.length c8, .int .i64 x.f3, .int .i64 x.f4] 31))))
  have HN4 := Lib.hid (show BoxN (w3.alloc (.cells #[.int .i64 x.f0, .string x.f1, .slice A8 x.f2.length c8, .int .i64 x.f3, .int .i64 x.f4] 31)) w3.heap.size x.f0 x.f1 (.slice A8 x.f2.length c8) x.f3 x.f4 from heap_alloc_new w3 _)
  have HG3 := Lib.hid (show w2.heap.size ≤ w3.heap.size from HB3.out.size)
  clear y0 y1 y2 y3 y4 y5 HND HB3 HBC8 HB4 HR2 HX2 HW2
  revert HR4 HX4 HC4 HN4
  generalize w3.alloc (.cells #[.int .i64 x.f0, .string x.f1, .slice A8 x.f2.length c8, .int .i64 x.f3, .int .i64 x.f4] 31) = w4
  intro HR4 HX4 HC4 HN4
  go_upto_region 9 with (fail)
  obtain ⟨rs, hrs, hnd⟩ := HR4.out.row
  have HRS := Lib.hid (Kd.R_step hrs (w1 := w4.drew) (fun _ _ _ => rfl))
  have HND := Lib.hid (hnd.keep (w' := w4.drew) (fun _ _ _ h => h))
  have hrl : rs.length ≤ 65536 := by rw [hnd.1]; exact hll
  have HRD := Lib.hid HR4.out.drew
  obtain ⟨r, hr'⟩ : ∃ r : Raw5, r.val = [.int .i64 x.f0, .string x.f1, .slice A8 x.f2.length c8, .int .i64 x.f3, .int .i64 x.f4] := ⟨⟨[.int .i64 x.f0, .string x.f1, .slice A8 x.f2.length c8, .int .i64 x.f3, .int .i64 x.f4], rfl, fun u hu => by simp only [List.mem_cons, List.not_mem_nil, or_false] at hu; rcases hu with rfl | rfl | rfl | rfl | rfl <;> rfl⟩, rfl⟩
  have HRV := Lib.hid hr'
  have c2 := HR4.out.c2
  have z2 := HR4.out.free 2
  have n0 := HN4.out.c0
  have n1 := HN4.out.c1
  have n2 := HN4.out.c2
  have n3 := HN4.out.c3
  have n4 := HN4.out.c4
  have hg1 : g < w4.heap.size := HR4.out.glt
  have hg2 : g ≠ w4.heap.size := by omega
  have hg3 := World.new_ne w4 ⟨g, 2, none⟩ c2
  have hbs : w0.heap.size ≤ w4.heap.size := HR4.out.below.size
  clear hrs hnd hr'
  go_cut [] (fun w6 => ∃ lv', Hid (RdAt w0 w6 g b (o + ((dataN x).length + padN (dataN x).length)) (c - ((dataN x).length + padN (dataN x).length)) (ys.drop ((dataN x).length + padN (dataN x).length)) most lv' (l ++ [x]) m) ∧ Hid (BoxH w6 w.heap.size (hdR x)))
  · go_region_law ((refine Kd.R_append_step kRaw (w0 := w4.drew) w0.heap.size (by rfl) (.tmp 44) (.tmp 46) 22 31 (.agg #[.int .i64 0, .string ⟨#[]⟩, .slice none 0 0, .int .i64 0, .int .i64 0]) 64 (by rfl) Tryz.underlying22 infoR rfl (by decide) (by omega) lv rs r [.int .i64 x.f0, .string x.f1, .slice A8 x.f2.length c8, .int .i64 x.f3, .int .i64 x.f4] (fun _ => True) (fun _ => False) (by rfl) (by rfl) HRV.out.symm (fun _ h => h.elim) (fun _ _ => trivial) HRS.out (Below.refl _ _) (by simpa using hbs) (by omega) ?_; intro v1 w5 hR5 hb5 hg5 hat5; obtain ⟨rs2, hrs2⟩ : ∃ rs2, rs ++ [r] = rs2 := ⟨_, rfl⟩; have HP := Lib.hid (HRD.out.putRow HND.out hg5 hR5 (show NodeC w4.drew x r.val from ⟨A8, c8, HRV.out, hl8, HC4.out⟩)); have e1 : w5.cell? ⟨g, 2, none⟩ = some lv := (World.grownBy.cell_far hg5 ⟨g, 2, none⟩ hg1 (fun e => HRD.out.rowNg e.symm)).trans HRD.out.c2; have e2 : w5.frozen? ⟨g, 2, none⟩ = false := (World.grownBy.frozen_far hg5 ⟨g, 2, none⟩ hg1 (fun e => HRD.out.rowNg e.symm)).trans (HRD.out.free 2); rw [hrs2] at hR5; obtain ⟨Av, cv, rfl⟩ := Kd.R_slice hR5; have HGR := Lib.hid hg5; clear hR5 hb5 hg5 hat5))
    all_goals
      go_wp2_with fail
      go_meet
      have hb5 : BoxH w5 w.heap.size (hdR x) := (HGR.out.block w.heap.size (Array.getElem?_eq_some_iff.1 HX4.out).1 (fun e => by
        obtain ⟨_, _, cells, hc⟩ := HR4.out.rowT _ e.symm
        have hx := HX4.out
        unfold BoxH at hx
        rw [hx] at hc
        cases hc)).trans HX4.out
      exact ⟨_, HP, Lib.hid (hb5.other (by omega) _)⟩
  obtain ⟨lv', HR6, HX6⟩ := hcut
  obtain ⟨w6, rfl⟩ : ∃ w6 : World, w6 = wc := ⟨_, rfl⟩
  clear c2 z2 n0 n1 n2 n3 n4 hg3 HR4 HX4 HC4 HN4 HRS HND HRD HRV
  have c1 := HR6.out.c1
  have z1 := HR6.out.free 1
  have c3 := HR6.out.c3
  have z3 := HR6.out.free 3
  have y3 : w6.cell? ⟨w.heap.size, 3, none⟩ = some (.int .i64 (((dataN x).length : Nat) : Int)) := HX6.out.c3
  go_upto_region 10 with (fail)
  go_region
  go_wp2
  go_ret
  exact ⟨lv', rfl, (((HR6.out.setMost (most - ((dataN x).length : Nat))).drew).setMap none)⟩
set_option maxRecDepth 100000 in
set_option maxHeartbeats 8000000 in
theorem entryR_big (x : Nd) (w : World) (g : Nat) (most : Int) (hm : w.cell? ⟨g, 1, none⟩ = some (.int .i64 most)) (hmay : mayB x = true) (hbig : most < ((dataN x).length : Nat)) (h0 : 0 ≤ most) :
    Calls Tryz.prog 18 #[.pointer (some ⟨g, 0, none⟩), .agg #[.string (hdR x).name, .string (hdR x).link, .int .i64 (hdR x).mode, .int .i64 (hdR x).size, .int .i64 (hdR x).time, .int .u8 (hdR x).kind]] w fun e w' => e = .returned (.int .i64 3) ∧ Below w.heap.size w w' := by
  obtain ⟨wb, hwb⟩ : ∃ wb, wb = w.alloc (.cells #[.string (hdR x).name, .string (hdR x).link, .int .i64 (hdR x).mode, .int .i64 (hdR x).size, .int .i64 (hdR x).time, .int .u8 (hdR x).kind] 50) := ⟨_, rfl⟩
  have hbb : Below w.heap.size w wb := by rw [hwb]; exact balloc (Below.refl _ _) _
  have hbox : BoxH wb w.heap.size (hdR x) := by rw [hwb]; exact heap_alloc_new _ _
  have HX := Lib.hid hbox
  have HBB := Lib.hid hbb
  have HWB := Lib.hid hwb
  have HCE := Lib.hid (cond_entry x)
  have hdl := (may_facts x hmay).2.2.2.2.2.1
  have y3 : wb.cell? ⟨w.heap.size, 3, none⟩ = some (.int .i64 (((dataN x).length : Nat) : Int)) := hbox.c3
  have y5 : wb.cell? ⟨w.heap.size, 5, none⟩ = some (.int .u8 (kindN x)) := hbox.c5
  have c1 := bkeep hbb hm
  clear hbb hbox hwb hm
  go_enter Tryz.func18, Tryz.ntmps18
  go_upto_region 1 with fail
  rw [← HWB.out]
  go_cut [15] (fun v w1 => v = .bool false ∧ wb = w1)
  · cases hk : (kindN x != 48) with
    | true =>
      have h2 : ((((dataN x).length : Nat) : Int) != 0) = false := by have := HCE.out; rw [hk] at this; simpa using this
      go_wp2_with fail
      go_meet
      exact ⟨rfl, rfl⟩
    | false =>
      go_wp2_with fail
      go_meet
      exact ⟨rfl, rfl⟩
  obtain ⟨rfl, rfl⟩ := hcut
  clear y5 HCE
  go_upto_region 3 with (fail)
  have HDA := Lib.hid (fun W (hb : Below wb.heap.size wb W) => (show Calls Tryz.prog 41 #[.pointer (some ⟨g, 0, none⟩), .int .i64 (((dataN x).length : Nat) : Int), .int .i64 most] W (fun e w' => e = .returned (.tuple #[.slice none 0 0, .int .i64 3]) ∧ (w'.cell? ⟨w.heap.size, 3, none⟩ = some (.int .i64 (((dataN x).length : Nat) : Int)) ∧ w'.cell? ⟨g, 1, none⟩ = some (.int .i64 most)) ∧ Hid (Below w.heap.size w w')) from
    (data_big W g (dataN x).length most hbig (by omega)).mono fun e w' ⟨he, hw⟩ => by
      subst hw
      exact ⟨he, ⟨(HX.out.below hb).c3, bkeep hb c1⟩, Lib.hid (bgo HBB.out hb)⟩))
  go_cut [5, 6] (fun v5 v6 w2 => v5 = .slice none 0 0 ∧ v6 = .int .i64 3 ∧ Hid (Below w.heap.size w w2))
  · go_region_held3 (fun w' => w'.cell? ⟨w.heap.size, 3, none⟩ = some (.int .i64 (((dataN x).length : Nat) : Int)) ∧ w'.cell? ⟨g, 1, none⟩ = some (.int .i64 most)) (go_keep) ((go_at_call 41; refine (HDA.out _ (by first | exact Below.refl _ _ | exact bdrew (Below.refl _ _))).mono ?_; rintro e w3 ⟨rfl, ⟨i1, i2⟩, HB3⟩))
    all_goals
      go_wp2_with fail
      go_meet
      exact ⟨rfl, rfl, HB3⟩
  obtain ⟨rfl, rfl, HB2⟩ := hcut
  go_wp2
  go_ret
  exact ⟨rfl, HB2.out⟩
end Go.Proofs.YtkmjbakiippfpaaGreatDoor.Tar
