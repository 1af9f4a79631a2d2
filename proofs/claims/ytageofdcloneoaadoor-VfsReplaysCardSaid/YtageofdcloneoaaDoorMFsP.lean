/- FsP, FsR, FsC, FsN, FsF put together. -/
import Derived.Test.YtageofdcloneoaaDoorMVfsR
import Derived.Maps.OwnSet
import Derived.Deep.RegionHeld3
import Derived.Deep.RegionLaw
import Derived.Deep.DrawnRows
set_option linter.unusedVariables false
set_option linter.unusedSimpArgs false
namespace Go.Proofs.YtageofdcloneoaaDoor.Fs
open Go.RowKit Go.Proofs.YtageofdcloneoaaDoor.Rout Go.Proofs.YtageofdcloneoaaDoor.Node Go.Proofs.YtageofdcloneoaaDoor.Tree Go.Proofs.YtageofdcloneoaaDoor.Vfs Go.Proofs.YtageofdcloneoaaDoorW.PrintWords
structure Chg where
  kind : Int
  path : ByteArray
  dest : ByteArray
  data : List Int
structure St where
  M : NMap
  cnt : Nat
  log : List Chg
  due : Int
  ever : Bool
  over : Bool
  room : Int
def newSt (l : List Nd) : St := ⟨mapL l, l.length, [], 0, false, false, -1⟩
/-- Is a fault due at this change? -/
def St.fault (s : St) : St × Bool := if s.over = true ∨ s.due = 0 then (s, s.over) else ({ s with due := s.due - 1, over := decide (s.due - 1 = 0) && s.ever }, decide (s.due - 1 = 0))
def St.change (s : St) (c : Chg) : St × Int := if s.fault.2 = true then (s.fault.1, 35) else ({ s.fault.1 with log := s.log ++ [c] }, 0)
/-- What a call would do: an error, or a change, and the map, the number of nodes and the room behind it. -/
abbrev Plan := Int ⊕ (Chg × NMap × Nat × Int)
def St.exec (s : St) : Plan → St × Int
  | .inl e => (s, e)
  | .inr (c, M, n, r) => if (s.change c).2 = 0 then ({ (s.change c).1 with M := M, cnt := n, room := r }, 0) else s.change c
def putM (M : NMap) (x : Nd) : NMap := fun q => if x.f1 = q then some x else M q
def delM (M : NMap) (p : ByteArray) : NMap := fun q => if q = p then none else M q
/-- q lies below a. -/
def belowB (a q : ByteArray) : Bool := Lib.hasPrefix q.data.toList (a ++ slash).data.toList
/-- q is a, or lies below it. -/
def inB (a q : ByteArray) : Prop := q = a ∨ belowB a q = true
/-- s of the subtree of old, as it is called in that of p. -/
def turnB (old p s : ByteArray) : ByteArray := p ++ s.extract old.size s.size
open Classical in
noncomputable def moveM (M : NMap) (old p : ByteArray) : NMap := fun q =>
  if inB p q ∧ (M (turnB p old q)).isSome = true then (M (turnB p old q)).map (fun x => ⟨x.f0, q, x.f2, x.f3, x.f4⟩) else if inB old q then none else M q
def makeP (M : NMap) (cnt : Nat) (room : Int) (n : Nd) : Plan :=
  if validB n.f1 = false then .inl 20 else if mayB n = false then .inl 21 else if n.f0 = 2 ∧ 0 < n.f2.length then .inl 2 else
  if (realT M n.f1).2.2 ≠ 0 then .inl (realT M n.f1).2.2 else if (realT M n.f1).2.1.isSome = true then .inl 30 else
  if validB (realT M n.f1).1 = false then .inl 20 else if 65536 ≤ cnt then .inl 3 else
  .inr (⟨n.f0, (realT M n.f1).1, emp, n.f2⟩, putM M ⟨n.f0, (realT M n.f1).1, n.f2, n.f3, n.f4⟩, cnt + 1, room)
def writeP (M : NMap) (cnt : Nat) (room : Int) (path : ByteArray) (b : List Int) : Plan :=
  if validB path = false then .inl 20 else if 1048576 < b.length then .inl 3 else
  if (realT M path).2.2 ≠ 0 then .inl (realT M path).2.2 else match (realT M path).2.1 with
  | none => .inl 31
  | some x => if x.f0 = 1 then .inl 32 else if x.f0 = 3 then .inl 2 else if 268435456 < x.f2.length + b.length then .inl 3 else if 0 ≤ room ∧ room < b.length then .inl 35 else
    .inr (⟨4, (realT M path).1, emp, b⟩, putM M ⟨x.f0, x.f1, x.f2 ++ b, x.f3, x.f4⟩, cnt, if 0 ≤ room then room - b.length else room)
open Classical in
noncomputable def removeP (M : NMap) (cnt : Nat) (room : Int) (path : ByteArray) : Plan :=
  if (realT M path).2.2 ≠ 0 then .inl (realT M path).2.2 else if (realT M path).2.1.isSome = false then .inl 31 else
  if ∃ q, (M q).isSome = true ∧ belowB (realT M path).1 q = true then .inl 32 else
  .inr (⟨6, (realT M path).1, emp, []⟩, delM M (realT M path).1, cnt - 1, room)
open Classical in
noncomputable def renameP (M : NMap) (cnt : Nat) (room : Int) (from_ to_ : ByteArray) : Plan :=
  if validB from_ = false ∨ validB to_ = false then .inl 20 else
  if (realT M from_).2.2 ≠ 0 then .inl (realT M from_).2.2 else if (realT M from_).2.1.isSome = false then .inl 31 else
  if (realT M to_).2.2 ≠ 0 then .inl (realT M to_).2.2 else if (realT M to_).2.1.isSome = true then .inl 30 else
  if belowB (realT M from_).1 (realT M to_).1 = true then .inl 2 else
  if ∃ q, (M q).isSome = true ∧ inB (realT M from_).1 q ∧ validB (turnB (realT M from_).1 (realT M to_).1 q) = false then .inl 20 else
  .inr (⟨5, (realT M from_).1, (realT M to_).1, []⟩, moveM M (realT M from_).1 (realT M to_).1, cnt, room)
def St.fail (s : St) (n : Int) (ever : Bool) : St × Int := if n < 0 then (s, 2) else ({ s with due := n, ever := ever, over := false }, 0)
def St.setRoom (s : St) (n : Int) : St × Int := if n < -1 then (s, 2) else ({ s with room := n }, 0)
/-- An act of the laws. -/
structure Ac where
  kind : Int
  node : Nd
  dest : ByteArray
  bytes : List Int
  n : Int
  ever : Bool
  asked : ByteArray
noncomputable def planOf (M : NMap) (cnt : Nat) (room : Int) (a : Ac) : Option Plan :=
  if a.kind = 0 then some (makeP M cnt room a.node) else if a.kind = 1 then some (writeP M cnt room a.node.f1 a.bytes) else
  if a.kind = 2 then some (renameP M cnt room a.node.f1 a.dest) else if a.kind = 3 then some (removeP M cnt room a.node.f1) else none
noncomputable def St.call (s : St) (a : Ac) : St :=
  match planOf s.M s.cnt s.room a with
  | some p => (s.exec p).1
  | none => if a.kind = 4 then (s.fail a.n a.ever).1 else if a.kind = 5 then (s.setRoom a.n).1 else s
end Go.Proofs.YtageofdcloneoaaDoor.Fs
set_option linter.unusedVariables false
set_option linter.unusedSimpArgs false
namespace Go.Proofs.YtageofdcloneoaaDoor.Fs
open Go.RowKit Go.BigFrame Go.Maps Go.Proofs.YtageofdcloneoaaDoor.Reg Go.Proofs.YtageofdcloneoaaDoor.Rout Go.Proofs.YtageofdcloneoaaDoor.Node Go.Proofs.YtageofdcloneoaaDoor.Tree Go.Proofs.YtageofdcloneoaaDoor.Vfs Go.Proofs.YtageofdcloneoaaDoorW.PrintWords Go.Proofs.YtageofdcloneoaaDoorW.PrintLast Go.Proofs.YtageofdcloneoaaDoorW.PrintMore
/-! ### a change, as its cells are read and made -/
def kC : Kd Chg := Kd.iso (Kd.pair (Kd.int .i64) (Kd.pair Kd.string (Kd.pair Kd.string (Kd.slice 5 (Kd.int .u8))))) (fun x : Chg => (x.kind, x.path, x.dest, x.data))
theorem kC_open {w : World} {x : Chg} {cs : List Value} (h : kC.K w x cs) : ∃ A2 c2, cs = [.int .i64 x.kind, .string x.path, .string x.dest, .slice A2 x.data.length c2] ∧ x.data.length ≤ c2 ∧ (Kd.int .u8).C w A2 x.data.length x.data := by
  obtain ⟨_, _, rfl, rfl, ⟨_, _, rfl, rfl, ⟨_, _, rfl, rfl, ⟨A2, c2, rfl, l2, g2⟩⟩⟩⟩ := h
  exact ⟨A2, c2, rfl, l2, g2⟩
theorem kC_mk (w : World) (x : Chg) {A2 : Option Addr} {c2 : Nat} (l2 : x.data.length ≤ c2) (g2 : (Kd.int .u8).C w A2 x.data.length x.data) : kC.K w x [.int .i64 x.kind, .string x.path, .string x.dest, .slice A2 x.data.length c2] := ⟨[.int .i64 x.kind], [.string x.path, .string x.dest, .slice A2 x.data.length c2], rfl, rfl, ⟨[.string x.path], [.string x.dest, .slice A2 x.data.length c2], rfl, rfl, ⟨[.string x.dest], [.slice A2 x.data.length c2], rfl, rfl, ⟨A2, c2, rfl, l2, g2⟩⟩⟩⟩
theorem kC_mkM (w : World) (base : Nat) (ok : Nat → Prop) (x : Chg) {v2 : Value} (g2 : (Kd.int .u8).R 5 w base ok v2 x.data) : kC.M w base ok x [.int .i64 x.kind, .string x.path, .string x.dest, v2] := ⟨[.int .i64 x.kind], [.string x.path, .string x.dest, v2], rfl, rfl, ⟨[.string x.path], [.string x.dest, v2], rfl, rfl, ⟨[.string x.dest], [v2], rfl, rfl, ⟨v2, rfl, g2⟩⟩⟩⟩
theorem kC_openM {w : World} {base : Nat} {ok : Nat → Prop} {x : Chg} {cs : List Value} (h : kC.M w base ok x cs) : ∃ v2, cs = [.int .i64 x.kind, .string x.path, .string x.dest, v2] ∧ (Kd.int .u8).R 5 w base ok v2 x.data := by
  obtain ⟨_, _, rfl, rfl, ⟨_, _, rfl, rfl, ⟨_, _, rfl, rfl, ⟨v2, rfl, g2⟩⟩⟩⟩ := h
  exact ⟨v2, rfl, g2⟩
theorem kN_E : kN.E = [5] := rfl
theorem kC_E : kC.E = [5] := rfl
/-! ### worlds that part in some blocks alone -/
structure Mod (S : Nat → Prop) (w w' : World) : Prop where
  os : w'.os = w.os
  tape : w'.tape = w.tape
  output : w'.output = w.output
  size : w.heap.size ≤ w'.heap.size
  block : ∀ i, i < w.heap.size → ¬ S i → w'.heap[i]? = w.heap[i]?
theorem Mod.refl (S : Nat → Prop) (w : World) : Mod S w w := ⟨rfl, rfl, rfl, Nat.le_refl _, fun _ _ _ => rfl⟩
theorem Mod.trans {S : Nat → Prop} {w w1 w2 : World} (h : Mod S w w1) (k : Mod S w1 w2) : Mod S w w2 :=
  ⟨k.os.trans h.os, k.tape.trans h.tape, k.output.trans h.output, Nat.le_trans h.size k.size, fun i hi hs => (k.block i (Nat.lt_of_lt_of_le hi h.size) hs).trans (h.block i hi hs)⟩
theorem Mod.mono {S S' : Nat → Prop} {w w' : World} (h : Mod S w w') (hS : ∀ i, i < w.heap.size → S i → S' i) : Mod S' w w' := ⟨h.os, h.tape, h.output, h.size, fun i hi hs => h.block i hi (fun k => hs (hS i hi k))⟩
/-- What lies behind the first world's blocks is nobody's. -/
theorem Mod.then_ {S S' : Nat → Prop} {w w1 w2 : World} (h : Mod S w w1) (k : Mod S' w1 w2) (hS : ∀ i, i < w.heap.size → S' i → S i) : Mod S w w2 :=
  ⟨k.os.trans h.os, k.tape.trans h.tape, k.output.trans h.output, Nat.le_trans h.size k.size, fun i hi hs => (k.block i (Nat.lt_of_lt_of_le hi h.size) (fun e => hs (hS i hi e))).trans (h.block i hi hs)⟩
theorem Mod.of_below {S : Nat → Prop} {w w' : World} (h : Below w.heap.size w w') : Mod S w w' := ⟨h.os, h.tape, h.output, h.size, fun i hi _ => h.block i hi⟩
theorem Mod.below {S : Nat → Prop} {w0 w w' : World} (h : Mod S w w') (h0 : Below w0.heap.size w0 w) (hS : ∀ i, S i → w0.heap.size ≤ i) : Below w0.heap.size w0 w' :=
  h0.trans ⟨h.os, h.tape, h.output, h.size, fun i hi => h.block i (Nat.lt_of_lt_of_le hi h0.size) (fun k => by have := hS i k; omega)⟩
theorem Mod.of_grown {S : Nat → Prop} {w w' : World} {row : Option Nat} (h : w.grownBy w' row) (hS : ∀ i, row = some i → S i) : Mod S w w' :=
  ⟨h.os, h.tape, h.output, h.size, fun i hi hs => h.block i hi (fun e => hs (hS i e.symm))⟩
theorem Mod.of_setCell {S : Nat → Prop} (w : World) (p : Addr) (v : Value) (hS : S p.block) : Mod S w (w.setCell p v) :=
  ⟨rfl, rfl, rfl, by simp [World.setCell], fun i _ hs => heap_setCell_other w p i v (fun e => hs (e ▸ hS))⟩
theorem Mod.drew {S : Nat → Prop} {w w' : World} (h : Mod S w w') : Mod S w w'.drew := ⟨h.os, h.tape, h.output, h.size, h.block⟩
/-- The blocks of bytes stay. -/
def BMove (w w' : World) : Prop := ∀ q, q < w.heap.size → (∃ cells, w.heap[q]? = some (.cells cells 5 (0, 0))) → w'.heap[q]? = w.heap[q]?
theorem BMove.below {w w' : World} (h : Below w.heap.size w w') : BMove w w' := fun q hq _ => h.block q hq
theorem Mod.bmove {S : Nat → Prop} {w w' : World} (h : Mod S w w') (hS : ∀ i, S i → ∀ cells, w.heap[i]? ≠ some (.cells cells 5 (0, 0))) : BMove w w' := fun q hq ⟨cells, hc⟩ => h.block q hq (fun k => hS q k cells hc)
theorem Mkept {base : Nat} {ok : Nat → Prop} {w w' : World} {x : Nd} {cs : List Value} (h : kN.M w base ok x cs) (hb : BMove w w') : kN.M w' base ok x cs :=
  kN.M_mono (fun _ hk => hk.1) (kN.M_move (fun k hk => by
    obtain ⟨_, _, hlt, q, hq, hc⟩ := hk
    rw [kN_E] at hq
    obtain rfl : q = 5 := by simpa using hq
    exact hb k hlt hc) (kN.M_bound h))
theorem says_moved {D : DataW Value} {w w' : World} {base : Nat} {ok : Nat → Prop} {M : NMap} (h : Says D w base ok M) (hb : BMove w w') : Says D w' base ok M := fun p => ⟨(h p).1, fun x hx => by
  obtain ⟨g1, cs, g2, g3⟩ := (h p).2 x hx
  exact ⟨g1, cs, g2, Mkept g3 hb⟩⟩
/-- A row of whatever kind stays, if none of its blocks' types is among what is written. -/
theorem R_mod {α : Type} {d : Kd α} {e : Nat} {w w' : World} {base : Nat} {ok : Nat → Prop} {v : Value} {xs : List α} {S : Nat → Prop} (h : d.R e w base ok v xs) (hm : Mod S w w') (hS : ∀ i, S i → ∀ q cells, w.heap[i]? = some (.cells cells q (0, 0)) → q ∉ e :: d.E) : d.R e w' base ok v xs :=
  Kd.R_mono (Kd.R_move (Kd.R_bound h) (fun k hk => by
    obtain ⟨_, _, hlt, q, hq, cells, hc⟩ := hk
    exact hm.block k hlt (fun hs => hS k hs q cells hc hq))) (fun _ hk => hk.1)
/-! ### the file system -/
def fsCells (b : Nat) (lv : Value) (s : St) : Array Value := #[.map (some b), lv, .int .i64 s.due, .bool s.ever, .bool s.over, .int .i64 s.room]
structure FsAt (w : World) (base g b : Nat) (lv : Value) (s : St) : Prop where
  head : w.heap[g]? = some (.cells (fsCells b lv s) 56 (0, 0))
  map : ∃ D, ownN w b s.cnt D ∧ Maps.size D = s.cnt ∧ Says D w base (fun _ => True) s.M
  log : kC.R 39 w base (fun _ => True) lv s.log
  gb : base ≤ g
  bb : base ≤ b
  cntB : s.cnt ≤ 65536
  due : 0 ≤ s.due ∧ s.due ≤ 9223372036854775807
  room : -1 ≤ s.room ∧ s.room ≤ 9223372036854775807
/-- Its own blocks. -/
def ownS (g b : Nat) (lv : Value) : Nat → Prop := fun i => i = g ∨ i = b ∨ lv.ownBlock = some i
section
variable {w w' : World} {base g b : Nat} {lv lv' : Value} {s s' : St}
theorem FsAt.mapAt (h : FsAt w base g b lv s) : MapAt w base b s.cnt (fun _ => True) s.M := by
  obtain ⟨D, h1, _, h2⟩ := h.map
  exact ⟨D, h1, h2⟩
theorem FsAt.glt (h : FsAt w base g b lv s) : g < w.heap.size := (Array.getElem?_eq_some_iff.1 h.head).1
theorem FsAt.blt (h : FsAt w base g b lv s) : b < w.heap.size := h.mapAt.lt
theorem FsAt.cell (h : FsAt w base g b lv s) (i : Nat) (v : Value) (hv : (fsCells b lv s)[i]? = some v) : w.cell? ⟨g, i, none⟩ = some v := by
  unfold World.cell?
  dsimp only
  rw [h.head]
  exact hv
theorem FsAt.c0 (h : FsAt w base g b lv s) : w.cell? ⟨g, 0, none⟩ = some (.map (some b)) := h.cell 0 _ rfl
theorem FsAt.c1 (h : FsAt w base g b lv s) : w.cell? ⟨g, 1, none⟩ = some lv := h.cell 1 _ rfl
theorem FsAt.c2 (h : FsAt w base g b lv s) : w.cell? ⟨g, 2, none⟩ = some (.int .i64 s.due) := h.cell 2 _ rfl
theorem FsAt.c3 (h : FsAt w base g b lv s) : w.cell? ⟨g, 3, none⟩ = some (.bool s.ever) := h.cell 3 _ rfl
theorem FsAt.c4 (h : FsAt w base g b lv s) : w.cell? ⟨g, 4, none⟩ = some (.bool s.over) := h.cell 4 _ rfl
theorem FsAt.c5 (h : FsAt w base g b lv s) : w.cell? ⟨g, 5, none⟩ = some (.int .i64 s.room) := h.cell 5 _ rfl
theorem FsAt.free (h : FsAt w base g b lv s) (i : Nat) : w.frozen? ⟨g, i, none⟩ = false := frozen_of_row w g i _ _ h.head
theorem FsAt.gNb (h : FsAt w base g b lv s) : g ≠ b := by
  rintro rfl
  obtain ⟨D, ⟨es, clock, h1, _⟩, _⟩ := h.map
  rw [h.head] at h1
  cases h1
/-- The log's block has the log's type. -/
theorem FsAt.logT (h : FsAt w base g b lv s) (k : Nat) (hk : lv.ownBlock = some k) : k < w.heap.size ∧ base ≤ k ∧ ∃ cells, w.heap[k]? = some (.cells cells 39 (0, 0)) := by
  obtain ⟨_, inner, ho, _⟩ := h.log
  exact ⟨own_lt ho k hk, own_base ho k hk, own_typed ho k hk⟩
theorem FsAt.typed (h : FsAt w base g b lv s) (i : Nat) (hi : ownS g b lv i) (q : TypeId) (cells : Array Value) (hc : w.heap[i]? = some (.cells cells q (0, 0))) : q = 56 ∨ q = 39 := by
  rcases hi with rfl | rfl | hi
  · rw [h.head] at hc; cases hc; exact .inl rfl
  · obtain ⟨D, ⟨es, clock, h1, _⟩, _⟩ := h.map
    rw [hc] at h1; cases h1
  · obtain ⟨_, _, cells', hc'⟩ := h.logT i hi
    rw [hc'] at hc; cases hc; exact .inr rfl
theorem FsAt.ownB (h : FsAt w base g b lv s) (i : Nat) (hi : ownS g b lv i) : base ≤ i := by
  rcases hi with rfl | rfl | hi
  · exact h.gb
  · exact h.bb
  · exact (h.logT i hi).2.1
theorem FsAt.logNg (h : FsAt w base g b lv s) : lv.ownBlock ≠ some g := fun e => by
  obtain ⟨_, _, cells, hc⟩ := h.logT g e
  rw [h.head] at hc; cases hc
theorem FsAt.logNb (h : FsAt w base g b lv s) : lv.ownBlock ≠ some b := fun e => by
  obtain ⟨_, _, cells, hc⟩ := h.logT b e
  obtain ⟨D, ⟨es, clock, h1, _⟩, _⟩ := h.map
  rw [hc] at h1; cases h1
theorem FsAt.bmove (h : FsAt w base g b lv s) (hm : Mod (ownS g b lv) w w') : BMove w w' := hm.bmove (fun i hi cells hc => by rcases h.typed i hi _ cells hc with e | e <;> cases e)
/-- Rows of other types stay, whatever is done to the file system. -/
theorem FsAt.rowKept {α : Type} {d : Kd α} {e base' : Nat} {ok : Nat → Prop} {v : Value} {xs : List α} (h : FsAt w base g b lv s) (hm : Mod (ownS g b lv) w w') (hr : d.R e w base' ok v xs) (h1 : 56 ∉ e :: d.E) (h2 : 39 ∉ e :: d.E) : d.R e w' base' ok v xs :=
  R_mod hr hm (fun i hi q cells hc => by rcases h.typed i hi q cells hc with rfl | rfl; exact h1; exact h2)
/-- It stays, while other blocks than its own, and none of bytes, are written. -/
theorem FsAt.kept {S : Nat → Prop} (h : FsAt w base g b lv s) (hm : Mod S w w') (hb : BMove w w') (hS : ∀ i, ownS g b lv i → ¬ S i) : FsAt w' base g b lv s := by
  refine ⟨(hm.block g h.glt (hS g (.inl rfl))).trans h.head, ?_, ?_, h.gb, h.bb, h.cntB, h.due, h.room⟩
  · obtain ⟨D, ⟨es, clock, h1, h2⟩, h3, h4⟩ := h.map
    exact ⟨D, ⟨es, clock, (hm.block b h.blt (hS b (.inr (.inl rfl)))).trans h1, h2⟩, h3, says_moved h4 hb⟩
  · obtain ⟨h0, inner, ho, hr⟩ := h.log
    refine ⟨h0, inner, own_move ho (fun k hk => hm.block k (own_lt ho k hk) (hS k (.inr (.inr hk)))), hr.imp_ (fun _ _ hp => ?_)⟩
    exact kC.M_mono (fun _ hk => hk.1) (kC.M_move (fun k hk => by
      obtain ⟨_, _, hlt, q, hq, hc⟩ := hk
      rw [kC_E] at hq
      obtain rfl : q = 5 := by simpa using hq
      exact hb k hlt hc) (kC.M_bound hp))
theorem FsAt.below (h : FsAt w base g b lv s) (hb : Below w.heap.size w w') : FsAt w' base g b lv s :=
  h.kept (S := fun _ => False) (Mod.of_below hb) (BMove.below hb) (fun _ _ => id)
/-- Its struct is written: the fields but the map. -/
theorem FsAt.put (h : FsAt w base g b lv s) (i : Nat) (v : Value) (hi : (fsCells b lv s).setIfInBounds i v = fsCells b lv s') (hM : s'.M = s.M) (hc : s'.cnt = s.cnt) (hl : s'.log = s.log) (hd : 0 ≤ s'.due ∧ s'.due ≤ 9223372036854775807) (hr : -1 ≤ s'.room ∧ s'.room ≤ 9223372036854775807) : FsAt (w.setCell ⟨g, i, none⟩ v) base g b lv s' := by
  have hm : Mod (fun k => k = g) w (w.setCell ⟨g, i, none⟩ v) := Mod.of_setCell w _ v rfl
  have hb : BMove w (w.setCell ⟨g, i, none⟩ v) := hm.bmove (fun k hk cells hcs => by subst hk; rw [h.head] at hcs; cases hcs)
  refine ⟨?_, ?_, ?_, h.gb, h.bb, by rw [hc]; exact h.cntB, hd, hr⟩
  · rw [heap_setCell_same w g i _ _ v h.head, hi]
  · obtain ⟨D, ⟨es, clock, h1, h2⟩, h3, h4⟩ := h.map
    rw [hM, hc]
    exact ⟨D, ⟨es, clock, (hm.block b h.blt (fun e => h.gNb e.symm)).trans h1, h2⟩, h3, says_moved h4 hb⟩
  · rw [hl]
    exact R_mod h.log hm (fun k hk q cells hcs => by subst hk; rw [h.head] at hcs; cases hcs; rw [kC_E]; decide)
/-- A new log, in place or elsewhere, and its header stored. -/
theorem FsAt.putLog (h : FsAt w base g b lv s) (hg : w.grownBy w' lv.ownBlock) (lg : List Chg) (hlog : kC.R 39 w' base (fun _ => True) lv' lg) : FsAt (w'.setCell ⟨g, 1, none⟩ lv') base g b lv' { s with log := lg } := by
  have hm1 : Mod (fun k => lv.ownBlock = some k) w w' := Mod.of_grown hg (fun i e => e)
  have hb1 : BMove w w' := hm1.bmove (fun k hk cells hcs => by obtain ⟨_, _, c2, h2⟩ := h.logT k hk; rw [h2] at hcs; cases hcs)
  have hh : w'.heap[g]? = some (.cells (fsCells b lv s) 56 (0, 0)) := (hm1.block g h.glt h.logNg).trans h.head
  have hm : Mod (fun k => k = g) w' (w'.setCell ⟨g, 1, none⟩ lv') := Mod.of_setCell w' _ lv' rfl
  have hb : BMove w' (w'.setCell ⟨g, 1, none⟩ lv') := hm.bmove (fun k hk cells hcs => by subst hk; rw [hh] at hcs; cases hcs)
  refine ⟨?_, ?_, ?_, h.gb, h.bb, h.cntB, h.due, h.room⟩
  · rw [heap_setCell_same w' g 1 _ _ lv' hh]
    rfl
  · obtain ⟨D, ⟨es, clock, h1, h2⟩, h3, h4⟩ := h.map
    exact ⟨D, ⟨es, clock, (hm.block b (Nat.lt_of_lt_of_le h.blt hm1.size) (fun e => h.gNb e.symm)).trans ((hm1.block b h.blt h.logNb).trans h1), h2⟩, h3, says_moved (says_moved h4 hb1) hb⟩
  · exact R_mod hlog hm (fun k hk q cells hcs => by subst hk; rw [hh] at hcs; cases hcs; rw [kC_E]; decide)
/-- Its map is written. -/
theorem FsAt.putMap (h : FsAt w base g b lv s) (hg : w.grownBy w' (some b)) (M : NMap) (n : Nat) (D : DataW Value) (hn : n ≤ 65536) (h1 : ownN w' b n D) (h2 : Maps.size D = n) (h3 : Says D w' base (fun _ => True) M) : FsAt w' base g b lv { s with M := M, cnt := n } := by
  have hm : Mod (fun k => k = b) w w' := Mod.of_grown hg (fun i e => by injection e with e; exact e.symm)
  refine ⟨(hm.block g h.glt h.gNb).trans h.head, ⟨D, h1, h2, h3⟩, ?_, h.gb, h.bb, hn, h.due, h.room⟩
  exact R_mod h.log hm (fun k hk q cells hcs => by
    subst hk
    obtain ⟨D0, ⟨es, clock, h1, _⟩, _⟩ := h.map
    rw [h1] at hcs; cases hcs)
end
/-- What New makes. -/
theorem fsNew {w : World} {base b n : Nat} {ok : Nat → Prop} {l : List Nd} (hF : FsNew w (b + 1) b) (hM : MapAt w base b n ok (mapL l)) (hb : base ≤ b) (hn : n ≤ 65536) (hsz : ∀ D, ownN w b n D → Says D w base ok (mapL l) → Maps.size D = l.length) : FsAt w base (b + 1) b (.slice none 0 0) (newSt l) := by
  obtain ⟨D, h1, h2⟩ := hM
  have h3 := hsz D h1 h2
  refine ⟨hF, ⟨D, ?_, h3, fun p => ⟨(h2 p).1, fun x hx => ?_⟩⟩, Kd.R_nil _ _ _ _ _, by omega, hb, ?_, (show (0 : Int) ≤ 0 ∧ (0 : Int) ≤ 9223372036854775807 by decide), (show (-1 : Int) ≤ -1 ∧ (-1 : Int) ≤ 9223372036854775807 by decide)⟩
  · obtain ⟨es, clock, e1, e2, e3, rfl⟩ := h1
    refine ⟨es, clock, e1, e2, ?_, rfl⟩
    show es.size ≤ l.length
    rw [← h3]
    simp [Maps.size, length_sorted]
  · obtain ⟨g1, cs, g2, g3⟩ := (h2 p).2 x hx
    exact ⟨g1, cs, g2, kN.M_mono (fun _ _ => trivial) g3⟩
  · have := h1.size_le
    show l.length ≤ _
    omega
end Go.Proofs.YtageofdcloneoaaDoor.Fs
set_option linter.unusedVariables false
set_option linter.unusedSimpArgs false
namespace Go.Proofs.YtageofdcloneoaaDoor.Fs
open Go.RowKit Go.BigFrame Go.Maps Go.Proofs.YtageofdcloneoaaDoor.Reg Go.Proofs.YtageofdcloneoaaDoor.Rout Go.Proofs.YtageofdcloneoaaDoor.Node Go.Proofs.YtageofdcloneoaaDoor.Tree Go.Proofs.YtageofdcloneoaaDoor.Vfs Go.Proofs.YtageofdcloneoaaDoorW.PrintWords Go.Proofs.YtageofdcloneoaaDoorW.PrintLast Go.Proofs.YtageofdcloneoaaDoorW.PrintMore
attribute [local go_sem ↓] Go.wp_at_zero Go.wp_at_succ
theorem fault_calls (base g b : Nat) (lv : Value) (s : St) (w : World) (h : FsAt w base g b lv s) :
    Calls Tryd.prog 48 #[.pointer (some ⟨g, 0, none⟩)] w fun e w' => e = .returned (.bool s.fault.2) ∧ FsAt w' base g b lv s.fault.1 ∧ Mod (fun k => k = g) w w' := by
  have H := Lib.hid h
  have c2 := h.c2
  have c3 := h.c3
  have c4 := h.c4
  have hfz := h.free
  have hd := h.due
  by_cases ho : s.over = true
  · have HR := Lib.hid (show s.fault = (s, true) by unfold St.fault; rw [if_pos (.inl ho), ho])
    rw [ho] at c4
    clear h ho hd
    go_enter Tryd.func48, Tryd.ntmps48
    go_wp2
    go_ret
    rw [HR.out]
    exact ⟨rfl, H.out, Mod.refl _ _⟩
  by_cases hz : s.due = 0
  · have HR := Lib.hid (show s.fault = (s, false) by unfold St.fault; rw [if_pos (.inr hz)]; simp at ho; rw [ho])
    simp at ho
    rw [ho] at c4
    rw [hz] at c2
    clear h ho hd hz
    go_enter Tryd.func48, Tryd.ntmps48
    go_wp2
    go_ret
    rw [HR.out]
    exact ⟨rfl, H.out, Mod.refl _ _⟩
  · have HR := Lib.hid (show s.fault = ({ s with due := s.due - 1, over := decide (s.due - 1 = 0) && s.ever }, decide (s.due - 1 = 0)) by unfold St.fault; rw [if_neg (fun e => e.elim ho hz)])
    simp at ho
    rw [ho] at c4
    have H1 := Lib.hid (H.out.put (s' := { s with due := s.due - 1 }) 2 (.int .i64 (s.due - 1)) rfl rfl rfl rfl (by dsimp only; omega) H.out.room)
    have hz1 : (s.due == 0) = false := beq_eq_false_iff_ne.mpr hz
    have hd0 : 1 ≤ s.due := by omega
    have hd1 := hd.2
    clear h ho hd hz
    by_cases h1 : s.due = 1
    · have H2 := Lib.hid (H1.out.put (s' := { s with due := 0, over := s.ever }) 4 (.bool s.ever) (by rw [h1]; rfl) rfl rfl rfl (show (0 : Int) ≤ 0 ∧ (0 : Int) ≤ 9223372036854775807 by decide) H.out.room)
      rw [h1] at HR H1 H2 c2 hz1
      clear hd0 hd1 h1
      go_enter Tryd.func48, Tryd.ntmps48
      go_wp2
      go_ret
      rw [HR.out]
      exact ⟨rfl, H2.out, Mod.trans (S := fun k => k = g) (Mod.of_setCell (S := fun k => k = g) w ⟨g, 2, none⟩ _ rfl) (Mod.of_setCell (S := fun k => k = g) _ ⟨g, 4, none⟩ _ rfl)⟩
    · have hz2 : (s.due - 1 == 0) = false := beq_eq_false_iff_ne.mpr (by omega)
      have hz3 : decide (s.due - 1 = 0) = false := decide_eq_false (by omega)
      rw [hz3] at HR
      have H2 := Lib.hid (H1.out.put (s' := { s with due := s.due - 1, over := false }) 4 (.bool false) rfl rfl rfl rfl H1.out.due H.out.room)
      generalize hdd : s.due = d at *
      clear hz3 h1
      have HD := Lib.hid hdd
      clear hdd
      go_enter Tryd.func48, Tryd.ntmps48
      go_wp2
      go_ret
      rw [HR.out]
      exact ⟨rfl, H2.out, Mod.trans (S := fun k => k = g) (Mod.of_setCell (S := fun k => k = g) w ⟨g, 2, none⟩ _ rfl) (Mod.of_setCell (S := fun k => k = g) _ ⟨g, 4, none⟩ _ rfl)⟩
/-- What a call that may change it leaves: its answer, the state, what else was touched. -/
def OpPost (base g b : Nat) (lv : Value) (w : World) (r : St × Int) (e : Ending) (w' : World) : Prop :=
  ∃ lv', e = .returned (.int .i64 r.2) ∧ FsAt w' base g b lv' r.1 ∧ Mod (ownS g b lv) w w' ∧ (lv'.ownBlock = lv.ownBlock ∨ ∃ q, lv'.ownBlock = some q ∧ w.heap.size ≤ q)
theorem infoC : (Tryd.prog.info? 39).map (fun i => (i.zero, i.size, i.bytes)) = some (some (.agg #[.int .i64 0, .string ⟨#[]⟩, .string ⟨#[]⟩, .slice none 0 0]), 4, 64) := by kernel_rfl
theorem FsAt.drew {w : World} {base g b : Nat} {lv : Value} {s : St} (h : FsAt w base g b lv s) : FsAt w.drew base g b lv s := ⟨h.head, h.map, Kd.R_step h.log (fun _ _ _ => rfl), h.gb, h.bb, h.cntB, h.due, h.room⟩
/-- A change's cells beside the log: its bytes are no log's. -/
theorem logCell {w : World} {base base' g b : Nat} {lv v : Value} {s : St} {ok : Nat → Prop} {c : Chg} (h : FsAt w base g b lv s) (hb : base ≤ base') (hv : (Kd.int .u8).R 5 w base' ok v c.data) : kC.M w base (fun k => True ∧ some k ≠ lv.ownBlock) c [.int .i64 c.kind, .string c.path, .string c.dest, v] :=
  kC_mkM w base _ c (Kd.R_mono (Kd.R_bound (Kd.R_lower hv hb)) (fun k hk => ⟨trivial, fun e => by
    obtain ⟨_, _, _, q, hq, cells, hc⟩ := hk
    obtain ⟨_, _, cells', hc'⟩ := h.logT k e.symm
    rw [hc'] at hc
    cases hc
    exact absurd hq (by decide)⟩))
theorem St.fault_M (s : St) : s.fault.1.M = s.M ∧ s.fault.1.cnt = s.cnt ∧ s.fault.1.log = s.log ∧ s.fault.1.room = s.room := by
  unfold St.fault
  split <;> exact ⟨rfl, rfl, rfl, rfl⟩
set_option maxRecDepth 100000 in
set_option maxHeartbeats 4000000 in
theorem change_calls (base base' g b : Nat) (lv v : Value) (ok : Nat → Prop) (s : St) (c : Chg) (w : World) (h : FsAt w base g b lv s) (hbb : base ≤ base') (hv : (Kd.int .u8).R 5 w base' ok v c.data) (hl : (s.log.length + 1) * 64 ≤ 140737488355328) :
    Calls Tryd.prog 29 #[.pointer (some ⟨g, 0, none⟩), .agg #[.int .i64 c.kind, .string c.path, .string c.dest, v]] w (OpPost base g b lv w (s.change c)) := by
  obtain ⟨A2, c2, rfl⟩ := Kd.R_slice hv
  have hgl := h.glt
  have HF := Lib.hid (show Calls Tryd.prog 48 #[.pointer (some ⟨g, 0, none⟩)] (w.alloc (.cells #[.int .i64 c.kind, .string c.path, .string c.dest, .slice A2 c.data.length c2] 39)) fun e w' => e = .returned (.bool s.fault.2) ∧ FsAt w' base g b lv s.fault.1 ∧ Mod (fun k => k = g) w w' ∧ w'.heap[w.heap.size]? = some (.cells #[.int .i64 c.kind, .string c.path, .string c.dest, .slice A2 c.data.length c2] 39 (0, 0)) from
    (fault_calls base g b lv s _ (h.below (balloc (Below.refl _ _) _))).mono fun e w' ⟨h1, h2, h3⟩ => ⟨h1, h2, (Mod.of_below (balloc (Below.refl _ _) _)).then_ h3 (fun i _ e => e), (h3.block w.heap.size (by simp) (by omega)).trans (heap_alloc_new w _)⟩)
  by_cases hf : s.fault.2 = true
  · have HR := Lib.hid (show s.change c = (s.fault.1, 35) by unfold St.change; rw [if_pos hf])
    rw [hf] at HF
    clear hf h hv
    go_enter Tryd.func29, Tryd.ntmps29
    go_wp2_with (go_at_call 48; refine HF.out.mono ?_; rintro e w1 ⟨rfl, h1, hm1, _⟩)
    go_ret
    rw [HR.out]
    exact ⟨lv, rfl, h1, hm1.mono (fun i _ e => .inl e), .inl rfl⟩
  · have HR := Lib.hid (show s.change c = ({ s.fault.1 with log := s.log ++ [c] }, 0) by unfold St.change; rw [if_neg hf])
    have hf' : s.fault.2 = false := by simpa using hf
    rw [hf'] at HF
    have HV := Lib.hid hv
    have HLG := Lib.hid (St.fault_M s).2.2.1
    have HH := Lib.hid h
    clear hf hf' hv h
    generalize s.fault.1 = s1 at *
    go_enter Tryd.func29, Tryd.ntmps29
    go_upto_region 3 with (go_at_call 48; refine HF.out.mono ?_; rintro e w1 ⟨rfl, h1, hm1, hbx⟩)
    have H1 := Lib.hid h1.drew
    have c1 := h1.c1
    have hfz := h1.free 1
    have b0 : w1.cell? ⟨w.heap.size, 0, none⟩ = some (.int .i64 c.kind) := by simp [World.cell?, hbx]
    have b1 : w1.cell? ⟨w.heap.size, 1, none⟩ = some (.string c.path) := by simp [World.cell?, hbx]
    have b2 : w1.cell? ⟨w.heap.size, 2, none⟩ = some (.string c.dest) := by simp [World.cell?, hbx]
    have b3 : w1.cell? ⟨w.heap.size, 3, none⟩ = some (.slice A2 c.data.length c2) := by simp [World.cell?, hbx]
    have HV1 := Lib.hid (show (Kd.int .u8).R 5 w1.drew base' ok (.slice A2 c.data.length c2) c.data from R_mod HV.out hm1.drew (fun i hi q cells hc => by subst hi; rw [HH.out.head] at hc; cases hc; decide))
    have hl1 : (s1.log.length + 1) * 64 ≤ 140737488355328 := by rw [HLG.out]; exact hl
    have HM1 := Lib.hid hm1
    clear hbx h1 hm1
    have hbs : base ≤ w1.heap.size := by have := H1.out.gb; have := H1.out.glt; simp at this; omega
    have hg1 : g < w1.heap.size := H1.out.glt
    have hg2 : g ≠ w1.heap.size := by omega
    have hg3 := World.new_ne w1 ⟨g, 1, none⟩ c1
    go_region_law ((refine Kd.R_append_step kC (w0 := w1.drew) base (by rfl) (.tmp 11) (.tmp 13) 36 39 (.agg #[.int .i64 0, .string ⟨#[]⟩, .string ⟨#[]⟩, .slice none 0 0]) 64 (by rfl) Tryd.underlying36 infoC rfl (by decide) (by omega) lv s1.log c [.int .i64 c.kind, .string c.path, .string c.dest, .slice A2 c.data.length c2] (fun _ => True) _ (by rfl) (by rfl) (logCell H1.out hbb HV1.out) (fun _ h => h) (fun _ _ => trivial) H1.out.log (Below.refl _ _) (by simpa using hbs) hl1 ?_; intro v1 w5 hR5 hb5 hg5 hat5; obtain ⟨lg, hlg⟩ : ∃ lg, s1.log ++ [c] = lg := ⟨_, rfl⟩; rw [hlg] at hR5; have HLG2 := Lib.hid hlg; clear hlg; obtain ⟨Av, cv, rfl⟩ := Kd.R_slice hR5; have e1 : w5.cell? ⟨g, 1, none⟩ = some lv := (World.grownBy.cell_far hg5 ⟨g, 1, none⟩ H1.out.glt (fun e => H1.out.logNg e.symm)).trans H1.out.c1; have e2 : w5.frozen? ⟨g, 1, none⟩ = false := (World.grownBy.frozen_far hg5 ⟨g, 1, none⟩ H1.out.glt (fun e => H1.out.logNg e.symm)).trans (H1.out.free 1); have HP := Lib.hid (H1.out.putLog hg5 _ hR5); have HG5 := Lib.hid hg5; have HAT := Lib.hid hat5; clear hR5 hb5 hg5 hat5))
    all_goals
      go_wp2
      go_ret
      rw [HR.out, ← HLG.out, HLG2.out]
      refine ⟨_, rfl, HP.out, ?_, ?_⟩
      · refine (HM1.out.mono (fun i _ e => .inl e)).then_ (S' := ownS g b lv) (Mod.trans (S := ownS g b lv) (Mod.of_grown (S := ownS g b lv) (w := w1) (row := lv.ownBlock) ⟨HG5.out.os, HG5.out.tape, HG5.out.output, HG5.out.size, HG5.out.block⟩ (fun i e => .inr (.inr e))) (Mod.of_setCell (S := ownS g b lv) w5 ⟨g, 1, none⟩ _ (.inl rfl))) (fun i _ e => e)
      · rcases HAT.out with e | ⟨q, e, hq⟩
        · exact .inl e
        · exact .inr ⟨q, e, Nat.le_trans HM1.out.size hq⟩
end Go.Proofs.YtageofdcloneoaaDoor.Fs
set_option linter.unusedVariables false
set_option linter.unusedSimpArgs false
namespace Go.Proofs.YtageofdcloneoaaDoor.Fs
open Go.RowKit Go.BigFrame Go.Maps Go.Proofs.YtageofdcloneoaaDoor.Reg Go.Proofs.YtageofdcloneoaaDoor.Rout Go.Proofs.YtageofdcloneoaaDoor.Node Go.Proofs.YtageofdcloneoaaDoor.Tree Go.Proofs.YtageofdcloneoaaDoor.Vfs Go.Proofs.YtageofdcloneoaaDoorW.PrintWords Go.Proofs.YtageofdcloneoaaDoorW.PrintLast Go.Proofs.YtageofdcloneoaaDoorW.PrintMore
theorem own_size {w : World} {b n : Nat} {D : DataW Value} (h : ownN w b n D) : ownN w b (Maps.size D) D := by
  obtain ⟨es, clock, h1, F, h2, rfl⟩ := h
  refine ⟨es, clock, h1, F, ?_, rfl⟩
  rw [Maps.size_eq, (Go.WideShapes.sorted_perm _).length_eq]
  simp
theorem says_has {D : DataW Value} {w : World} {base : Nat} {ok : Nat → Prop} {M : NMap} (h : Says D w base ok M) (p : ByteArray) : Maps.has D (.string p.data.toList) = (M p).isSome := by
  cases hp : M p with
  | none => exact (h p).1 hp
  | some x => exact ((h p).2 x hp).1
theorem says_put {D : DataW Value} {w w' : World} {base : Nat} {M : NMap} (h : Says D w base (fun _ => True) M) (hD : IsMap D) (hb : BMove w w') (x : Nd) (cs : List Value) (hx : kN.M w' base (fun _ => True) x cs) : Says (D.put (.string x.f1.data.toList) (.held (.agg cs.toArray))) w' base (fun _ => True) (putM M x) :=
  (says_moved h hb).put hD x cs (fun _ _ _ => rfl) hx
theorem says_del {D : DataW Value} {w w' : World} {base : Nat} {M : NMap} (h : Says D w base (fun _ => True) M) (hb : BMove w w') (p : ByteArray) : Says (D.del (.string p.data.toList)) w' base (fun _ => True) (delM M p) := by
  intro q
  by_cases he : q = p
  · subst he
    refine ⟨fun _ => Maps.has_del_same, fun x hx => ?_⟩
    unfold delM at hx
    rw [if_pos rfl] at hx
    cases hx
  · have hne : Lit.string q.data.toList ≠ Lit.string p.data.toList := fun e => he (ba_ext (by injection e))
    unfold delM
    rw [if_neg he, Maps.has_del_other hne, Maps.atKey_del_other hne]
    exact (says_moved h hb) q
theorem FsAt.bB {w : World} {base g b : Nat} {lv : Value} {s : St} (h : FsAt w base g b lv s) (cells : Array Value) : w.heap[b]? ≠ some (.cells cells 5 (0, 0)) := by
  obtain ⟨D, ⟨es, clock, h1, _⟩, _⟩ := h.map
  rw [h1]
  intro e
  cases e
/-- m[path] = node -/
theorem FsAt.putNode {w w1 w' : World} {base g b : Nat} {lv : Value} {s : St} {D : DataW Value} (h : FsAt w base g b lv s) (hown : ownN w b s.cnt D) (hsz : Maps.size D = s.cnt) (hsy : Says D w base (fun _ => True) s.M) {n : Nat} (x : Nd) (cs : List Value)
    (hown' : ownN w' b n (D.put (.string x.f1.data.toList) (.held (.agg cs.toArray)))) (hg : w1.grownBy w' (some b)) (hw1 : w1 = w.drew) (hx : kN.M w base (fun _ => True) x cs) (m : Nat) (hm : m = if (s.M x.f1).isSome = true then s.cnt else s.cnt + 1) (hmb : m ≤ 65536) :
    FsAt w' base g b lv { s with M := putM s.M x, cnt := m } ∧ Mod (fun i => i = b) w w' := by
  subst hw1
  have hg' : w.grownBy w' (some b) := ⟨hg.os, hg.tape, hg.output, hg.size, hg.block⟩
  have hM : Mod (fun i => i = b) w w' := Mod.of_grown hg' (fun i e => by injection e with e; exact e.symm)
  have hB : BMove w w' := hM.bmove (fun i hi cells => by subst hi; exact h.bB cells)
  have hsize : Maps.size (D.put (.string x.f1.data.toList) (.held (.agg cs.toArray))) = m := by
    rw [Maps.size_put (hown.tidy key9), says_has hsy, hsz, hm]
  refine ⟨h.putMap hg' (putM s.M x) m _ hmb (hsize ▸ own_size hown') hsize (says_put hsy hown.isMap hB x cs (Mkept hx hB)), hM⟩
/-- delete(m, path) -/
theorem FsAt.delNode {w w' : World} {base g b : Nat} {lv : Value} {s : St} {D : DataW Value} (h : FsAt w base g b lv s) (hown : ownN w b s.cnt D) (hsz : Maps.size D = s.cnt) (hsy : Says D w base (fun _ => True) s.M) {n : Nat} (p : ByteArray)
    (hown' : ownN w' b n (D.del (.string p.data.toList))) (hg : w.grownBy w' (some b)) (m : Nat) (hm : m + (if (s.M p).isSome = true then 1 else 0) = s.cnt) :
    FsAt w' base g b lv { s with M := delM s.M p, cnt := m } ∧ Mod (fun i => i = b) w w' := by
  have hM : Mod (fun i => i = b) w w' := Mod.of_grown hg (fun i e => by injection e with e; exact e.symm)
  have hB : BMove w w' := hM.bmove (fun i hi cells => by subst hi; exact h.bB cells)
  have hsize : Maps.size (D.del (.string p.data.toList)) = m := by
    have h1 := Maps.size_del (k := .string p.data.toList) (hown.tidy key9)
    rw [says_has hsy, hsz] at h1
    omega
  refine ⟨h.putMap hg (delM s.M p) m _ (by have := h.cntB; omega) (hsize ▸ own_size hown') hsize (says_del hsy hB p), hM⟩
end Go.Proofs.YtageofdcloneoaaDoor.Fs
set_option linter.unusedVariables false
set_option linter.unusedSimpArgs false
namespace Go.Proofs.YtageofdcloneoaaDoor.Fs
open Go.RowKit Go.BigFrame Go.Maps Go.Proofs.YtageofdcloneoaaDoor.Reg Go.Proofs.YtageofdcloneoaaDoor.Rout Go.Proofs.YtageofdcloneoaaDoor.Node Go.Proofs.YtageofdcloneoaaDoor.Tree Go.Proofs.YtageofdcloneoaaDoor.Vfs Go.Proofs.YtageofdcloneoaaDoorW.PrintWords Go.Proofs.YtageofdcloneoaaDoorW.PrintLast Go.Proofs.YtageofdcloneoaaDoorW.PrintMore
attribute [local go_sem ↓] Go.wp_at_zero Go.wp_at_succ
set_option maxRecDepth 100000 in
theorem fail_calls (base g b : Nat) (lv : Value) (s : St) (n : Int) (ever : Bool) (w : World) (h : FsAt w base g b lv s) (hn : n ≤ 9223372036854775807) :
    Calls Tryd.prog 16 #[.pointer (some ⟨g, 0, none⟩), .int .i64 n, .bool ever] w (OpPost base g b lv w (s.fail n ever)) := by
  have HN := Lib.hid (none_calls g b w h.c0)
  have HH := Lib.hid h
  have c2 := h.c2
  have c3 := h.c3
  have c4 := h.c4
  have hfz := h.free
  by_cases h0 : n < 0
  · have HR := Lib.hid (show s.fail n ever = (s, 2) by unfold St.fail; rw [if_pos h0])
    clear h
    go_enter Tryd.func16, Tryd.ntmps16
    go_wp2_with (go_at_call 26; refine HN.out.mono ?_; rintro e w' ⟨rfl, rfl⟩)
    go_ret
    rw [HR.out]
    exact ⟨lv, rfl, HH.out, Mod.refl _ _, .inl rfl⟩
  · have HR := Lib.hid (show s.fail n ever = ({ s with due := n, ever := ever, over := false }, 0) by unfold St.fail; rw [if_neg h0])
    have H1 := HH.out.put (s' := { s with due := n }) 2 (.int .i64 n) rfl rfl rfl rfl (by dsimp only; omega) HH.out.room
    have H2 := H1.put (s' := { s with due := n, ever := ever }) 3 (.bool ever) rfl rfl rfl rfl H1.due HH.out.room
    have H3 := Lib.hid (H2.put (s' := { s with due := n, ever := ever, over := false }) 4 (.bool false) rfl rfl rfl rfl H1.due HH.out.room)
    have h0b : decide (n < 0) = false := decide_eq_false h0
    clear h H1 H2
    go_enter Tryd.func16, Tryd.ntmps16
    go_wp2_with (go_at_call 26; refine HN.out.mono ?_; rintro e w' ⟨rfl, rfl⟩)
    go_ret
    rw [HR.out]
    exact ⟨lv, rfl, H3.out, Mod.trans (S := ownS g b lv) (Mod.trans (S := ownS g b lv) (Mod.of_setCell (S := ownS g b lv) w ⟨g, 2, none⟩ _ (.inl rfl)) (Mod.of_setCell (S := ownS g b lv) _ ⟨g, 3, none⟩ _ (.inl rfl))) (Mod.of_setCell (S := ownS g b lv) _ ⟨g, 4, none⟩ _ (.inl rfl)), .inl rfl⟩
set_option maxRecDepth 100000 in
theorem room_calls (base g b : Nat) (lv : Value) (s : St) (n : Int) (w : World) (h : FsAt w base g b lv s) (hn : n ≤ 9223372036854775807) :
    Calls Tryd.prog 25 #[.pointer (some ⟨g, 0, none⟩), .int .i64 n] w (OpPost base g b lv w (s.setRoom n)) := by
  have HN := Lib.hid (none_calls g b w h.c0)
  have HH := Lib.hid h
  have c5 := h.c5
  have hfz := h.free
  by_cases h0 : n < -1
  · have HR := Lib.hid (show s.setRoom n = (s, 2) by unfold St.setRoom; rw [if_pos h0])
    clear h
    go_enter Tryd.func25, Tryd.ntmps25
    go_wp2_with (go_at_call 26; refine HN.out.mono ?_; rintro e w' ⟨rfl, rfl⟩)
    go_ret
    rw [HR.out]
    exact ⟨lv, rfl, HH.out, Mod.refl _ _, .inl rfl⟩
  · have HR := Lib.hid (show s.setRoom n = ({ s with room := n }, 0) by unfold St.setRoom; rw [if_neg h0])
    have H3 := Lib.hid (HH.out.put (s' := { s with room := n }) 5 (.int .i64 n) rfl rfl rfl rfl HH.out.due (by dsimp only; omega))
    have h0b : decide (n < -1) = false := decide_eq_false h0
    clear h
    go_enter Tryd.func25, Tryd.ntmps25
    go_wp2_with (go_at_call 26; refine HN.out.mono ?_; rintro e w' ⟨rfl, rfl⟩)
    go_ret
    rw [HR.out]
    exact ⟨lv, rfl, H3.out, Mod.of_setCell (S := ownS g b lv) w ⟨g, 5, none⟩ _ (.inl rfl), .inl rfl⟩
end Go.Proofs.YtageofdcloneoaaDoor.Fs
