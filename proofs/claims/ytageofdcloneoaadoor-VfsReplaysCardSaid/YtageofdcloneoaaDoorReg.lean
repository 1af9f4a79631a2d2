/- Regions that draw their order and whose calls only make memory: one walk in the order of the text, over the class of all worlds above the one at hand. No program in it. -/
import Derived.BigQuiet
import Derived.WalkKit
import Derived.Below
import Derived.Deep.Draws
namespace Go.Proofs.YtageofdcloneoaaDoor.Reg
open Go.RowKit

theorem bdrew {B : Nat} {w W : World} (h : Below B w W) : Below B w W.drew := ⟨h.os, h.tape, h.output, h.size, h.block⟩
theorem bdrewN {B : Nat} {w W : World} (h : Below B w W) (n : Nat) : Below B w (W.drewN n) := ⟨h.os, h.tape, h.output, h.size, h.block⟩
theorem balloc {w W : World} (h : Below w.heap.size w W) (o : Obj) : Below w.heap.size w (W.alloc o) := h.alloc h.size o
theorem bthen {B : Nat} {w w1 w2 : World} (h : Below B w w1) (hB : B ≤ w1.heap.size) (k : Below w1.heap.size w1 w2) : Below B w w2 :=
  h.trans ⟨k.os, k.tape, k.output, k.size, fun i hi => k.block i (Nat.lt_of_lt_of_le hi hB)⟩
theorem bgo {w w1 w2 : World} (h : Below w.heap.size w w1) (k : Below w1.heap.size w1 w2) : Below w.heap.size w w2 := bthen h h.size k
theorem bcell {W w1 : World} (hb : Below W.heap.size W w1) : (∀ b o, b < W.heap.size → w1.cell? ⟨b, o, none⟩ = W.cell? ⟨b, o, none⟩) ∧ (∀ b o, b < W.heap.size → w1.frozen? ⟨b, o, none⟩ = W.frozen? ⟨b, o, none⟩) :=
  ⟨fun b o h => hb.cell (p := ⟨b, o, none⟩) h, fun b o h => hb.frozen (p := ⟨b, o, none⟩) h⟩
theorem bkeep {w w1 : World} (h : Below w.heap.size w w1) {a : Addr} {v : Value} (hc : w.cell? a = some v) : w1.cell? a = some v := (h.cell (World.block_lt_of_cell? w a hc)).trans hc

/-- The worlds above w, as a type. -/
def Abv (w : World) : Type := { x : World // Below w.heap.size w x }
def Abv.w {w : World} (c : Abv w) : World := c.1
theorem Abv.bel {w : World} (c : Abv w) : Below w.heap.size w c.w := c.2
theorem Abv.cell {w : World} (c : Abv w) {a : Addr} {v : Value} (hc : w.cell? a = some v) : c.w.cell? a = some v := bkeep c.2 hc
theorem Abv.call {w : World} {f : FuncId} {args : Array Value} {P : Program} {v : Value} (n : Abv w) (hc : Calls P f args n.w fun e w' => e = .returned v ∧ Below n.w.heap.size n.w w') :
    Calls P f args n.w fun e w' => e = .returned v ∧ ∃ m : Abv w, w' = m.w := hc.mono fun _ w' ⟨he, hb⟩ => ⟨he, ⟨w', bgo n.2 hb⟩, rfl⟩

/-- ONE WALK OF THE LEXICAL ORDER SERVES EVERY ORDER, where each callee hands back one value, whatever the world above w, and makes memory alone. -/
theorem wp_region_above {P : Program} {id : Nat} {Q : Exit → Act → World → Prop} {a : Act} {w : World} {l : List Oper} (hm : P.follows .mixedOrders = true) (hB : Region.lexB .any l.toArray = true)
    (h : Nonempty (Abv w) → wpQuiet P l.toArray (fun w' => ∃ n : Abv w, w' = n.w) (fun a' => ∀ w', (∃ n : Abv w, w' = n.w) → Q .normal a' w') l a) : (Code.region id l.toArray true).wp P Q a w :=
  wp_region_quiet (C := fun w' => ∃ n : Abv w, w' = n.w) hm hB ⟨⟨w.drew, bdrew (Below.refl _ _)⟩, rfl⟩ (by simpa using h ⟨⟨w, Below.refl _ _⟩⟩)
/-- Behind it: the world is a new one, above w. -/
theorem quiet_above {P : Program} {ops : Array Oper} {Q : Exit → Act → World → Prop} {a : Act} {w : World} (h : ∀ w1, Below w.heap.size w w1 → Q .normal a w1) :
    wpQuiet P ops (fun w' => ∃ n : Abv w, w' = n.w) (fun a' => ∀ w', (∃ n : Abv w, w' = n.w) → Q .normal a' w') [] a :=
  wpQuiet_nil (by rintro _ ⟨n, rfl⟩; exact h _ n.2)
/-- The world at hand under a name of its own. -/
theorem wp_world {P : Program} {c : Code} {Q : Exit → Act → World → Prop} {a : Act} {w : World} (h : ∀ w1, w1 = w → c.wp P Q a w1) : c.wp P Q a w := h w rfl
end Go.Proofs.YtageofdcloneoaaDoor.Reg
