/- A []string parameter opened; TarRecords at a row's parameters. -/
import Derived.Test.YtfnncfgdlinmcaaDoorRecD
import Derived.SliceStrings
import Derived.SizedLaws
import Derived.Handed
set_option linter.unusedVariables false
namespace Go.Proofs.YtfnncfgdlinmcaaDoor.Rec
open Go.RowKit Go.Lib Go.ChangeShapes Go.WideShapes Go.Proofs.YtfnncfgdlinmcaaDoorW.PrintWords Go.Proofs.YtfnncfgdlinmcaaDoorW.PrintLast Go.Proofs.YtfnncfgdlinmcaaDoorW.PrintMore
theorem open_strs {H : Type} {enc : TypeId × Value → H} {W : World} {a : Option Addr} {len cap : Nat} {d : DataW H} {p : List MemPlace} (h : DataW.Trod enc Tryd.prog W 0 (fun _ => true) true 35 (.slice a len cap) d p) (hs : ∀ n ∈ d.weights Tryd.prog 35, n ≤ reachBytes) :
    ∃ l : List ByteArray, len = l.length ∧ l.length ≤ cap ∧ Kd.string.C W a l.length l ∧ True ∧ l.length * 16 ≤ reachBytes := by
  obtain ⟨fuel, hf⟩ := h
  rcases open_strings Tryd.underlying35 Tryd.underlying9 (by kernel_rfl) hf with ⟨hcs, _⟩ | ⟨x, l, c, ss, hcs, _, hl, hm, hz, hx, hcell, _⟩
  · simp [Value.cells] at hcs
    obtain ⟨rfl, rfl, rfl⟩ := hcs
    exact ⟨[], rfl, by simp, ⟨rfl, by simp, fun h => absurd h (by simp)⟩, trivial, by simp⟩
  · simp [Value.cells] at hcs
    obtain ⟨rfl, rfl, rfl⟩ := hcs
    obtain ⟨hx, _⟩ := Prod.mk.inj hx
    subst hx
    have hz2 : ss.length = cap := by simpa using hz
    have hlen : (ss.take len).length = len := by rw [List.length_take]; omega
    have hw : len * 16 ≤ reachBytes := by
      have h1 := hs (((strs (H := H) (ss.take len)).length + (strs (H := H) (ss.drop len)).length) * Tryd.prog.bytesOf 9) (by simp [DataW.weights, Tryd.underlying35])
      rw [show Tryd.prog.bytesOf 9 = 16 by kernel_rfl] at h1
      have h2 : (strs (H := H) (ss.take len)).length = len := by simp [strs]; omega
      rw [h2] at h1
      omega
    refine ⟨ss.take len, hlen.symm, by omega, ?_, trivial, by omega⟩
    rw [hlen]
    refine Kd.C_of_reads (enc := Value.string) (d := ByteArray.empty) (h1 := fun _ => rfl) ⟨hlen, by unfold reachBytes at hw; omega, fun hn => ⟨x, rfl, fun j hj => ?_⟩⟩
    rw [hcell j (by omega), List.getD_eq_getElem?_getD, List.getD_eq_getElem?_getD, List.getElem?_take_of_lt hj]
theorem records_law (a1 : Option Addr) (c1 : Nat) (ks : List ByteArray) (a2 : Option Addr) (c2 : Nat) (vs : List ByteArray) (w : World) (_ : ks.length ≤ c1) (h1 : Kd.string.C w a1 ks.length ks) (_ : True) (_ : ks.length * 16 ≤ reachBytes) (_ : vs.length ≤ c2) (h2 : Kd.string.C w a2 vs.length vs) (_ : True) (_ : vs.length * 16 ≤ reachBytes) (hL : laidMet Tryd.prog list5 w) (hS : w.ShapedOpen Tryd.prog) :
    Calls Tryd.prog 4 #[.slice a1 ks.length c1, .slice a2 vs.length c2] w fun e w' => e = .returned (.bool true) ∧ Below w.heap.size w w' :=
  records_walk a1 a2 c1 c2 ks vs w h1 h2 (laid_of w hL hS)
/-- A row's wrap that hands on a condition of one's own and the world's shape. -/
theorem handed_both {H : Type} {enc : TypeId × Value → H} {a : Assume} {C : Checked} {os : Os} {f : FuncId} {fn : Func} {s : ChangeSpec} {conds : List PathCond} {apart fresh handsOn again : Bool} {X : World → Array Value → Prop}
    (hX : ∀ (w w' : World) (args : Array Value), w.heap = w'.heap → X w args → X w' args)
    (own : ownKnob C.prog.godebug = none) (started : os.Started) (noInit : C.prog.inits.idxOf? f = none) (hfn : C.prog.funcs[f]? = some fn)
    (witness : ∃ (w : World) (tape : Tape) (i : Input), w.os = os ∧ (w.forCall tape i).Shaped C.prog ∧ i.vars = [] ∧ Input.okWide C.prog (w.forCall tape i) .any w.heap.size f i ∧
      ((s.pre enc C.prog fn conds apart (w.forCall tape i).memory i.args ∧ X (w.forCall tape i).memory i.args) ∧ sizedMet enc C.prog fn (OpenSpec.ofChange s) apart (w.forCall tape i).memory i.args) ∧ a.holds C.prog (lone (Frame.enter C.prog f i.args .normal) [] (w.forCall tape i)))
    (contract : ∀ (W : World) (base : Nat) (args : Array Value) (ds gs : List (DataW H)) (before : List MemPlace),
      (∀ (j : Nat) t v, fn.params[j]? = some t → args[j]? = some v → Value.okWide C.prog W .any base t v) →
      DataW.Whole enc C.prog fn.params.toList s.vars apart W args.toList ds gs before →
      conds.all (PathCond.test C.prog ⟨fn.params.toList, ds, s.plain.varTypes C.prog, gs⟩) = true →
      (DataW.weightsEach C.prog (fn.params.toList ++ s.plain.varTypes C.prog) (ds ++ gs)).all (· ≤ reachBytes) = true → X W args → W.ShapedOpen C.prog →
      a.holds C.prog (lone (Frame.enter C.prog f args .normal) [] W) →
      Calls C.prog f args W fun e W' => ∃ v, e = .returned v ∧ s.post enc C.prog fn apart fresh handsOn again W args v W') :
    ReturnsInHanded a C os f .any (fun w args => (s.pre enc C.prog fn conds apart w args ∧ X w args) ∧ sizedMet enc C.prog fn (OpenSpec.ofChange s) apart w args) (s.post enc C.prog fn apart fresh handsOn again) := by
  refine returnsInHanded_of_calls own started noInit witness ?_
  intro w tape i _ hsh _ hok hpre hholds
  obtain ⟨_, _, _, gn, hgn, _, _, _, _, hval⟩ := hok
  obtain rfl : gn = fn := Option.some.inj (hgn.symm.trans hfn)
  obtain ⟨⟨⟨ds, gs, before, hw, hc⟩, hx⟩, hz⟩ := hpre
  refine (contract (w.forCall tape i) w.heap.size i.args ds gs before hval (DataW.Whole.of_heap (w' := w.forCall tape i) (by rfl) hw) hc (hz.weights hw) (hX _ _ _ (by rfl) hx) hsh hholds).mono ?_
  rintro e W' ⟨v, rfl, hp⟩
  exact ChangeSpec.post_blind hp
end Go.Proofs.YtfnncfgdlinmcaaDoor.Rec
