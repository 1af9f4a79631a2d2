/- TreeO, TarV put together. -/
import Derived.Test.YtkmjbakiippfpaaGreatDoorMTree
import Derived.Test.YtkmjbakiippfpaaGreatDoorWSized
import Derived.ChangeArms
import Derived.ChangeSlices
import Derived.SizedLaws
import Derived.OpenShut
import Derived.DataElems
import Derived.Test.YtkmjbakiippfpaaGreatDoorRows
import Derived.Test.YtkmjbakiippfpaaGreatDoorMTarS
import Derived.Stop.LaidErr
import Derived.Lib.LaidTab
import Derived.Deep.DeepLaidRun
import Derived.LaidLaws
import Derived.Handed
set_option linter.unusedVariables false
namespace Go.Proofs.YtkmjbakiippfpaaGreatDoor.Tree
open Go.RowKit Go.ChangeShapes Go.WideShapes Go.Proofs.YtkmjbakiippfpaaGreatDoor.Node Go.Proofs.YtkmjbakiippfpaaGreatDoorW.PrintWords
theorem weights_all {H : Type} {P : Program} {e : TypeId} : ∀ {ds : List (DataW H)} {d : DataW H}, d ∈ ds → ∀ n ∈ d.weights P e, n ∈ DataW.weightsAll P e ds
  | d0 :: ds, d, hd, n, hn => by
    simp only [DataW.weightsAll, List.mem_append]
    rcases List.mem_cons.1 hd with rfl | h
    · exact .inl hn
    · exact .inr (weights_all h n hn)
theorem wf_u8 {n : Int} (h : (Lit.int .u8 n).wf = true) : 0 ≤ n ∧ n ≤ 255 := by
  simp only [Lit.wf, Bool.and_eq_true, decide_eq_true_eq] at h
  have h1 : IntKind.min .u8 = 0 := rfl
  have h2 : IntKind.max .u8 = 255 := rfl
  rw [h1, h2] at h
  exact h
section
variable {H : Type} {enc : TypeId × Value → H} {W : World} {fuel : Nat}
/-- Bytes that are read. -/
theorem open_data {cs : List Value} {x : DataW H × List MemPlace} (h : DataW.trod enc Tryz.prog W 0 (fun _ => true) true fuel 23 cs = some x) (hs : ∀ n ∈ x.1.weights Tryz.prog 23, n ≤ reachBytes) :
    ∃ (A : Option Addr) (c : Nat) (l : List Int), cs = [.slice A l.length c] ∧ l.length ≤ c ∧ (Kd.int .u8).C W A l.length l ∧ (∀ b ∈ l, 0 ≤ b ∧ b ≤ 255) ∧ l.length ≤ 140737488351232 := by
  rcases open_ints Tryz.underlying23 Tryz.underlying5 (by kernel_rfl) h with ⟨rfl, _⟩ | ⟨a, len, cap, zs, rfl, _, hl, hm, hz, hx, hcell, hw⟩
  · exact ⟨none, 0, [], rfl, Nat.le_refl _, ⟨rfl, by simp, fun h => absurd h (by simp)⟩, by simp, by simp⟩
  · rw [if_pos rfl] at hz
    have hlen : (zs.take len).length = len := by rw [List.length_take]; omega
    refine ⟨some a, cap, zs.take len, by rw [hlen], by omega, ⟨rfl, by rw [hlen]; have : maxLen = 9223372036854775807 := rfl; omega, fun _ => ⟨a, rfl, fun j p hp => ⟨[.int .u8 p], rfl, rfl, fun i u hu => ?_⟩⟩⟩, ?_, ?_⟩
    · have hj : j < len := by
        have := (List.getElem?_eq_some_iff.1 hp).1
        omega
      obtain ⟨rfl, rfl⟩ : i = 0 ∧ u = .int .u8 p := by
        cases i with
        | zero => exact ⟨rfl, (Option.some.inj hu).symm⟩
        | succ i => simp at hu
      have := hcell j (by omega)
      rw [List.getElem?_take_of_lt hj] at hp
      rw [show j * Kd.sz (Kd.int .u8) + 0 = j from by show j * 1 + 0 = j; omega, this, List.getD_eq_getElem?_getD, hp]
      rfl
    · intro b hb
      exact wf_u8 (hw b (List.mem_of_mem_take hb))
    · rw [hlen]
      obtain ⟨hx, _⟩ := Prod.mk.inj hx
      have hb : Tryz.prog.bytesOf 5 = 1 := by kernel_rfl
      have := hs ((((lits (H := H) .u8 (zs.take len)).length + (lits (H := H) .u8 (zs.drop len)).length)) * Tryz.prog.bytesOf 5) (by rw [show x.1 = _ from hx]; simp [DataW.weights, Tryz.underlying23])
      rw [hb] at this
      simp [lits] at this
      have hr : reachBytes = 140737488351232 := rfl
      omega
set_option maxRecDepth 100000 in
theorem open_node {cs : List Value} {x : DataW H × List MemPlace} (h : DataW.trod enc Tryz.prog W 0 (fun _ => true) true fuel 31 cs = some x) (hs : ∀ n ∈ x.1.weights Tryz.prog 31, n ≤ reachBytes) :
    ∃ y : Nd, kN.K W y cs ∧ Ok y := by
  obtain ⟨xs, m, rfl, rfl, hlen, hxs, hf⟩ := DataW.trod_struct Tryz.underlying31 h
  have hcells : Tryz.prog.cellsOf 31 = 5 := by kernel_rfl
  rw [hcells] at hlen
  obtain ⟨e0, e1, e2, e3, e4, rfl⟩ : ∃ e0 e1 e2 e3 e4, cs = [e0, e1, e2, e3, e4] := by
    match cs, hlen with
    | [a, b, c, d, e], _ => exact ⟨_, _, _, _, _, rfl⟩
  obtain ⟨x0, x1, x2, x3, x4, rfl⟩ : ∃ e0 e1 e2 e3 e4, xs = [e0, e1, e2, e3, e4] := by
    match xs, hxs with
    | [a, b, c, d, e], _ => exact ⟨_, _, _, _, _, rfl⟩
  have o1 : Tryz.prog.cellsOf 3 = 1 := by kernel_rfl
  have o2 : Tryz.prog.cellsOf 9 = 1 := by kernel_rfl
  have o3 : Tryz.prog.cellsOf 23 = 1 := by kernel_rfl
  have h0 : DataW.trod enc Tryz.prog W 0 (fun _ => true) true m 3 (List.take (Tryz.prog.cellsOf 3) (List.drop 0 [e0, e1, e2, e3, e4])) = some x0 := hf 0 _ rfl
  have h1 : DataW.trod enc Tryz.prog W 0 (fun _ => true) true m 9 (List.take (Tryz.prog.cellsOf 9) (List.drop 1 [e0, e1, e2, e3, e4])) = some x1 := hf 1 _ rfl
  have h2 : DataW.trod enc Tryz.prog W 0 (fun _ => true) true m 23 (List.take (Tryz.prog.cellsOf 23) (List.drop 2 [e0, e1, e2, e3, e4])) = some x2 := hf 2 _ rfl
  have h3 : DataW.trod enc Tryz.prog W 0 (fun _ => true) true m 3 (List.take (Tryz.prog.cellsOf 3) (List.drop 3 [e0, e1, e2, e3, e4])) = some x3 := hf 3 _ rfl
  have h4 : DataW.trod enc Tryz.prog W 0 (fun _ => true) true m 3 (List.take (Tryz.prog.cellsOf 3) (List.drop 4 [e0, e1, e2, e3, e4])) = some x4 := hf 4 _ rfl
  rw [o1] at h0 h3 h4
  rw [o2] at h1
  rw [o3] at h2
  obtain ⟨n0, r0, _, _⟩ := DataW.trod_int Tryz.underlying3 h0
  obtain ⟨n3, r3, _, _⟩ := DataW.trod_int Tryz.underlying3 h3
  obtain ⟨n4, r4, _, _⟩ := DataW.trod_int Tryz.underlying3 h4
  obtain ⟨s1, r1, q1, _⟩ := DataW.trod_string Tryz.underlying9 h1
  have hw : ∀ n ∈ DataW.weightsEach Tryz.prog [3, 9, 23, 3, 3] [x0.1, x1.1, x2.1, x3.1, x4.1], n ≤ reachBytes := by
    intro n hn
    refine hs n ?_
    simp only [DataW.weights, Tryz.underlying31]
    exact hn
  obtain ⟨A, c, l, r2, lc, hC, hb, hl⟩ := open_data h2 (fun n hn => hw n (DataW.weights_mem_each (j := 2) rfl rfl n hn))
  have hz := hw s1.data.toList.length (DataW.weights_mem_each (j := 1) rfl rfl _ (by rw [q1]; simp [DataW.weights]))
  obtain rfl : e0 = .int .i64 n0 := (List.cons.inj r0).1
  obtain rfl : e1 = .string s1 := (List.cons.inj r1).1
  obtain rfl : e2 = .slice A l.length c := (List.cons.inj r2).1
  obtain rfl : e3 = .int .i64 n3 := (List.cons.inj r3).1
  obtain rfl : e4 = .int .i64 n4 := (List.cons.inj r4).1
  refine ⟨⟨n0, s1, l, n3, n4⟩, kN_mk W ⟨n0, s1, l, n3, n4⟩ lc hC, hb, ?_, hl⟩
  rw [Array.length_toList] at hz
  exact hz
end
set_option maxRecDepth 100000 in
theorem open_nodes {H : Type} {enc : TypeId × Value → H} {W : World} {a : Option Addr} {len cap : Nat} {d : DataW H} {p : List MemPlace} (h : DataW.Trod enc Tryz.prog W 0 (fun _ => true) true 22 (.slice a len cap) d p) (hs : ∀ n ∈ d.weights Tryz.prog 22, n ≤ reachBytes) :
    ∃ l : List Nd, len = l.length ∧ l.length ≤ cap ∧ kN.C W a l.length l ∧ (∀ x ∈ l, Ok x) ∧ l.length * 64 ≤ 140737488351232 := by
  obtain ⟨fuel, hf⟩ := h
  rcases DataW.trod_slice Tryz.underlying22 hf with ⟨hcs, _⟩ | ⟨x, l, c, elems, rest, n, _, hcs, hx, _, hl, hm, hlen, hel, _, _⟩
  · simp [Value.cells] at hcs
    obtain ⟨rfl, rfl, rfl⟩ := hcs
    exact ⟨[], rfl, Nat.le_refl _, ⟨rfl, by simp, fun h => absurd h (by simp)⟩, by simp, by simp⟩
  · simp [Value.cells] at hcs
    obtain ⟨rfl, rfl, rfl⟩ := hcs
    obtain ⟨rfl, _⟩ := Prod.mk.inj hx
    have hcells : Tryz.prog.cellsOf 31 = 5 := by kernel_rfl
    have hb : Tryz.prog.bytesOf 31 = 64 := by kernel_rfl
    rw [hcells] at hel
    have hw : ∀ n ∈ (((elems.map (·.1)).length + (rest.map (·.1)).length) * Tryz.prog.bytesOf 31 :: (DataW.weightsAll Tryz.prog 31 (elems.map (·.1)) ++ DataW.weightsAll Tryz.prog 31 (rest.map (·.1)))), n ≤ reachBytes := by
      intro n hn
      refine hs n ?_
      simp only [DataW.weights, Tryz.underlying22]
      exact hn
    have hsz := hw _ (List.mem_cons_self)
    rw [hb] at hsz
    have each : ∀ i, i < elems.length → ∃ y : Nd, (∃ cs : List Value, W.cells? 0 (x.add (i * 5)) 5 = some cs ∧ kN.K W y cs) ∧ Ok y := by
      intro i hi
      have he := hel i (by omega)
      rw [List.getElem?_eq_getElem hi] at he
      obtain ⟨cs, hc, ht⟩ := Option.bind_eq_some_iff.1 he
      obtain ⟨y, h1, h2⟩ := open_node ht (fun m hm => hw m (by
        refine List.mem_cons_of_mem _ (List.mem_append_left _ (weights_all (d := elems[i].1) (List.mem_map_of_mem (List.getElem_mem hi)) m hm))))
      exact ⟨y, ⟨cs, hc, h1⟩, h2⟩
    obtain ⟨f, hfs⟩ : ∃ f : Nat → Nd, ∀ i, i < elems.length → (∃ cs : List Value, W.cells? 0 (x.add (i * 5)) 5 = some cs ∧ kN.K W (f i) cs) ∧ Ok (f i) := by
      refine ⟨fun i => if h : i < elems.length then Classical.choose (each i h) else zN, fun i hi => ?_⟩
      dsimp only
      rw [dif_pos hi]
      exact Classical.choose_spec (each i hi)
    refine ⟨(List.range elems.length).map f, by simp [hlen], by simp; omega, ⟨rfl, ?_, fun _ => ⟨x, rfl, fun j p hp => ?_⟩⟩, ?_, ?_⟩
    · simp
      have : maxLen = 9223372036854775807 := rfl
      omega
    · have hj : j < elems.length := by
        have := (List.getElem?_eq_some_iff.1 hp).1
        simpa using this
      obtain rfl : f j = p := by
        rw [List.getElem?_map, List.getElem?_range hj] at hp
        exact Option.some.inj hp
      obtain ⟨⟨cs, h1, h2⟩, _⟩ := hfs j hj
      obtain ⟨_, h4, h5⟩ := World.cells?_some h1
      refine ⟨cs, h4, h2, fun i u hu => ?_⟩
      have hi : i < 5 := by
        have := (List.getElem?_eq_some_iff.1 hu).1
        omega
      have := h5 i hi
      rw [hu] at this
      rwa [Addr.add_add] at this
    · intro y hy
      obtain ⟨i, hi, rfl⟩ := List.mem_map.1 hy
      exact (hfs i (List.mem_range.1 hi)).2
    · simp at hsz ⊢
      have hr : reachBytes = 140737488351232 := rfl
      omega
end Go.Proofs.YtkmjbakiippfpaaGreatDoor.Tree
set_option linter.unusedVariables false
namespace Go.Proofs.YtkmjbakiippfpaaGreatDoor.Tar
open Go.RowKit Go.Lib Go.ChangeShapes Go.WideShapes Go.Proofs.YtkmjbakiippfpaaGreatDoor.Node Go.Proofs.YtkmjbakiippfpaaGreatDoor.Tree
open Go.Proofs.YtkmjbakiippfpaaGreatDoor.Oct (Tz)
open Go.Proofs.YtkmjbakiippfpaaGreatDoor.Rec (Laid)
theorem g64 : Tryz.prog.globalNamed "math/bits.deBruijn64tab" = some 7 := by kernel_rfl
theorem gPow : Tryz.prog.globalNamed "internal/strconv.uint64pow10" = some 5 := by kernel_rfl
theorem gER : Tryz.prog.globalNamed "strconv.ErrRange" = some 4 := by kernel_rfl
theorem gES : Tryz.prog.globalNamed "strconv.ErrSyntax" = some 3 := by kernel_rfl
theorem gERType : (Tryz.prog.globals[4]?).map (·.type) = some 105 := by kernel_rfl
theorem gESType : (Tryz.prog.globals[3]?).map (·.type) = some 105 := by kernel_rfl
theorem cellsES : Tryz.prog.cellsOf 182 = 1 := by kernel_rfl
theorem cellsStr : Tryz.prog.cellsOf 9 = 1 := by kernel_rfl
theorem star : "*" ++ "errors.errorString" = "*errors.errorString" := by decide
theorem rowES (u : TypeId) (h : Tryz.prog.typeName? 3 u = some "*errors.errorString") : u = 180 :=
  typeName_ptr_named (nm := "errors.errorString") (by rw [star]; kernel_rfl) (by kernel_rfl) (by decide) u (by rw [star]; exact h)
theorem pow_data : (Rows.laid_internal_strconv_uint64pow10 : DataW Unit) = Lib.tabData .u64 Lib.pow10Tab := by rfl
def tab32 : List Int := [0, 1, 28, 2, 29, 14, 24, 3, 30, 22, 20, 15, 25, 17, 4, 8, 31, 27, 13, 23, 21, 19, 16, 7, 26, 12, 18, 6, 11, 5, 10, 9]
def tab64 : List Int := [0, 1, 56, 2, 57, 49, 28, 3, 61, 58, 42, 50, 38, 29, 17, 4, 62, 47, 59, 36, 45, 43, 51, 22, 53, 39, 33, 30, 24, 18, 12, 5, 63, 55, 48, 27, 60, 41, 37, 16, 46, 35, 44, 21, 52, 32, 23, 11, 54, 26, 40, 15, 34, 20, 31, 10, 25, 14, 19, 9, 13, 8, 7, 6]
def firstZ : List Int := List.map Int.ofNat Go.Pinned.utf8FirstZ
def acceptZ : List Int := [128, 191, 160, 191, 128, 159, 144, 191, 128, 143, 0, 0, 0, 0, 0, 0, 0, 0, 0, 0, 0, 0, 0, 0, 0, 0, 0, 0, 0, 0, 0, 0]
theorem tab_data : (Rows.laid_math_bits_deBruijn64tab : DataW Unit) = Lib.tabData .u8 tab64 := by rfl
abbrev list7 : List (String × DataW Unit) := [("math/bits.deBruijn32tab", Rows.laid_math_bits_deBruijn32tab), ("math/bits.deBruijn64tab", Rows.laid_math_bits_deBruijn64tab), ("internal/strconv.uint64pow10", Rows.laid_internal_strconv_uint64pow10), ("unicode/utf8.acceptRanges", Rows.laid_unicode_utf8_acceptRanges), ("strconv.ErrRange", Rows.laid_strconv_ErrRange), ("strconv.ErrSyntax", Rows.laid_strconv_ErrSyntax), ("unicode/utf8.first", Rows.laid_unicode_utf8_first)]
theorem tz_of (W : World) (h : laidMet Tryz.prog list7 W) : Tz W := by
  have h3 : laidMet Tryz.prog (("math/bits.deBruijn64tab", Lib.tabData .u8 tab64) :: [("internal/strconv.uint64pow10", Rows.laid_internal_strconv_uint64pow10), ("unicode/utf8.acceptRanges", Rows.laid_unicode_utf8_acceptRanges), ("strconv.ErrRange", Rows.laid_strconv_ErrRange), ("strconv.ErrSyntax", Rows.laid_strconv_ErrSyntax), ("unicode/utf8.first", Rows.laid_unicode_utf8_first)]) W := by
    rw [← tab_data]
    exact h.tail
  have ht : TabIs Tryz.prog W "math/bits.deBruijn64tab" .u8 tab64 := Lib.tabIs_of_head g64 (by kernel_rfl) (t := 184) Tryz.underlying184 Tryz.underlying5 (by kernel_rfl) (by kernel_rfl) h3
  unfold TabIs at ht
  have h0 := World.var?_cell g64 ht 7
  unfold Tz
  simpa [tab64] using h0
theorem laid_of (W : World) (h : laidMet Tryz.prog list7 W) (hS : W.ShapedOpen Tryz.prog) : Laid W := by
  have h3 : laidMet Tryz.prog (("internal/strconv.uint64pow10", Lib.tabData .u64 Lib.pow10Tab) :: [("unicode/utf8.acceptRanges", Rows.laid_unicode_utf8_acceptRanges), ("strconv.ErrRange", Rows.laid_strconv_ErrRange), ("strconv.ErrSyntax", Rows.laid_strconv_ErrSyntax), ("unicode/utf8.first", Rows.laid_unicode_utf8_first)]) W := by
    rw [← pow_data]
    exact h.tail.tail
  obtain ⟨a0, s0, hv0, -, -, -⟩ := laid_sentinel h3.tail.tail gER gERType Tryz.underlying105 rowES Tryz.underlying180 Tryz.underlying182 rfl rfl Tryz.underlying9 cellsES cellsStr
  obtain ⟨a1, s1, hv1, -, -, -⟩ := laid_sentinel h3.tail.tail.tail gES gESType Tryz.underlying105 rowES Tryz.underlying180 Tryz.underlying182 rfl rfl Tryz.underlying9 cellsES cellsStr
  exact ⟨Lib.tabIs_of_head gPow (by kernel_rfl) (t := 170) Tryz.underlying170 Tryz.underlying134 (by kernel_rfl) (by kernel_rfl) h3, ⟨_, _, by have h0 := World.var?_cell gES hv1 0; simpa using h0⟩, ⟨_, _, by have h0 := World.var?_cell gER hv0 0; simpa using h0⟩, Tryz.maxLen_some W hS⟩

/-! ### One start that fits -/
noncomputable def low : Nat := (World.holding Tryz.prog default ⟨#[], #[], []⟩).heap.size
def ints (k : IntKind) (zs : List Int) : Array Value := (zs.map fun z => Value.int k z).toArray
def setTo (v : Array Value) : Obj → Obj
  | .cells _ t frozen => .cells v t frozen
  | o => o
noncomputable def laidWorld (os : Os) : World :=
  let w0 := World.holding Tryz.prog os ⟨#[.cells #[.string ⟨#[105, 110, 118, 97, 108, 105, 100, 32, 115, 121, 110, 116, 97, 120]⟩] 182, .cells #[.string ⟨#[118, 97, 108, 117, 101, 32, 111, 117, 116, 32, 111, 102, 32, 114, 97, 110, 103, 101]⟩] 182], #[], []⟩
  { w0 with heap := ((((((w0.heap.modify 5 (setTo (ints .u64 Lib.pow10Tab))).modify 3 (setTo #[.iface 180 (.pointer (some ⟨low, 0, none⟩))])).modify 4 (setTo #[.iface 180 (.pointer (some ⟨low + 1, 0, none⟩))])).modify 6 (setTo (ints .u8 tab32))).modify 7 (setTo (ints .u8 tab64))).modify 1 (setTo (ints .u8 firstZ))).modify 2 (setTo (ints .u8 acceptZ)) }
theorem laidWorld_met (os : Os) (args : Array Value) : laidMet Tryz.prog list7 ((laidWorld os).forCall (fun _ _ => 0) ⟨#[], args, []⟩).memory :=
  laidMet_of_run3 8 (by kernel_rfl) (by kernel_rfl) (by kernel_rfl)
theorem back_row (A : Option Addr) (c : Nat) (l : List Nd) (w : World) (hc : l.length ≤ c) (hC : kN.C w A l.length l) (hok : ∀ x ∈ l, Ok x) (hl : l.length * 64 ≤ 140737488351232) (hL : laidMet Tryz.prog list7 w) (hS : w.ShapedOpen Tryz.prog) :
    Calls Tryz.prog 3 #[.slice A l.length c] w fun e w' => e = .returned (.bool true) ∧ Below w.heap.size w w' :=
  back_law A c l w hC hc hok hl (tz_of w hL) (laid_of w hL hS)
theorem blanks_row (A : Option Addr) (c : Nat) (l : List Nd) (n : Int) (w : World) (_ : l.length ≤ c) (hC : kN.C w A l.length l) (hok : ∀ x ∈ l, Ok x) (hl : l.length * 64 ≤ 140737488351232) (hn : (Lit.int .i64 n).wf = true) (hL : laidMet Tryz.prog list7 w) (hS : w.ShapedOpen Tryz.prog) :
    Calls Tryz.prog 4 #[.slice A l.length c, .int .i64 n] w fun e w' => e = .returned (.bool true) ∧ Below w.heap.size w w' :=
  blanks_law A c l n w hC hok hl (by
    simp only [Lit.wf, Bool.and_eq_true, decide_eq_true_eq] at hn
    have h1 : IntKind.min .i64 = -9223372036854775808 := rfl
    have h2 : IntKind.max .i64 = 9223372036854775807 := rfl
    rw [h1, h2] at hn
    exact hn) (tz_of w hL) (laid_of w hL hS)
/-- A row's wrap that hands on a condition of one's own and the world's shape. -/
theorem handed_both {H : Type} {enc : TypeId × Value → H} {a : Assume} {C : Checked} {os : Os} {f : FuncId} {fn : Func} {s : ChangeSpec} {conds : List PathCond} {apart fresh handsOn again : Bool} {X : World → Array Value → Prop}
    (hX : ∀ (w w' : World) (args : Array Value), w.heap = w'.heap → X w args → X w' args)
    (own : ownKnob C.prog.godebug = none) (started : os.Started) (noInit : C.prog.inits.idxOf? f = none) (hfn : C.prog.funcs[f]? = some fn)
    (witness : ∃ (w : World) (tape : Tape) (i : Input), w.os = os ∧ (w.forCall tape i).Shaped C.prog ∧ i.vars = [] ∧ Input.okWide C.prog (w.forCall tape i) .any w.heap.size f i ∧
      ((s.pre enc C.prog fn conds apart (w.forCall tape i).memory i.args ∧ X (w.forCall tape i).memory i.args) ∧ sizedMet enc C.prog fn (OpenSpec.ofChange s) apart (w.forCall tape i).memory i.args) ∧ a.holds C.prog (lone (Frame.enter C.prog f i.args .normal) [] (w.forCall tape i)))
    (contract : ∀ (W : World) (base : Nat) (args : Array Value) (ds gs : List (DataW H)) (before : List MemPlace),
      (∀ (j : Nat) t v, fn.params[j]? = some t → args[j]? = some v → Value.okWide C.prog W .any base t v) →
      DataW.Whole enc C.prog fn.params.toList s.vars apart W args.toList ds gs before →
      conds.all (PathCond.test C.prog ⟨fn.params.toList, ds, s.plain.varTypes C.prog, gs⟩) = true →
      (DataW.weightsEach C.prog (fn.params.toList ++ s.plain.varTypes C.prog) (ds ++ gs)).all (· ≤ reachBytes) = true → X W args → W.ShapedOpen C.prog →
      a.holds C.prog (lone (Frame.enter C.prog f args .normal) [] W) →
      Calls C.prog f args W fun e W' => ∃ v, e = .returned v ∧ s.post enc C.prog fn apart fresh handsOn again W args v W') :
    ReturnsInHanded a C os f .any (fun w args => (s.pre enc C.prog fn conds apart w args ∧ X w args) ∧ sizedMet enc C.prog fn (OpenSpec.ofChange s) apart w args) (s.post enc C.prog fn apart fresh handsOn again) := by
  refine returnsInHanded_of_calls own started noInit witness ?_
  intro w tape i _ hsh _ hok hpre hholds
  obtain ⟨_, _, _, gn, hgn, _, _, _, _, hval⟩ := hok
  obtain rfl : gn = fn := Option.some.inj (hgn.symm.trans hfn)
  obtain ⟨⟨⟨ds, gs, before, hw, hc⟩, hx⟩, hz⟩ := hpre
  refine (contract (w.forCall tape i) w.heap.size i.args ds gs before hval (DataW.Whole.of_heap (w' := w.forCall tape i) (by rfl) hw) hc (hz.weights hw) (hX _ _ _ (by rfl) hx) hsh hholds).mono ?_
  rintro e W' ⟨v, rfl, hp⟩
  exact ChangeSpec.post_blind hp
end Go.Proofs.YtkmjbakiippfpaaGreatDoor.Tar
