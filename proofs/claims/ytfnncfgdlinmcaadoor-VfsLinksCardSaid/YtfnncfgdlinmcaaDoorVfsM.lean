/- vfs.New walked: the map of a tree's nodes, each with bytes of its own. -/
import Derived.Test.YtfnncfgdlinmcaaDoorVfsP
import Derived.Maps.OwnSet
import Derived.StillTailTactics
set_option linter.unusedVariables false
set_option linter.unusedSimpArgs false
namespace Go.Proofs.YtfnncfgdlinmcaaDoor.Vfs
open Go.RowKit Go.BigFrame Go.Maps Go.Proofs.YtfnncfgdlinmcaaDoor.Reg Go.Proofs.YtfnncfgdlinmcaaDoor.Rout Go.Proofs.YtfnncfgdlinmcaaDoor.Node Go.Proofs.YtfnncfgdlinmcaaDoor.Tree Go.Proofs.YtfnncfgdlinmcaaDoorW.PrintWords Go.Proofs.YtfnncfgdlinmcaaDoorW.PrintLast Go.Proofs.YtfnncfgdlinmcaaDoorW.PrintMore
/-! ### bytes.Clone -/
theorem bclone_calls (A : Option Addr) (c : Nat) (xs : List Int) (w : World) (hC : (Kd.int .u8).C w A xs.length xs) (hl : xs.length ≤ 140737488355328) :
    Calls Tryd.prog 28 #[.slice A xs.length c] w fun e w' => ∃ v, e = .returned v ∧ (Kd.int .u8).R 5 w' w.heap.size (fun _ => True) v xs ∧ Below w.heap.size w w' := by
  cases A with
  | none =>
    have h0 : xs.length = 0 := by
      rcases Nat.eq_zero_or_pos xs.length with h | h
      · exact h
      · obtain ⟨ad, he, _⟩ := Kd.at_int hC 0 (by omega) (by omega)
        cases he
    obtain rfl : xs = [] := List.eq_nil_of_length_eq_zero h0
    refine (Tryd.bytes_Clone_nil 0 c w).mono fun e w' ⟨he, hw⟩ => ⟨_, he, ?_, ?_⟩
    · rw [hw]; exact Kd.R_nil _ _ _ _ _
    · rw [hw]; exact Below.refl _ _
  | some ad =>
    refine (Tryd.bytes_Clone_at ad xs.length c xs w rfl hl (fun i hi => ?_)).mono fun e w' ⟨v, he, hown, _, hb⟩ => ⟨v, he, Kd.R_of_own hown (fun _ _ => trivial), hb⟩
    obtain ⟨ad2, hA2, hx2⟩ := Kd.at_int hC (i : Int) (by omega) (by omega)
    obtain rfl := Option.some.inj hA2
    rw [Int.toNat_natCast] at hx2
    rw [hx2]
    unfold rd
    rw [Int.toNat_natCast]
/-! ### the map of nodes: each element is read as its very value -/
def rawR (v : Value) : Option (DataW Value × List MemPlace) := some (.held v, [])
abbrev ownN (w : World) (b n : Nat) (D : DataW Value) : Prop := w.ownsMap Tryd.prog 9 rawR b n D
def zeroNode : Value := .agg #[.int .i64 0, .string ⟨#[]⟩, .slice none 0 0, .int .i64 0, .int .i64 0]
theorem zeroN (w : World) : (zeroValue 45).run Tryd.prog w = .ok zeroNode w := by kernel_rfl
/-- At each path what the map M says, with bytes in blocks that are ok. -/
def Says (D : DataW Value) (w : World) (base : Nat) (ok : Nat → Prop) (M : NMap) : Prop :=
  ∀ p : ByteArray, (M p = none → Maps.has D (.string p.data.toList) = false) ∧ ∀ x, M p = some x → Maps.has D (.string p.data.toList) = true ∧ ∃ cs : List Value, D.atKey (.string p.data.toList) (.held zeroNode) = .held (.agg cs.toArray) ∧ kN.M w base ok x cs
def MapAt (w : World) (base b n : Nat) (ok : Nat → Prop) (M : NMap) : Prop := ∃ D, ownN w b n D ∧ Says D w base ok M
theorem Says.kept {D : DataW Value} {w w' : World} {base : Nat} {ok : Nat → Prop} {M : NMap} (h : Says D w base ok M) (hm : ∀ q, ok q → q < w.heap.size → w'.heap[q]? = w.heap[q]?) : Says D w' base ok M := fun p => ⟨(h p).1, fun x hx => by
  obtain ⟨g1, cs, g2, g3⟩ := (h p).2 x hx
  exact ⟨g1, cs, g2, Kd.M_step g3 hm⟩⟩
theorem MapAt.kept {w w' : World} {base b n : Nat} {ok : Nat → Prop} {M : NMap} (h : MapAt w base b n ok M) (hb : w'.heap[b]? = w.heap[b]?) (hm : ∀ q, ok q → q < w.heap.size → w'.heap[q]? = w.heap[q]?) : MapAt w' base b n ok M := by
  obtain ⟨D, ⟨es, clock, h1, h2⟩, hp⟩ := h
  exact ⟨D, ⟨es, clock, hb.trans h1, h2⟩, hp.kept hm⟩
theorem MapAt.lt {w : World} {base b n : Nat} {ok : Nat → Prop} {M : NMap} (h : MapAt w base b n ok M) : b < w.heap.size := by
  obtain ⟨D, h1, _⟩ := h
  exact h1.lt
theorem MapAt.below {w w' : World} {base b n : Nat} {ok : Nat → Prop} {M : NMap} (h : MapAt w base b n ok M) (hb : Below w.heap.size w w') : MapAt w' base b n ok M :=
  h.kept (hb.block b h.lt) (fun q _ hq => hb.block q hq)
theorem Says.put {D : DataW Value} {w w' : World} {base : Nat} {ok : Nat → Prop} {M : NMap} (h : Says D w base ok M) (hD : IsMap D) (x : Nd) (cs : List Value) (hm : ∀ q, ok q → q < w.heap.size → w'.heap[q]? = w.heap[q]?) (hx : kN.M w' base ok x cs) :
    Says (D.put (.string x.f1.data.toList) (.held (.agg cs.toArray))) w' base ok (fun p => if x.f1 = p then some x else M p) := by
  intro p
  by_cases he : x.f1 = p
  · subst he
    dsimp only
    rw [if_pos rfl]
    refine ⟨(fun h => by cases h), fun y hy => ?_⟩
    cases hy
    exact ⟨Maps.has_put_same hD (by trivial) _, cs, Maps.atKey_put_same hD (by trivial) _ _, hx⟩
  · dsimp only
    rw [if_neg he]
    have hne : Lit.string p.data.toList ≠ Lit.string x.f1.data.toList := fun e => he (ba_ext (by injection e with e; exact e.symm))
    rw [Maps.has_put_other hne, Maps.atKey_put_other hne]
    refine ⟨(h p).1, fun y hy => ?_⟩
    obtain ⟨g1, cs', g2, g3⟩ := (h p).2 y hy
    exact ⟨g1, cs', g2, Kd.M_step g3 hm⟩
theorem Says.eq {D : DataW Value} {w : World} {base : Nat} {ok : Nat → Prop} {M M' : NMap} (h : Says D w base ok M) (e : M = M') : Says D w base ok M' := e ▸ h
theorem MapAt.made (w : World) (base : Nat) (ok : Nat → Prop) : MapAt (w.alloc (.map #[] 0)) base w.heap.size 0 ok (fun _ => none) :=
  ⟨_, World.ownsMap_made w _ _ _, fun p => ⟨fun _ => rfl, fun x hx => by cases hx⟩⟩
/-- What a lookup finds. -/
theorem MapAt.look {w : World} {base b n : Nat} {ok : Nat → Prop} {M : NMap} (h : MapAt w base b n ok M) (p : ByteArray) (hp : p.size ≤ 140737488351232) :
    (M p = none → (Instr.lookup 63 (.map (some b)) (.string p) true).run Tryd.prog w = .ok (.tuple #[zeroNode, .bool false]) w) ∧
    ∀ x, M p = some x → ∃ cs : List Value, kN.M w base ok x cs ∧ (Instr.lookup 63 (.map (some b)) (.string p) true).run Tryd.prog w = .ok (.tuple #[.agg cs.toArray, .bool true]) w := by
  obtain ⟨D, h1, hq⟩ := h
  obtain ⟨v, ps, hrun, hv⟩ := h1.look_ok (z := zeroNode) (zd := .held zeroNode) (zp := []) key9 Tryd.underlying63 (zeroN w) rfl (Go.WideMaps.keyOf_string_mk (s := p) Tryd.underlying9 (by unfold maxLen; omega))
  unfold rawR at hv
  simp only [Option.some.injEq, Prod.mk.injEq] at hv
  refine ⟨fun hn => ?_, fun x hx => ?_⟩
  · have h0 := (hq p).1 hn
    rw [Maps.atKey_of_not_has h0] at hv
    obtain rfl : v = zeroNode := by injection hv.1
    rw [hrun, h0]
  · obtain ⟨g1, cs, g2, g3⟩ := (hq p).2 x hx
    rw [g2] at hv
    obtain rfl : v = .agg cs.toArray := by injection hv.1
    exact ⟨cs, g3, by rw [hrun, g1]⟩
/-! ### New -/
/-- The file system at g, its map at b: as it is made. -/
def FsNew (w : World) (g b : Nat) : Prop := w.heap[g]? = some (.cells #[.map (some b), .slice none 0 0, .int .i64 0, .bool false, .bool false, .int .i64 (-1)] 66 (0, 0))
theorem new_bad (A : Option Addr) (c : Nat) (l : List Nd) (w : World) (hC : kN.C w A l.length l) (hok : ∀ x ∈ l, Ok x) (hl : l.length ≤ 140737488351232) (hb : (chk l).2 ≠ 0) :
    Calls Tryd.prog 14 #[.slice A l.length c] w fun e w' => e = .returned (.tuple #[.pointer none, .int .i64 21]) ∧ Below w.heap.size w w' := by
  have H1 := Lib.hid (check_calls A c l w hC hok hl)
  clear hC hok
  generalize chk l = R at *
  have hb' : (R.2 != 0) = true := by simpa using hb
  clear hb
  go_enter Tryd.func14, Tryd.ntmps14
  go_wp2_with (go_at_call 27; refine H1.out.mono ?_; rintro e w1 ⟨rfl, hb1⟩)
  go_ret2
  exact ⟨rfl, hb1⟩
set_option maxRecDepth 100000 in
set_option maxHeartbeats 4000000 in
theorem new_good (A : Option Addr) (c : Nat) (l : List Nd) (w : World) (hC : kN.C w A l.length l) (hok : ∀ x ∈ l, Ok x) (hl : l.length ≤ 140737488351232) (hb : (chk l).2 = 0) :
    Calls Tryd.prog 14 #[.slice A l.length c] w fun e w' => ∃ b, e = .returned (.tuple #[.pointer (some ⟨b + 1, 0, none⟩), .int .i64 0]) ∧ w.heap.size ≤ b ∧ FsNew w' (b + 1) b ∧ MapAt w' w.heap.size b l.length (fun q => q ≠ b + 1 ∧ q ≠ b) (mapL l) ∧ Below w.heap.size w w' := by
  have HC := Lib.hid hC
  have HOK := Lib.hid hok
  have H1 := Lib.hid (check_calls A c l w hC hok hl)
  have hmm := @run_makeMap Tryd.prog
  have T := Lib.hid (tree_is l hb)
  clear hC hok
  rw [show chk l = ((chk l).1, 0) by rw [← hb]] at H1
  clear hb
  generalize (chk l).1 = R at *
  go_enter Tryd.func14, Tryd.ntmps14
  go_wp2_with (go_at_call 27; refine H1.out.mono ?_; rintro e w1 ⟨rfl, hb1⟩)
  have hs1 := hb1.size
  generalize hB : w1.heap.size = B at *
  go_loopw [8, 21] (fun _ i wr => ∃ k : Nat, i = .int .i64 k ∧ k ≤ l.length ∧ Hid (MapAt wr w.heap.size B k (fun q => q ≠ B + 1 ∧ q ≠ B) (mapL (l.take k))) ∧ Below w.heap.size w wr ∧ Hid (FsNew wr (B + 1) B) ∧ B + 1 < wr.heap.size) (fun _ i _ => (l.length - intOf i).toNat)
  case atStart =>
    refine ⟨0, rfl, by omega, Lib.hid ?_, ?_, Lib.hid ?_, by simp [hB]⟩
    · have h := (MapAt.made w1 w.heap.size (fun q => q ≠ B + 1 ∧ q ≠ B)).below (balloc (Below.refl _ _) (.cells #[.map (some B), .slice none 0 0, .int .i64 0, .bool false, .bool false, .int .i64 (-1)] 66))
      rw [hB] at h
      exact h
    · exact balloc (balloc hb1 _) _
    · have h := (MapKept.heap_alloc (w1.alloc (.map #[] 0)) (.cells #[.map (some B), .slice none 0 0, .int .i64 0, .bool false, .bool false, .int .i64 (-1)] 66)).1
      rw [World.size_alloc, hB] at h
      exact h
  case round =>
    obtain ⟨k, rfl, hk, hM, hbr, hF, hlt2⟩ := hrel
    by_cases hlt : k < l.length
    · obtain ⟨ad, A2, c2, hA, c0, c1, c2', c3, c4, hl2, hd⟩ := atN (Kd.C_below HC.out hbr) (k : Int) (by omega) (by omega)
      subst hA
      have hxm := rdN_mem l k hlt
      have hps := (HOK.out _ hxm).ds
      have hv := valid_size _ (T.out.valid _ hxm)
      have htk := Lib.hid (take_rdN l k hlt)
      have HD := Lib.hid hd
      rw [Int.toNat_natCast] at c0 c1 c2' c3 c4
      clear hxm hd
      generalize rdN l (k : Int) = x at *
      have k0 : (0 : Int) ≤ (k : Int) := by omega
      have k1 : (k : Int) < l.length := by omega
      have HB := Lib.hid (fun W (h : Below wr.heap.size wr W) => bclone_calls A2 c2 x.f2 W (Kd.C_below HD.out h) (by omega))
      go_upto_region 9 with (go_at_call 28; refine (HB.out _ (balloc (Below.refl _ _) _)).mono ?_; rintro e w3 ⟨v2, rfl, hR2, hb3⟩; obtain ⟨A3, e3, rfl, hl3, hC3⟩ := Kd.R_reads hR2; have q0 := bkeep hb3 (show (wr.alloc (.cells #[.int .i64 x.f0, .string x.f1, .slice A2 x.f2.length c2, .int .i64 x.f3, .int .i64 x.f4] 45)).cell? ⟨wr.heap.size, 0, none⟩ = some (.int .i64 x.f0) by simp); have q1 := bkeep hb3 (show (wr.alloc (.cells #[.int .i64 x.f0, .string x.f1, .slice A2 x.f2.length c2, .int .i64 x.f3, .int .i64 x.f4] 45)).cell? ⟨wr.heap.size, 1, none⟩ = some (.string x.f1) by simp); have q2 := bkeep hb3 (show (wr.alloc (.cells #[.int .i64 x.f0, .string x.f1, .slice A2 x.f2.length c2, .int .i64 x.f3, .int .i64 x.f4] 45)).cell? ⟨wr.heap.size, 2, none⟩ = some (.slice A2 x.f2.length c2) by simp); have q3 := bkeep hb3 (show (wr.alloc (.cells #[.int .i64 x.f0, .string x.f1, .slice A2 x.f2.length c2, .int .i64 x.f3, .int .i64 x.f4] 45)).cell? ⟨wr.heap.size, 3, none⟩ = some (.int .i64 x.f3) by simp); have q4 := bkeep hb3 (show (wr.alloc (.cells #[.int .i64 x.f0, .string x.f1, .slice A2 x.f2.length c2, .int .i64 x.f3, .int .i64 x.f4] 45)).cell? ⟨wr.heap.size, 4, none⟩ = some (.int .i64 x.f4) by simp); have qf : w3.frozen? ⟨wr.heap.size, 2, none⟩ = false := (hb3.frozen (p := ⟨wr.heap.size, 2, none⟩) (by simp)).trans (by simp))
      have HBN := Lib.hid (((balloc (Below.refl wr.heap.size wr) (.cells #[.int .i64 x.f0, .string x.f1, .slice A2 x.f2.length c2, .int .i64 x.f3, .int .i64 x.f4] 45)).trans (hb3.mono (by simp))).setCell (p := ⟨wr.heap.size, 2, none⟩) (Nat.le_refl _) (.slice A3 x.f2.length e3))
      have hs3 := hb3.size
      rw [World.size_alloc] at hs3
      have HR := Lib.hid (Kd.R_far (p := ⟨wr.heap.size, 2, none⟩) (Kd.R_mono (Kd.R_lower (Kd.R_bound hR2) (show w.heap.size ≤ _ by have := hbr.size; simp; omega)) (ok' := fun q => q ≠ B + 1 ∧ q ≠ B ∧ q ≠ wr.heap.size) (fun q hq => by have := hq.2.1; simp at this; omega)) (fun q hq => hq.2.2) (.slice A3 x.f2.length e3))
      have HFC := Lib.hid (show (w3.setCell ⟨wr.heap.size, 2, none⟩ (.slice A3 x.f2.length e3)).heap[B + 1]? = _ from (HBN.out.block (B + 1) hlt2).trans hF.out)
      refine wp_world ?_
      intro w4 hw4
      rw [← hw4] at HBN HR HFC
      have p0 : w4.cell? ⟨wr.heap.size, 0, none⟩ = some (.int .i64 x.f0) := by rw [hw4]; go_simp
      have p1 : w4.cell? ⟨wr.heap.size, 1, none⟩ = some (.string x.f1) := by rw [hw4]; go_simp
      have p2 : w4.cell? ⟨wr.heap.size, 2, none⟩ = some (.slice A3 x.f2.length e3) := by rw [hw4]; go_simp
      have p3 : w4.cell? ⟨wr.heap.size, 3, none⟩ = some (.int .i64 x.f3) := by rw [hw4]; go_simp
      have p4 : w4.cell? ⟨wr.heap.size, 4, none⟩ = some (.int .i64 x.f4) := by rw [hw4]; go_simp
      clear q0 q1 q2 q3 q4 qf hb3 hR2 hC3 c0 c1 c2' c3 c4 hw4
      have pF : w4.cell? ⟨B + 1, 0, none⟩ = some (.map (some B)) := by simp [World.cell?, HFC.out]
      go_still_tail 7, (by kernel_rfl)
      have hM4 := hM.out.below HBN.out
      obtain ⟨D, hown, hsays⟩ := hM4
      have HS := Lib.hid hsays
      have HIM := Lib.hid hown.isMap
      clear hsays hM
      go_wp2_with (at_mapUpdate; refine wpList_mapUpdate_own _ rfl _ _ _ 63 rfl 9 45 key9 Tryd.underlying63 _ B k D rfl hown (by unfold maxLen; omega) _ (.agg #[.int .i64 x.f0, .string x.f1, .slice A3 x.f2.length e3, .int .i64 x.f3, .int .i64 x.f4]) _ rfl rfl (Go.WideMaps.keyOf_string_mk Tryd.underlying9 (by unfold maxLen; omega)) _ [] rfl ?_; intro w5 hown5 hgr5)
      have HB5 := Lib.hid ((bdrew (bgo hbr HBN.out)).grown hgr5 (Nat.le_trans hbr.size HBN.out.size) (fun j e => by injection e with e; omega))
      have hs5 : w4.heap.size ≤ w5.heap.size := hgr5.size
      have hs4 := HBN.out.size
      have HF5 := Lib.hid (show FsNew w5 (B + 1) B from (hgr5.block (B + 1) (by show _ < w4.heap.size; omega) (by simp)).trans HFC.out)
      have hmv : ∀ q, (q ≠ B + 1 ∧ q ≠ B) → q < w4.heap.size → w5.heap[q]? = w4.heap[q]? := fun q hq hlt => hgr5.block q hlt (fun e => by injection e with e; exact hq.2 e)
      have HM5 := Lib.hid (show MapAt w5 w.heap.size B (k + 1) (fun q => q ≠ B + 1 ∧ q ≠ B) (mapL (l.take (k + 1))) from ⟨_, hown5, (HS.out.put HIM.out x [.int .i64 x.f0, .string x.f1, .slice A3 x.f2.length e3, .int .i64 x.f3, .int .i64 x.f4] hmv
        (kN_mkM _ _ _ x (v2 := .slice A3 x.f2.length e3) (Kd.R_mono (Kd.R_step HR.out (fun q hq hlt => hmv q ⟨hq.1, hq.2.1⟩ hlt)) (fun q hq => ⟨hq.1, hq.2.1⟩)))).eq (by funext p; rw [htk.out, mapL_snoc])⟩)
      clear hown5 hgr5 hown HS HIM hmv HR
      go_roundw
      case rel => exact ⟨k + 1, by go_num, by omega, HM5, HB5.out, HF5, by omega⟩
      case measure => simp [intOf]; omega
    · obtain rfl : k = l.length := by omega
      rw [List.take_length] at hM
      go_wp2
      go_ret2
      exact ⟨B, rfl, by omega, hF.out, hM.out, hbr⟩
end Go.Proofs.YtfnncfgdlinmcaaDoor.Vfs
