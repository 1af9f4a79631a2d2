/- FsH put together. -/
import Derived.Test.YtageofdcloneoaaDoorMFsP
import Derived.Test.YtageofdcloneoaaDoorMVfsR
import Derived.Lib.SliceRun
set_option linter.unusedVariables false
set_option linter.unusedSimpArgs false
namespace Go.Proofs.YtageofdcloneoaaDoor.Fs
open Go.RowKit Go.BigFrame Go.Maps Go.Proofs.YtageofdcloneoaaDoor.Reg Go.Proofs.YtageofdcloneoaaDoor.Rout Go.Proofs.YtageofdcloneoaaDoor.Node Go.Proofs.YtageofdcloneoaaDoor.Tree Go.Proofs.YtageofdcloneoaaDoor.Vfs Go.Proofs.YtageofdcloneoaaDoorW.PrintWords Go.Proofs.YtageofdcloneoaaDoorW.PrintLast Go.Proofs.YtageofdcloneoaaDoorW.PrintMore
def rdC (xs : List Chg) (i : Int) : Chg := xs.getD i.toNat ⟨0, emp, emp, []⟩
theorem rdC_mem (l : List Chg) (k : Nat) (h : k < l.length) : rdC l (k : Int) ∈ l := by
  unfold rdC
  rw [Int.toNat_natCast, List.getD_eq_getElem?_getD, List.getElem?_eq_getElem h]
  exact List.getElem_mem h
/-! ### slices.Clone of nodes: the bytes are shared -/
theorem own_zeroC (w : World) : (Kd.fixed kC w).R 39 (w.alloc (.cells #[] 39)) w.heap.size (fun _ => True) (.slice (some ⟨w.heap.size, 0, none⟩) 0 0) [] := by
  have h := World.ownsRow_lit (base := w.heap.size) (e := 39) (size := 4) w #[] 0 (Nat.le_refl _) (by decide) (by simp)
  exact ⟨fun _ _ => trivial, [], h, Reps.none _ _⟩
set_option maxHeartbeats 4000000 in
theorem cloneC_calls (A : Option Addr) (c : Nat) (l : List Chg) (w : World) (hC : kC.C w A l.length l) (hl : l.length * 64 ≤ 140737488355328) :
    Calls Tryd.prog 27 #[.slice A l.length c] w fun e w' => ∃ v, e = .returned v ∧ (Kd.fixed kC w).R 39 w' w.heap.size (fun _ => True) v l ∧ Below w.heap.size w w' := by
  cases A with
  | none =>
    have h0 : l.length = 0 := by
      rcases Nat.eq_zero_or_pos l.length with h | h
      · exact h
      · obtain ⟨ad, _, he, _⟩ := Kd.C_get hC (⟨0, emp, emp, []⟩ : Chg) 0 (by omega) (by omega)
        cases he
    obtain rfl : l = [] := List.eq_nil_of_length_eq_zero h0
    have heq : ∀ W : World, (binOp .eql 36 (.slice none 0 c) (.slice none 0 0)).run Tryd.prog W = .ok (.bool true) W := fun W => Lib.run_eql_slice_nil W _ _ none _ _ _ _ Tryd.underlying36
    clear hC
    go_enter Tryd.func27, Tryd.ntmps27
    go_wp2
    go_ret
    exact ⟨_, rfl, Kd.R_nil _ _ _ _ _, Below.refl _ _⟩
  | some ad =>
    have heq : ∀ W : World, (binOp .eql 36 (.slice (some ad) l.length c) (.slice none 0 0)).run Tryd.prog W = .ok (.bool false) W := fun W => Lib.run_eql_slice_nil W _ _ (some ad) _ _ _ _ Tryd.underlying36
    have HO := Lib.hid (own_zeroC w)
    have HR := Lib.hid (show ReadsRow (kC.K w) 4 (w.alloc (.cells #[] 39)) (some ad) l.length l from ReadsRow.imp_ hC (balloc (Below.refl _ _) _) (fun _ _ h => h))
    clear hC
    go_enter Tryd.func27, Tryd.ntmps27
    go_wp2_with (at_builtin; refine Kd.R_append_rows (Kd.fixed kC w) (Rr := kC.K w) (w0 := w) w.heap.size rfl (.tmp 5) (.tmp 6) 36 39 (.agg #[.int .i64 0, .string ⟨#[]⟩, .string ⟨#[]⟩, .slice none 0 0]) 64 rfl Tryd.underlying36 infoC rfl (show 0 < 4 by decide) (by omega) _ [] l (some ad) l.length c (fun _ => True) (fun _ => False) rfl rfl HO.out HR.out (fun _ _ h => h) (fun _ h => h.elim) (fun _ _ => trivial) (balloc (Below.refl _ _) _) (by simp) (by simp; omega) ?_; intro v1 w1 hR1 hb1 hg1 hat1; rw [List.nil_append] at hR1)
    go_ret
    exact ⟨_, rfl, hR1, hb1⟩
/-! ### a row of nodes at block g, element by element -/
/-- E j cs: what element j's cells say. -/
def CRow (W : World) (base g cap n : Nat) (E : Nat → List Value → Prop) : Prop :=
  ∃ cells, W.ownsRow base 39 4 (.slice (some ⟨g, 0, none⟩) n cap) n cells ∧ ∀ j, j < n → E j ((cells.drop (j * 4)).take 4)
theorem CRow.imp {W : World} {base g cap n : Nat} {E E' : Nat → List Value → Prop} (h : CRow W base g cap n E) (hE : ∀ j cs, j < n → E j cs → E' j cs) : CRow W base g cap n E' := by
  obtain ⟨cells, ho, he⟩ := h
  exact ⟨cells, ho, fun j hj => hE j _ hj (he j hj)⟩
theorem CRow.kept {W W' : World} {base g cap n : Nat} {E : Nat → List Value → Prop} (h : CRow W base g cap n E) {row : Option Nat} (hg : W.grownBy W' row) (hne : some g ≠ row) : CRow W' base g cap n E := by
  obtain ⟨cells, ho, he⟩ := h
  exact ⟨cells, ho.kept hg (.inr hne), he⟩
theorem CRow.below {W W' : World} {base g cap n : Nat} {E : Nat → List Value → Prop} (h : CRow W base g cap n E) (hb : Below W.heap.size W W') : CRow W' base g cap n E := h.kept (row := none) (grownBy_of_below hb) (by simp)
theorem elem_setC (cells : List Value) (k i j : Nat) (v : Value) (hi : i < 4) : ((cells.set (k * 4 + i) v).drop (j * 4)).take 4 = if j = k then ((cells.drop (j * 4)).take 4).set i v else (cells.drop (j * 4)).take 4 := by
  rw [List.drop_set]
  by_cases h1 : k * 4 + i < j * 4
  · rw [if_pos h1, if_neg (by omega)]
  · rw [if_neg h1, List.take_set]
    by_cases h2 : j = k
    · subst h2
      rw [if_pos rfl, show j * 4 + i - j * 4 = i by omega]
    · rw [if_neg h2, List.set_eq_of_length_le (by rw [List.length_take]; omega)]
/-- One cell of element k written. -/
theorem CRow.set {W : World} {base g cap n : Nat} {E E' : Nat → List Value → Prop} (h : CRow W base g cap n E) (k i : Nat) (v : Value) (hi : i < 4) (hk : ∀ cs, E k cs → E' k (cs.set i v)) (ho : ∀ j cs, j ≠ k → E j cs → E' j cs) :
    CRow (W.setCell ⟨g, k * 4 + i, none⟩ v) base g cap n E' ∧ W.grownBy (W.setCell ⟨g, k * 4 + i, none⟩ v) (some g) := by
  obtain ⟨cells, how, he⟩ := h
  have hs := how.stored (k * 4 + i) v
  refine ⟨⟨_, hs.1, fun j hj => ?_⟩, hs.2⟩
  rw [elem_setC _ _ _ _ _ hi]
  by_cases h2 : j = k
  · subst h2; rw [if_pos rfl]; exact hk _ (he j hj)
  · rw [if_neg h2]; exact ho j _ h2 (he j hj)
/-- A cell of element k, as it is read; and it may be written. -/
theorem CRow.at_ {W : World} {base g cap n : Nat} {E : Nat → List Value → Prop} (h : CRow W base g cap n E) (k : Nat) (hk : k < n) :
    ∃ cs, E k cs ∧ (∀ i u, cs[i]? = some u → W.cell? ⟨g, k * 4 + i, none⟩ = some u) ∧ ∀ i, W.frozen? ⟨g, i, none⟩ = false := by
  obtain ⟨cells, how, he⟩ := h
  refine ⟨_, he k hk, fun i u hu => ?_, fun i => ?_⟩
  · rw [List.getElem?_take] at hu
    split at hu
    · rw [List.getElem?_drop] at hu
      have hc := how.cells (g := g) rfl _ u hu
      rwa [add_plain] at hc
    · cases hu
  · rcases how.2 with ⟨h', _⟩ | ⟨g', cap', cur, h', _, hh, _⟩
    · cases h'
    · have : g = g' := by injection h' with h'; injection h' with h'; injection h' with h'
      subst this
      simp [World.frozen?, hh]
theorem CRow.lt {W : World} {base g cap n : Nat} {E : Nat → List Value → Prop} (h : CRow W base g cap n E) : base ≤ g ∧ g < W.heap.size := by
  obtain ⟨cells, how, _⟩ := h
  exact ⟨own_base how g rfl, own_lt how g rfl⟩
/-- Into a row of nodes, all made; and out of a row. -/
theorem CRow.made {W : World} {base g cap : Nat} {l : List Chg} {ok : Nat → Prop} (h : CRow W base g cap l.length (fun j cs => ∀ x, l[j]? = some x → kC.M W base (fun q => ok q ∧ q ≠ g) x cs)) (hok : ok g) : kC.R 39 W base ok (.slice (some ⟨g, 0, none⟩) l.length cap) l := by
  obtain ⟨cells, how, he⟩ := h
  refine ⟨fun k hk => ?_, cells, how, how.1, fun j p hj => ?_⟩
  · simp [Value.ownBlock] at hk; subst hk; exact hok
  · exact kC.M_mono (fun q hq => ⟨hq.1, by simp [Value.ownBlock]; exact hq.2⟩) (he j (List.getElem?_eq_some_iff.1 hj).1 p hj)
theorem CRow.of_fixed {w0 W : World} {base g cap : Nat} {l : List Chg} {ok : Nat → Prop} (h : (Kd.fixed kC w0).R 39 W base ok (.slice (some ⟨g, 0, none⟩) l.length cap) l) : CRow W base g cap l.length (fun j cs => ∀ x, l[j]? = some x → kC.K w0 x cs) := by
  obtain ⟨_, cells, how, hr⟩ := h
  exact ⟨cells, how, fun j hj x hx => hr.2 j x hx⟩
/-! ### lent -/
def HalfC (l : List Chg) (w0 W : World) (base g k : Nat) (j : Nat) (cs : List Value) : Prop :=
  ∀ x, l[j]? = some x → if j < k then kC.M W base (fun q => q ≠ g) x cs else kC.K w0 x cs
theorem halfC_move {l : List Chg} {w0 W W' : World} {base g k j : Nat} {cs : List Value} (h : HalfC l w0 W base g k j cs) (hm : ∀ q, q ≠ g → q < W.heap.size → W'.heap[q]? = W.heap[q]?) : HalfC l w0 W' base g k j cs := by
  intro x hx
  have h1 := h x hx
  split
  · rename_i hjk
    rw [if_pos hjk] at h1
    exact Kd.M_step h1 (fun q hq hlt => hm q hq hlt)
  · rename_i hjk
    rw [if_neg hjk] at h1
    exact h1
set_option maxRecDepth 100000 in
set_option maxHeartbeats 4000000 in
theorem log_calls (base g b : Nat) (lv : Value) (s : St) (w : World) (h : FsAt w base g b lv s) (hl : s.log.length * 64 ≤ 140737488355328) (hds : ∀ c ∈ s.log, c.data.length ≤ 140737488351232) :
    Calls Tryd.prog 9 #[.pointer (some ⟨g, 0, none⟩)] w fun e w' => ∃ v, e = .returned v ∧ kC.R 39 w' w.heap.size (fun _ => True) v s.log ∧ Below w.heap.size w w' := by
  have HN := Lib.hid (none_calls g b w h.c0)
  have hc1 := h.c1
  obtain ⟨A, c, rfl, hlc, hC⟩ := Kd.R_reads h.log
  obtain ⟨l, hlg⟩ : ∃ l, s.log = l := ⟨_, rfl⟩
  rw [hlg] at hl hds hC hc1 hlc ⊢
  clear h hlg
  have HCL := Lib.hid (cloneC_calls A c l w hC hl)
  have HC := Lib.hid hC
  have HOK := Lib.hid hds
  clear hC hds
  go_enter Tryd.func9, Tryd.ntmps9
  by_cases h0 : l.length = 0
  · obtain rfl : l = [] := List.eq_nil_of_length_eq_zero h0
    go_wp2_with (first | (go_at_call 26; refine HN.out.mono ?_; rintro e w' ⟨rfl, rfl⟩) | (go_at_call 27; refine HCL.out.mono ?_; rintro e w1 ⟨v, rfl, hR, hb1⟩; obtain ⟨A1, c1, rfl, _, _⟩ := Kd.R_reads hR; have HR := Lib.hid hR; clear hR))
    refine wp_loop_rounds 1 ?_
    rw [rounds_succ]
    go_wp2
    go_ret
    obtain ⟨h1, cells, how, hr⟩ := HR.out
    exact ⟨_, rfl, ⟨h1, cells, how, ⟨hr.1, fun j p hj => by simp at hj⟩⟩, hb1⟩
  · go_wp2_with (first | (go_at_call 26; refine HN.out.mono ?_; rintro e w' ⟨rfl, rfl⟩) | (go_at_call 27; refine HCL.out.mono ?_; rintro e w1 ⟨v, rfl, hR, hb1⟩; obtain ⟨g, cap, rfl, hgb, hgl, _⟩ := Kd.R_form hR (by omega); have HR := Lib.hid hR; clear hR))
    have HG0 := Lib.hid ((CRow.of_fixed HR.out).imp (E' := HalfC l w w1 w.heap.size g 0) (fun j cs _ h x hx => by rw [if_neg (by omega)]; exact h x hx))
    clear HR HCL
    go_loopw [4, 14] (fun _ i wr => ∃ k : Nat, i = .int .i64 k ∧ k ≤ l.length ∧ Hid (CRow wr w.heap.size g cap l.length (HalfC l w wr w.heap.size g k)) ∧ Below w.heap.size w wr ∧ g < wr.heap.size) (fun _ i _ => (l.length - intOf i).toNat)
    case atStart => exact ⟨0, rfl, by omega, HG0, hb1, hgl⟩
    case round =>
      obtain ⟨k, rfl, hk, hG, hbr, hgr⟩ := hrel
      by_cases hlt : k < l.length
      · obtain ⟨cs, hE, hcell, hfr⟩ := hG.out.at_ k hlt
        have hxk : l[k]? = some (rdC l (k : Int)) := by
          unfold rdC
          rw [Int.toNat_natCast, List.getD_eq_getElem?_getD, List.getElem?_eq_getElem hlt]
          rfl
        have hE2 := hE _ hxk
        rw [if_neg (by omega)] at hE2
        obtain ⟨A2, c2, rfl, hl2, hd⟩ := kC_open hE2
        have hds := HOK.out _ (rdC_mem l k hlt)
        have HB := Lib.hid (bclone_calls A2 c2 (rdC l (k : Int)).data wr (Kd.C_below hd hbr) (by omega))
        have q1 := hcell 3 _ rfl
        have q2 := hfr (k * 4 + 3)
        have k0 : (0 : Int) ≤ (k : Int) := by omega
        have k1 : (k : Int) < l.length := by omega
        have HXK := Lib.hid hxk
        clear hE hE2 hcell hfr hd hxk
        generalize rdC l (k : Int) = x at *
        go_wp2_with (go_at_call 20; refine HB.out.mono ?_; rintro e w3 ⟨v2, rfl, hR2, hb3⟩; obtain ⟨A3, c3, rfl, hl3, hC3⟩ := Kd.R_reads hR2; have q3 := bkeep hb3 q1; have q4 := (hb3.frozen (p := ⟨g, k * 4 + 3, none⟩) hgr).trans q2; have HR2 := Lib.hid hR2; clear hR2 hC3)
        have hs3 := hb3.size
        have HN := Lib.hid (CRow.set (E' := HalfC l w (w3.setCell ⟨g, k * 4 + 3, none⟩ (.slice A3 x.data.length c3)) w.heap.size g (k + 1)) ((hG.out.below hb3).imp (fun j cs _ h => halfC_move h (fun q _ hlt => hb3.block q hlt))) k 3 (.slice A3 x.data.length c3) (by omega)
          (fun cs h y hy => by
            have e := HXK.out.symm.trans hy
            obtain rfl := Option.some.inj e
            have h1 := h _ hy
            rw [if_neg (by omega)] at h1
            obtain ⟨A4, c4, rfl, _, _⟩ := kC_open h1
            rw [if_pos (by omega)]
            refine kC_mkM _ _ _ _ (v2 := .slice A3 x.data.length c3) ?_
            have r1 := Kd.R_lower HR2.out hbr.size
            have r2 := Kd.R_bound HR2.out
            have r3 : (Kd.int .u8).R 5 w3 w.heap.size (fun q => q ≠ g) (.slice A3 x.data.length c3) x.data := Kd.R_mono (Kd.R_lower r2 hbr.size) (fun q hq => by have := hq.2.1; omega)
            exact Kd.R_far (p := ⟨g, k * 4 + 3, none⟩) r3 (fun q hq => hq) _)
          (fun j cs hj h y hy => by
            have h1 := h y hy
            by_cases hjk : j < k
            · rw [if_pos hjk] at h1
              rw [if_pos (by omega)]
              exact Kd.M_far (p := ⟨g, k * 4 + 3, none⟩) h1 (fun q hq => hq) _
            · rw [if_neg hjk] at h1
              rw [if_neg (by omega)]
              exact h1))
        have HBN := Lib.hid (((bgo hbr hb3).grown HN.out.2 (by have := hbr.size; omega) (fun q e => by injection e with e; omega)))
        have HGN := Lib.hid HN.out.1
        have hgn : g < w3.heap.size := by omega
        clear HN hb3 HB q1 q2
        go_wp2
        go_roundw
        case rel => exact ⟨k + 1, by go_num, by omega, HGN, HBN.out, by simpa [World.setCell] using hgn⟩
        case measure => simp [intOf]; omega
      · obtain rfl : k = l.length := by omega
        go_wp2
        go_ret
        exact ⟨_, rfl, CRow.made (ok := fun _ => True) (hG.out.imp (fun j cs hj h x hx => by have h1 := h x hx; rw [if_pos hj] at h1; exact kC.M_mono (fun q hq => ⟨trivial, hq⟩) h1)) trivial, hbr⟩
end Go.Proofs.YtageofdcloneoaaDoor.Fs
