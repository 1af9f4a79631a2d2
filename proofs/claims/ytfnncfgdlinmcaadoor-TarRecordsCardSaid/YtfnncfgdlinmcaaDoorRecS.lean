/- tar.Said at what was said. -/
import Derived.Test.YtfnncfgdlinmcaaDoorRecR
set_option linter.unusedVariables false
set_option linter.unusedSimpArgs false
namespace Go.Proofs.YtfnncfgdlinmcaaDoor.Rec
open Go.RowKit Go.Lib Go.Proofs.YtfnncfgdlinmcaaDoorW.PrintWords Go.Proofs.YtfnncfgdlinmcaaDoorW.PrintLast Go.Proofs.YtfnncfgdlinmcaaDoorW.PrintMore
/-- The text in which these pairs are said. -/
def Saids : List (ByteArray × ByteArray) → List UInt8 → Prop
  | [], s => s = []
  | (k, v) :: l, s => ∃ N r, SayIs k.data.toList v.data.toList N ∧ k.data.toList ≠ [] ∧ (61 : UInt8) ∉ k.data.toList ∧ Saids l r ∧ s = decDigits N ++ tailOf k.data.toList v.data.toList ++ r
theorem saids_app : ∀ (l m : List (ByteArray × ByteArray)) (s t : List UInt8), Saids l s → Saids m t → Saids (l ++ m) (s ++ t)
  | [], m, s, t, h1, h2 => by
    rw [show s = [] from h1]
    exact h2
  | (k, v) :: l, m, s, t, ⟨N, r, a, b, c, d, e⟩, h2 => ⟨N, r ++ t, a, b, c, saids_app l m r t d h2, by rw [e, List.append_assoc]⟩
theorem rec_calls (k v : ByteArray) (s : ByteArray) (r : List UInt8) (N : Nat) (hs : s.data.toList = decDigits N ++ tailOf k.data.toList v.data.toList ++ r) (hN : SayIs k.data.toList v.data.toList N) (hk : k.data.toList ≠ []) (h61 : (61 : UInt8) ∉ k.data.toList) (hz : s.size < 4294967281) (w : World) (hL : Laid w) :
    Calls Tryd.prog 26 #[.string s] w fun e w' => e = .returned (.tuple #[.string k, .string v, .string (B r), .bool true]) ∧ Below w.heap.size w w' := by
  have h := record_calls s _ _ r N hs hN hk h61 hz w hL
  rwa [of_B, of_B] at h
theorem infoS : (Tryd.prog.info? 9).map (fun i => (i.zero, i.size, i.bytes)) = some (some (.string ⟨#[]⟩), 1, 16) := by kernel_rfl
def strLen : Value → Nat
  | .string s => s.size
  | _ => 0
theorem own_lt {e base : Nat} {W : World} {ok : Nat → Prop} {v : Value} {xs : List ByteArray} (h : Kd.string.R e W base ok v xs) : ∀ k, v.ownBlock = some k → k < W.heap.size := fun k he => ((Kd.R_bound h).1 k he).2.2.1
theorem sep_next {u v u1 v1 : Value} {a b : Nat} (h : ∀ k, u.ownBlock = some k → some k ≠ v.ownBlock) (hv : ∀ k, v.ownBlock = some k → k < a) (hu1 : u1.ownBlock = u.ownBlock ∨ ∃ g, u1.ownBlock = some g ∧ a ≤ g) (hu1b : ∀ k, u1.ownBlock = some k → k < b) (hv1 : v1.ownBlock = v.ownBlock ∨ ∃ g, v1.ownBlock = some g ∧ b ≤ g) : ∀ k, u1.ownBlock = some k → some k ≠ v1.ownBlock := by
  intro k hk he
  rcases hv1 with h1 | ⟨g, h1, h2⟩
  · rcases hu1 with h3 | ⟨g, h3, h4⟩
    · exact h k (h3.symm.trans hk) (he.trans h1)
    · have := hv k (h1.symm.trans he.symm)
      rw [hk] at h3
      obtain rfl := Option.some.inj h3
      omega
  · have := hu1b k hk
    rw [← he] at h1
    obtain rfl := Option.some.inj h1
    omega
theorem sep_mid {u v u1 : Value} {a : Nat} (h : ∀ k, u.ownBlock = some k → some k ≠ v.ownBlock) (hv : ∀ k, v.ownBlock = some k → k < a) (hu1 : u1.ownBlock = u.ownBlock ∨ ∃ g, u1.ownBlock = some g ∧ a ≤ g) : ∀ k, v.ownBlock = some k → some k ≠ u1.ownBlock := by
  intro k hk he
  rcases hu1 with h3 | ⟨g, h3, h4⟩
  · exact h k (h3.symm.trans he.symm) hk.symm
  · have := hv k hk
    rw [← he] at h3
    obtain rfl := Option.some.inj h3
    omega
set_option maxRecDepth 100000 in
set_option maxHeartbeats 4000000 in
theorem said_calls (l : List (ByteArray × ByteArray)) (s : ByteArray) (hl : Saids l s.data.toList) (hn : l.length ≤ 50) (hz : s.size < 4294967281) (w : World) (hL : Laid w) :
    Calls Tryd.prog 13 #[.string s] w fun e w' => ∃ u v, e = .returned (.tuple #[u, v, .int .i64 0]) ∧ Kd.string.R 9 w' w.heap.size (fun _ => True) u (l.map (·.1)) ∧ Kd.string.R 9 w' w.heap.size (fun _ => True) v (l.map (·.2)) ∧ Below w.heap.size w w' := by
  have HL := Lib.hid hL
  have HS := Lib.hid hl
  clear hL hl
  go_enter Tryd.func13, Tryd.ntmps13
  go_wp2
  go_loopw [0, 2, 3] (fun a u v wr => ∃ (s1 : ByteArray) (l0 l1 : List (ByteArray × ByteArray)), a = .string s1 ∧ Hid (l = l0 ++ l1) ∧ Hid (Saids l1 s1.data.toList) ∧ Hid (s1.size ≤ s.size) ∧ Hid (Kd.string.R 9 wr w.heap.size (fun _ => True) u (l0.map (·.1))) ∧ Hid (Kd.string.R 9 wr w.heap.size (fun _ => True) v (l0.map (·.2))) ∧ Hid (∀ k, u.ownBlock = some k → some k ≠ v.ownBlock) ∧ Below w.heap.size w wr) (fun a _ _ _ => strLen a)
  case atStart => exact ⟨s, [], l, rfl, Lib.hid rfl, HS, Lib.hid (Nat.le_refl _), Lib.hid (Kd.R_nil _ _ _ _ _), Lib.hid (Kd.R_nil _ _ _ _ _), Lib.hid (fun k hk => by simp [Value.ownBlock] at hk), Below.refl _ _⟩
  case round =>
    obtain ⟨s1, l0, l1, rfl, Hl, HS1, Hz1, HU, HV, Hsep, hb⟩ := hrel
    rcases l1 with _ | ⟨⟨k, v⟩, l2⟩
    · have hs0 : s1.data.toList = [] := HS1.out
      have he : s1.toList.isEmpty = true := by rw [ByteArray.toList_eq s1, hs0]; rfl
      have hll : l = l0 := by rw [Hl.out, List.append_nil]
      go_wp2
      refine bodyPost_ret (v := .tuple #[u2, u3, .int .i64 0]) (by simp [results, Tryd.results13, go_sem]) rfl ⟨_, _, rfl, by rw [hll]; exact HU.out, by rw [hll]; exact HV.out, hb⟩
    · obtain ⟨N, r, hN, hk, h61, hS2, hs⟩ := HS1.out
      have he : s1.toList.isEmpty = false := by
        rw [ByteArray.toList_eq s1, hs]
        cases hd : decDigits N
        · exact absurd hd (by have := dl_pos N; unfold dl at this; intro h; rw [h] at this; simp at this)
        · rfl
      have H1 := Lib.hid (rec_calls k v s1 r N hs hN hk h61 (by have := Hz1.out; omega) wr (HL.out.below hb))
      have HS2 := Lib.hid hS2
      have hsz : (B r).size < s1.size := by
        have h1 : s1.size = s1.data.toList.length := by rw [Array.length_toList]; rfl
        rw [B_size, h1, hs]
        simp only [List.length_append, tail_len]
        omega
      have HZ := Lib.hid hsz
      have HLN := Lib.hid (show (l0.map (·.1)).length ≤ 50 ∧ (l0.map (·.2)).length ≤ 50 by have := congrArg List.length Hl.out; simp at this ⊢; omega)
      clear hs hN hk h61 hS2 hsz
      go_upto_region 3 with (go_at_call 26; refine H1.out.mono ?_; rintro e w1 ⟨rfl, hb1⟩)
      have hbb := Reg.bgo hb hb1
      have HB1 := Lib.hid hbb
      have HU1 := Lib.hid (Kd.R_mono (Kd.R_below HU.out hb1) (fun _ _ => trivial) : Kd.string.R 9 w1 w.heap.size (fun _ => True) u2 (l0.map (·.1)))
      have HV1 := Lib.hid (Kd.R_mono (Kd.R_below HV.out hb1) (fun _ _ => trivial) : Kd.string.R 9 w1 w.heap.size (fun _ => True) u3 (l0.map (·.2)))
      clear hb hb1 hbb HU HV
      go_upto_region 5 with (fail)
      have HU1v : Hid (∀ k, u3.ownBlock = some k → k < w1.heap.size) := Lib.hid (own_lt HV1.out)
      go_wp2_with (first
        | (at_builtin; refine Kd.R_append Kd.string (w0 := w) w.heap.size rfl (.tmp 20) (.tmp 22) 35 9 (.string ⟨#[]⟩) 16 rfl Tryd.underlying35 infoS rfl (by decide) (by omega) u2 (l0.map (·.1)) k [.string k] (fun _ => True) (fun _ => False) rfl rfl rfl (fun _ hk => hk.elim) (fun _ _ => trivial) HU1.out HB1.out HB1.out.size (by have := HLN.out.1; omega) ?_; intro x1 w2 hR2 hb2 hg2 hat2)
        | (at_builtin; refine Kd.R_append Kd.string (w0 := w) w.heap.size rfl (.tmp 24) (.tmp 26) 35 9 (.string ⟨#[]⟩) 16 rfl Tryd.underlying35 infoS rfl (by decide) (by omega) u3 (l0.map (·.2)) v [.string v] (fun _ => True) (fun _ => False) rfl rfl rfl (fun _ hk => hk.elim) (fun _ _ => trivial) (Kd.R_grown2 HV1.out rfl hg2 Hsep.out) hb2 hb2.size (by have := HLN.out.2; omega) ?_; intro x2 w3 hR3 hb3 hg3 hat3))
      have hsm := sep_mid Hsep.out HU1v.out hat2
      have hR2' := Kd.R_grown2 hR2 rfl hg3 hsm
      have hsp := sep_next Hsep.out HU1v.out hat2 (own_lt hR2) hat3
      go_roundw
      case rel => exact ⟨B r, l0 ++ [(k, v)], l2, rfl, Lib.hid (by rw [Hl.out]; simp), by rw [B_data]; exact HS2, Lib.hid (by have h1 := HZ.out; have h2 := Hz1.out; omega), Lib.hid (by rw [List.map_append]; exact hR2'), Lib.hid (by rw [List.map_append]; exact hR3), Lib.hid hsp, hb3⟩
      case measure => simpa [strLen] using HZ.out
end Go.Proofs.YtfnncfgdlinmcaaDoor.Rec
