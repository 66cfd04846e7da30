/- Init and Pop of the library's heap. -/
import Derived.Test.YtnmakbippgnekaaSift
set_option linter.unusedSimpArgs false
set_option linter.unusedSectionVars false
namespace Go.Proofs.Ytnmakbippgnekaa
open Go.RowKit
set_option linter.unusedVariables false
set_option maxRecDepth 100000

theorem ordM : Ord ltM := by
  refine ⟨fun a b h => ?_, fun a b c h1 h2 => ?_⟩
  · simp only [ltM, decide_eq_true_eq, decide_eq_false_iff_not] at *; omega
  · simp only [ltM, decide_eq_false_iff_not] at *; omega
/-- What Pop of the heap leaves and hands back. -/
def PopTo (w : World) (A g off n cap : Nat) (V : Nat → Mo) (e : Ending) (w' : World) : Prop :=
  e = .returned (.iface 96 (.agg #[.int .i64 (V 0).2, .int .i64 (V 0).1])) ∧ Fr (Two A g) w w' ∧ ∃ V', Blk w' A 104 #[.slice (some ⟨g, off, none⟩) n cap] ∧ Win w' 96 2 (.slice (some ⟨g, off, none⟩) n cap) n (rows (mo V') n) ∧ Hp ltM V' 0 n ∧ Perm n (swp V 0 n) V'
theorem lpop_ok (A g off n cap : Nat) (V : Nat → Mo) (w : World) (hA : Blk w A 104 #[.slice (some ⟨g, off, none⟩) (n + 1) cap]) (hw : Win w 96 2 (.slice (some ⟨g, off, none⟩) (n + 1) cap) (n + 1) (rows (mo V) (n + 1))) (hN : n ≤ 100) :
    Calls Try.prog 99 #[.pointer (some ⟨A, 0, none⟩)] w fun e w' => e = .returned (.iface 96 (.agg #[.int .i64 (V n).2, .int .i64 (V n).1])) ∧ Fr (One A) w w' ∧ Blk w' A 104 #[.slice (some ⟨g, off, none⟩) n cap] ∧ Win w' 96 2 (.slice (some ⟨g, off, none⟩) n cap) n (rows (mo V) n) := by
  have hne : A ≠ g := fun e => by
    have := hw.ne hA (by decide)
    exact this (by rw [← e]; rfl)
  obtain ⟨c0, c1⟩ := mo_cells hw (i := n) (by omega)
  have ca := hA.cellv (i := 0) rfl
  have fa := hA.frozen 0
  have hA' := hA.set_ 0 (.slice (some ⟨g, off, none⟩) n cap)
  have hw' := hw.firsts (m := n) (by omega)
  rw [rows_take _ 2 (mo_length V) (by omega)] at hw'
  have hle : n + 1 ≤ cap := by
    rcases hw.2 with ⟨h0, _⟩ | ⟨g', off', cap', cs, hv, hb, h1, _⟩
    · cases h0
    · cases hv; exact h1
  have hl : (n : Int) + 1 ≤ (cap : Int) := by omega
  have n0 : (0 : Int) ≤ (n : Int) := by omega
  have n1 : (n : Int) ≤ 100 := by omega
  have hcap : (cap : Int) ≤ 9223372036854775807 := by
    rcases hw.2 with ⟨h0, _⟩ | ⟨g', off', cap', cs, hv, hb, h1, h2, _⟩
    · cases h0
    · cases hv; simp only [maxLen] at h2; omega
  have HA := Lib.hid hA
  have HW := Lib.hid hw'
  have HNE := Lib.hid hne
  clear hA hw hw' hA' hne hN hle
  go_enter Try.func99, Try.ntmps99
  go_upto_region 3 with fail
  have hA := HA.out.alloc (.cells #[.int .i64 (V n).2, .int .i64 (V n).1] 96)
  have hW := HW.out.alloc (.cells #[.int .i64 (V n).2, .int .i64 (V n).1] 96)
  have hB := Blk.new w 96 #[.int .i64 (V n).2, .int .i64 (V n).1]
  have hf : Fr (One A) w (w.alloc (.cells #[.int .i64 (V n).2, .int .i64 (V n).1] 96)) := (Fr.refl _ _).alloc _
  have hAB : w.heap.size ≠ A := fun e => by have := HA.out.lt; omega
  have ca1 := hA.cellv (i := 0) rfl
  have fa1 := hA.frozen 0
  generalize (w.alloc (.cells #[.int .i64 (V n).2, .int .i64 (V n).1] 96)) = w1 at *
  have hA2 := (hA.set_ 0 (.slice (some ⟨g, off, none⟩) n cap)).cast (cs' := #[.slice (some ⟨g, off, none⟩) n cap]) rfl
  have hW2 := hW.far (g := A) (i := 0) (fun e => HNE.out (by cases e; rfl)) (.slice (some ⟨g, off, none⟩) n cap)
  have hB2 := hB.farc hAB (i := 0) (.slice (some ⟨g, off, none⟩) n cap)
  have hf2 := hf.set1 (i := 0) (.slice (some ⟨g, off, none⟩) n cap)
  have HA2 := Lib.hid hA2
  have HW2 := Lib.hid hW2
  have HB2 := Lib.hid hB2
  have HF2 := Lib.hid hf2
  clear hA hW hB hf hA2 hW2 hB2 hf2 ca fa c0 c1 hAB
  generalize w.heap.size = B at *
  go_upto_region 4 with fail
  generalize (w1.setCell ⟨A, 0, none⟩ (.slice (some ⟨g, off, none⟩) n cap)) = w2 at *
  have b0 := HB2.out.cellv (i := 0) rfl
  have b1 := HB2.out.cellv (i := 1) rfl
  clear ca1 fa1
  go_wp2_with fail
  go_ret
  exact ⟨rfl, HF2.out, HA2.out, HW2.out⟩
set_option maxHeartbeats 1000000 in
theorem hpop_ok (A g off n cap : Nat) (V : Nat → Mo) (w : World) (hA : Blk w A 104 #[.slice (some ⟨g, off, none⟩) (n + 1) cap]) (hw : Win w 96 2 (.slice (some ⟨g, off, none⟩) (n + 1) cap) (n + 1) (rows (mo V) (n + 1))) (hp : Hp ltM V 0 (n + 1)) (hN : n ≤ 99) :
    Calls Try.prog 62 #[.iface 106 (.pointer (some ⟨A, 0, none⟩))] w (PopTo w A g off n cap V) := by
  have hne : A ≠ g := fun e => by
    have := hw.ne hA (by decide)
    exact this (by rw [← e]; rfl)
  have ca := hA.cellv (i := 0) rfl
  have ms := run_method_val 235 "Len" 96 row_len A _ _ _ w ca
  have ms2 := run_method_val 235 "Swap" 98 row_swap A _ _ _ w ca
  have LN := Lib.hid (len_ok (some ⟨g, off, none⟩) (n + 1) cap w)
  have SW := swap_ok g off cap (n + 1) V 0 n w hw (frozen_win hw) (by omega) (by omega)
  have SWH := Lib.hid SW
  have HA := Lib.hid hA
  have HNE := Lib.hid hne
  have HP := Lib.hid hp
  have HN := Lib.hid hN
  have n0 : (0 : Int) ≤ (n : Int) := by omega
  have n1 : (n : Int) ≤ 99 := by omega
  clear hA hw hne hp hN SW
  go_enter Try.func62, Try.ntmps62
  go_wp2_with fail
  refine LN.out.mono ?_
  rintro e w2 ⟨rfl, rfl⟩
  clear ms
  go_wp2_with fail
  refine SWH.out.mono ?_
  rintro e w3 ⟨rfl, f3, wn3⟩
  have hA3 := HA.out.fr1 f3 HNE.out
  have DN := Lib.hid (down_ok A g off (n + 1) cap 0 n (swp V 0 n) w3 hA3 wn3 (by omega) (by have := HN.out; omega) (by omega))
  have F3 := Lib.hid f3
  clear ms2 ca f3 wn3 hA3 SWH
  go_wp2_with fail
  refine DN.out.mono ?_
  rintro e w4 ⟨⟨x, rfl⟩, f4, wn4⟩
  have f34 := F3.out.trans f4
  have hA4 := HA.out.fr1 f34 HNE.out
  have ca4 := hA4.cellv (i := 0) rfl
  have ms4 := run_method_ptr 235 "Pop" 99 row_pop A w4
  have LP := Lib.hid (lpop_ok A g off n cap _ w4 hA4 wn4 (by have := HN.out; omega))
  have F4 := Lib.hid f34
  clear f34 f4 wn4 hA4 DN
  go_wp2_with fail
  refine LP.out.mono ?_
  rintro e w5 ⟨rfl, f5, hA5, wn5⟩
  have F5 := Lib.hid f5
  have A5 := Lib.hid hA5
  have W5 := Lib.hid wn5
  clear f5 hA5 wn5 LP ms4 ca4
  have pm := downF_perm' (lt := ltM) n n (swp V 0 n) 0
  have hv : downF ltM n (swp V 0 n) 0 n n = V 0 := (pm.out n (Nat.le_refl _)).trans (swp_j V 0 n)
  rw [hv]
  have PM := Lib.hid pm
  clear hv pm
  go_wp2_with fail
  go_ret
  exact ⟨rfl, (F4.out.mono (S' := Two A g) fun _ _ h => .inr h).trans (F5.out.mono (S' := Two A g) fun _ _ h => .inl h), _, A5.out, W5.out, downF_hp ordM 0 n n _ 0 (Nat.le_refl _) (by omega) HP.out.swap, PM.out⟩
end Go.Proofs.Ytnmakbippgnekaa
