/- slices.Clone, at ints and at stores. -/
import Derived.Test.YtjbdbmahbcaniaaMem
import Derived.Lib.SliceRun
set_option linter.unusedSimpArgs false
set_option linter.unusedSectionVars false
namespace Go.Proofs.Ytjbdbmahbcaniaa
open Go.RowKit
set_option linter.unusedVariables false

theorem Try.info3 : (Try.prog.info? 3).map (fun i => (i.zero, i.size, i.bytes)) = some (some (.int .i64 0), 1, 8) := by kernel_rfl
theorem Try.info47 : (Try.prog.info? 47).map (fun i => (i.zero, i.size, i.bytes)) = some (some (.agg #[.int .u64 0, .int .u64 0, .int .i64 0]), 3, 24) := by kernel_rfl
theorem one_its (l : List Nat) : ∀ u ∈ its l, u.oneCell' = true := by
  intro u hu
  simp only [its, List.mem_map] at hu
  obtain ⟨t, _, rfl⟩ := hu
  rfl
theorem one_lcs (l : List L) : ∀ u ∈ lcs l, u.oneCell' = true := by
  intro u hu
  simp only [lcs, List.mem_flatMap, encL] at hu
  obtain ⟨x, _, hu⟩ := hu
  simp at hu
  rcases hu with rfl | rfl | rfl <;> rfl
/-- A copy: of its own. -/
def Copied (w : World) (e : TypeId) (size n : Nat) (xs : List Value) (en : Ending) (w' : World) : Prop :=
  ∃ v, en = .returned v ∧ Win w' e size v n xs ∧ Fr Nil w w' ∧ ∀ k, v.ownBlock = some k → w.heap.size ≤ k
theorem clone_ints (v : Value) (n : Nat) (xs : List Value) (w : World) (h : Win w 3 1 v n xs) (h1 : ∀ u ∈ xs, u.oneCell' = true) (hn : n ≤ 1000000) : Calls Try.prog 38 #[v] w (Copied w 3 1 n xs) := by
  obtain ⟨i3, hi, hz0, hz1, hz2⟩ := info_parts Try.info3
  obtain ⟨ao, cap, rfl, hle, hmx, hsp⟩ := h.shape
  cases ao with
  | none =>
    have hn0 : n = 0 := by
      rcases h.2 with ⟨_, h0⟩ | ⟨g, off, cap, cs, hv, _⟩
      · exact h0
      · cases hv
    have hc0 : cap = 0 := by
      rcases h.2 with ⟨h0, _⟩ | ⟨g, off, cap, cs, hv, _⟩
      · cases h0; rfl
      · cases hv
    subst hn0 hc0
    have hx : xs = [] := List.eq_nil_of_length_eq_zero (by simpa using h.1)
    subst hx
    clear h h1 hn hle hmx hsp
    have hq : ∀ w, (binOp .eql 39 (.slice none 0 0) (.slice none 0 0)).run Try.prog w = .ok (.bool true) w := fun w => Lib.run_eql_slice_nil w 39 3 none 0 0 0 0 Try.underlying39
    go_enter Try.func38, Try.ntmps38
    go_wp2
    go_ret
    exact ⟨_, rfl, Win.nil _ _ _, Fr.refl _ _, fun k hk => by cases hk⟩
  | some a =>
    have H := Lib.hid h
    have H1 := Lib.hid h1
    have HN := Lib.hid hn
    clear h h1 hn hle hmx hsp
    have hq : ∀ w, (binOp .eql 39 (.slice (some a) n cap) (.slice none 0 0)).run Try.prog w = .ok (.bool false) w := fun w => Lib.run_eql_slice_nil w 39 3 (some a) n cap 0 0 Try.underlying39
    go_enter Try.func38, Try.ntmps38
    go_wp2_with (at_builtin; refine wpList_append_all _ rfl (.tmp 5) (.tmp 6) 39 rfl 3 i3 (.int .i64 0) 1 8 Try.underlying39 hi hz0 hz1 hz2 rfl (by decide) w.heap.size 0 0 0 [] rfl (Win.full (Blk.new w 3 #[]) rfl (by decide)) _ n xs rfl (H.out.alloc _) H1.out (by have := HN.out; simp only [maxLen]; omega) (by have := HN.out; omega) _ rfl ?_; intro g' off' cap' w1 hw1 hgr hat)
    go_ret
    rw [Nat.zero_add, List.nil_append] at hw1
    refine ⟨_, rfl, hw1, ((Fr.refl Nil w).alloc _).grown hgr (fun k hk => .inr (by cases hk; exact Nat.le_refl _)), fun k hk => ?_⟩
    cases hk
    rcases hat with rfl | rfl
    · exact Nat.le_refl _
    · simp
theorem clone_lates (v : Value) (n : Nat) (xs : List Value) (w : World) (h : Win w 47 3 v n xs) (h1 : ∀ u ∈ xs, u.oneCell' = true) (hn : n ≤ 1000000) : Calls Try.prog 40 #[v] w (Copied w 47 3 n xs) := by
  obtain ⟨i3, hi, hz0, hz1, hz2⟩ := info_parts Try.info47
  obtain ⟨ao, cap, rfl, hle, hmx, hsp⟩ := h.shape
  cases ao with
  | none =>
    have hn0 : n = 0 := by
      rcases h.2 with ⟨_, h0⟩ | ⟨g, off, cap, cs, hv, _⟩
      · exact h0
      · cases hv
    have hc0 : cap = 0 := by
      rcases h.2 with ⟨h0, _⟩ | ⟨g, off, cap, cs, hv, _⟩
      · cases h0; rfl
      · cases hv
    subst hn0 hc0
    have hx : xs = [] := List.eq_nil_of_length_eq_zero (by simpa using h.1)
    subst hx
    clear h h1 hn hle hmx hsp
    have hq : ∀ w, (binOp .eql 33 (.slice none 0 0) (.slice none 0 0)).run Try.prog w = .ok (.bool true) w := fun w => Lib.run_eql_slice_nil w 33 47 none 0 0 0 0 Try.underlying33
    go_enter Try.func40, Try.ntmps40
    go_wp2
    go_ret
    exact ⟨_, rfl, Win.nil _ _ _, Fr.refl _ _, fun k hk => by cases hk⟩
  | some a =>
    have H := Lib.hid h
    have H1 := Lib.hid h1
    have HN := Lib.hid hn
    clear h h1 hn hle hmx hsp
    have hq : ∀ w, (binOp .eql 33 (.slice (some a) n cap) (.slice none 0 0)).run Try.prog w = .ok (.bool false) w := fun w => Lib.run_eql_slice_nil w 33 47 (some a) n cap 0 0 Try.underlying33
    go_enter Try.func40, Try.ntmps40
    go_wp2_with (at_builtin; refine wpList_append_all _ rfl (.tmp 5) (.tmp 6) 33 rfl 47 i3 _ 3 24 Try.underlying33 hi hz0 hz1 hz2 rfl (by decide) w.heap.size 0 0 0 [] rfl (Win.full (Blk.new w 47 #[]) rfl (by decide)) _ n xs rfl (H.out.alloc _) H1.out (by have := HN.out; simp only [maxLen]; omega) (by have := HN.out; omega) _ rfl ?_; intro g' off' cap' w1 hw1 hgr hat)
    go_ret
    rw [Nat.zero_add, List.nil_append] at hw1
    refine ⟨_, rfl, hw1, ((Fr.refl Nil w).alloc _).grown hgr (fun k hk => .inr (by cases hk; exact Nat.le_refl _)), fun k hk => ?_⟩
    cases hk
    rcases hat with rfl | rfl
    · exact Nat.le_refl _
    · simp
end Go.Proofs.Ytjbdbmahbcaniaa
