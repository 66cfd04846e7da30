/- Contracts of alu.Shift and alu.Field. -/
import Derived.Test.YtbhpakjflcmnoaaTurn
namespace Go.Proofs.Ytbhpakjflcmnoaa
open Go.RowKit
set_option linter.unusedVariables false

def shiftV (k : Nat) (v : Int) (s : Nat) : Int := match k with
  | 0 => IntKind.u64.wrap (v * 2 ^ s) | 1 => v / 2 ^ s | 2 => IntKind.u64.wrap (wrap64 v / 2 ^ s) | _ => rorF v s
set_option maxHeartbeats 1000000 in
theorem shift_0 (v : Int) (s : Nat) (w : World) (hlt : s < 64) (a0 : 0 ≤ v) (a1 : v ≤ 18446744073709551615) : Calls Try.prog 15 #[.int .u64 v, .int .i64 0, .int .i64 (s : Int)] w fun e w' => e = .returned (.tuple #[.int .u64 (shiftV 0 v s), .int .i64 0]) ∧ w = w' := by
  have hi : ∀ W : World, (Instr.index 57 (.agg #[.func (.func 25) #[] #[], .func (.func 26) #[] #[], .func (.func 27) #[] #[], .func (.func 28) #[] #[]]) (.int .i64 0)).run Try.prog W = .ok (.func (.func 25) #[] #[]) W := fun _ => by kernel_rfl
  have hs : bits .and .u64 (s : Int) 63 = (s : Int) := by
    rw [and63 _ (by omega) (by omega)]
    unfold sh
    omega
  have s0 : (0 : Int) ≤ (s : Int) := by omega
  have s1 : (s : Int) < 64 := by omega
  have s2 : (s : Int) ≤ 63 := by omega
  have hv : shiftV 0 v s = IntKind.u64.wrap (v * 2 ^ s) := rfl
  rw [hv]
  clear hv
  go_enter Try.func15, Try.ntmps15
  go_wp2
  all_goals go_ret2
  all_goals exact ⟨by rfl, rfl⟩
set_option maxHeartbeats 1000000 in
theorem shift_1 (v : Int) (s : Nat) (w : World) (hlt : s < 64) (a0 : 0 ≤ v) (a1 : v ≤ 18446744073709551615) : Calls Try.prog 15 #[.int .u64 v, .int .i64 1, .int .i64 (s : Int)] w fun e w' => e = .returned (.tuple #[.int .u64 (shiftV 1 v s), .int .i64 0]) ∧ w = w' := by
  have hi : ∀ W : World, (Instr.index 57 (.agg #[.func (.func 25) #[] #[], .func (.func 26) #[] #[], .func (.func 27) #[] #[], .func (.func 28) #[] #[]]) (.int .i64 1)).run Try.prog W = .ok (.func (.func 26) #[] #[]) W := fun _ => by kernel_rfl
  have hs : bits .and .u64 (s : Int) 63 = (s : Int) := by
    rw [and63 _ (by omega) (by omega)]
    unfold sh
    omega
  have s0 : (0 : Int) ≤ (s : Int) := by omega
  have s1 : (s : Int) < 64 := by omega
  have s2 : (s : Int) ≤ 63 := by omega
  have hv : shiftV 1 v s = v / 2 ^ s := rfl
  rw [hv]
  clear hv
  go_enter Try.func15, Try.ntmps15
  go_wp2
  all_goals go_ret2
  all_goals exact ⟨by rfl, rfl⟩
set_option maxHeartbeats 1000000 in
theorem shift_2 (v : Int) (s : Nat) (w : World) (hlt : s < 64) (a0 : 0 ≤ v) (a1 : v ≤ 18446744073709551615) : Calls Try.prog 15 #[.int .u64 v, .int .i64 2, .int .i64 (s : Int)] w fun e w' => e = .returned (.tuple #[.int .u64 (shiftV 2 v s), .int .i64 0]) ∧ w = w' := by
  have hi : ∀ W : World, (Instr.index 57 (.agg #[.func (.func 25) #[] #[], .func (.func 26) #[] #[], .func (.func 27) #[] #[], .func (.func 28) #[] #[]]) (.int .i64 2)).run Try.prog W = .ok (.func (.func 27) #[] #[]) W := fun _ => by kernel_rfl
  have hs : bits .and .u64 (s : Int) 63 = (s : Int) := by
    rw [and63 _ (by omega) (by omega)]
    unfold sh
    omega
  have s0 : (0 : Int) ≤ (s : Int) := by omega
  have s1 : (s : Int) < 64 := by omega
  have s2 : (s : Int) ≤ 63 := by omega
  have hv : shiftV 2 v s = IntKind.u64.wrap (wrap64 v / 2 ^ s) := rfl
  rw [hv]
  clear hv
  go_enter Try.func15, Try.ntmps15
  go_wp2
  all_goals go_ret2
  all_goals exact ⟨by rfl, rfl⟩
set_option maxHeartbeats 1000000 in
theorem shift_3 (v : Int) (s : Nat) (w : World) (hlt : s < 64) (a0 : 0 ≤ v) (a1 : v ≤ 18446744073709551615) : Calls Try.prog 15 #[.int .u64 v, .int .i64 3, .int .i64 (s : Int)] w fun e w' => e = .returned (.tuple #[.int .u64 (shiftV 3 v s), .int .i64 0]) ∧ w = w' := by
  have hi : ∀ W : World, (Instr.index 57 (.agg #[.func (.func 25) #[] #[], .func (.func 26) #[] #[], .func (.func 27) #[] #[], .func (.func 28) #[] #[]]) (.int .i64 3)).run Try.prog W = .ok (.func (.func 28) #[] #[]) W := fun _ => by kernel_rfl
  have hs : bits .and .u64 (s : Int) 63 = (s : Int) := by
    rw [and63 _ (by omega) (by omega)]
    unfold sh
    omega
  have s0 : (0 : Int) ≤ (s : Int) := by omega
  have s1 : (s : Int) < 64 := by omega
  have s2 : (s : Int) ≤ 63 := by omega
  have hv : shiftV 3 v s = rorF v s := rfl
  rw [hv]
  clear hv
  have hr := ror_eq v s hlt a0 a1
  rw [← hr]
  clear hr
  have ht := neg63 s hlt
  have htl : rot s < 64 := by unfold rot; split <;> omega
  obtain ⟨u, hu⟩ : ∃ u, u = 64 - rot s := ⟨_, rfl⟩
  rw [← hu]
  have hw : IntKind.u64.wrap (64 - (rot s : Int)) = (u : Int) := by rw [IntKind.wrap_u64]; omega
  have hw' : (64 : Int) - (rot s : Int) = (u : Int) := by omega
  generalize rot s = t at *
  have t0 : (0 : Int) ≤ (t : Int) := by omega
  have t1 : (t : Int) < 64 := by omega
  have u0 : (0 : Int) ≤ (u : Int) := by omega
  clear hu
  go_enter Try.func15, Try.ntmps15
  go_wp2
  all_goals go_ret2
  all_goals exact ⟨by rfl, rfl⟩
theorem shift_bad (v k s : Int) (w : World) (h : k < 0 ∨ 3 < k ∨ s < 0 ∨ 63 < s) : Calls Try.prog 15 #[.int .u64 v, .int .i64 k, .int .i64 s] w fun e w' => e = .returned (.tuple #[.int .u64 0, .int .i64 1]) ∧ w = w' := by
  by_cases h1 : k < 0
  · clear h
    go_enter Try.func15, Try.ntmps15
    go_wp2
    all_goals go_ret2
    all_goals exact ⟨by rfl, rfl⟩
  by_cases h2 : 3 < k
  · clear h
    have g1 : 0 ≤ k := by omega
    go_enter Try.func15, Try.ntmps15
    go_wp2
    all_goals go_ret2
    all_goals exact ⟨by rfl, rfl⟩
  by_cases h3 : s < 0
  · clear h
    have g1 : 0 ≤ k := by omega
    have g2 : k ≤ 3 := by omega
    go_enter Try.func15, Try.ntmps15
    go_wp2
    all_goals go_ret2
    all_goals exact ⟨by rfl, rfl⟩
  have h4 : 63 < s := by omega
  have g1 : 0 ≤ k := by omega
  have g2 : k ≤ 3 := by omega
  have g3 : 0 ≤ s := by omega
  clear h
  go_enter Try.func15, Try.ntmps15
  go_wp2
  all_goals go_ret2
  all_goals exact ⟨by rfl, rfl⟩
/-- What a bitfield move leaves: moved up by 'up', then down by 'down'. -/
def fieldV (sg : Bool) (v : Int) (up down : Nat) : Int :=
  if sg = true then IntKind.u64.wrap (wrap64 (IntKind.u64.wrap (v * 2 ^ up)) / 2 ^ down) else IntKind.u64.wrap (v * 2 ^ up) / 2 ^ down
def downF (r s : Nat) : Nat := if s < r then 63 - s + r - 64 else 63 - s + r
set_option maxHeartbeats 1000000 in
theorem field_true (v : Int) (r s : Nat) (w : World) (hr : r < 64) (hs : s < 64) (a0 : 0 ≤ v) (a1 : v ≤ 18446744073709551615) : Calls Try.prog 17 #[.int .u64 v, .bool true, .int .i64 (r : Int), .int .i64 (s : Int)] w fun e w' => e = .returned (.tuple #[.int .u64 (fieldV true v (63 - s) (downF r s)), .int .i64 0]) ∧ w = w' := by
  have r0 : (0 : Int) ≤ (r : Int) := by omega
  have r1 : (r : Int) ≤ 63 := by omega
  have s0 : (0 : Int) ≤ (s : Int) := by omega
  have s1 : (s : Int) ≤ 63 := by omega
  obtain ⟨u, hu⟩ : ∃ u, u = 63 - s := ⟨_, rfl⟩
  rw [← hu]
  have eu : (63 : Int) - (s : Int) = (u : Int) := by omega
  have u0 : (0 : Int) ≤ (u : Int) := by omega
  have u1 : (u : Int) ≤ 63 := by omega
  by_cases hlt : s < r
  · have hl : (s : Int) < (r : Int) := by omega
    obtain ⟨d, hd⟩ : ∃ d, d = downF r s := ⟨_, rfl⟩
    rw [← hd]
    unfold downF at hd
    rw [if_pos hlt] at hd
    have ed : (u : Int) + (r : Int) - 64 = (d : Int) := by omega
    have d0 : (0 : Int) ≤ (d : Int) := by omega
    have d1 : (d : Int) ≤ 63 := by omega
    have hv : fieldV true v u d = IntKind.u64.wrap (wrap64 (IntKind.u64.wrap (v * 2 ^ u)) / 2 ^ d) := rfl
    rw [hv]
    clear hv hd hu
    go_enter Try.func17, Try.ntmps17
    go_wp2
    all_goals go_ret2
    all_goals exact ⟨by rfl, rfl⟩
  · have hl : (r : Int) ≤ (s : Int) := by omega
    obtain ⟨d, hd⟩ : ∃ d, d = downF r s := ⟨_, rfl⟩
    rw [← hd]
    unfold downF at hd
    rw [if_neg hlt] at hd
    have ed : (u : Int) + (r : Int) = (d : Int) := by omega
    have d0 : (0 : Int) ≤ (d : Int) := by omega
    have d1 : (d : Int) ≤ 63 := by omega
    have hv : fieldV true v u d = IntKind.u64.wrap (wrap64 (IntKind.u64.wrap (v * 2 ^ u)) / 2 ^ d) := rfl
    rw [hv]
    clear hv hd hu
    go_enter Try.func17, Try.ntmps17
    go_wp2
    all_goals go_ret2
    all_goals exact ⟨by rfl, rfl⟩
set_option maxHeartbeats 1000000 in
theorem field_false (v : Int) (r s : Nat) (w : World) (hr : r < 64) (hs : s < 64) (a0 : 0 ≤ v) (a1 : v ≤ 18446744073709551615) : Calls Try.prog 17 #[.int .u64 v, .bool false, .int .i64 (r : Int), .int .i64 (s : Int)] w fun e w' => e = .returned (.tuple #[.int .u64 (fieldV false v (63 - s) (downF r s)), .int .i64 0]) ∧ w = w' := by
  have r0 : (0 : Int) ≤ (r : Int) := by omega
  have r1 : (r : Int) ≤ 63 := by omega
  have s0 : (0 : Int) ≤ (s : Int) := by omega
  have s1 : (s : Int) ≤ 63 := by omega
  obtain ⟨u, hu⟩ : ∃ u, u = 63 - s := ⟨_, rfl⟩
  rw [← hu]
  have eu : (63 : Int) - (s : Int) = (u : Int) := by omega
  have u0 : (0 : Int) ≤ (u : Int) := by omega
  have u1 : (u : Int) ≤ 63 := by omega
  by_cases hlt : s < r
  · have hl : (s : Int) < (r : Int) := by omega
    obtain ⟨d, hd⟩ : ∃ d, d = downF r s := ⟨_, rfl⟩
    rw [← hd]
    unfold downF at hd
    rw [if_pos hlt] at hd
    have ed : (u : Int) + (r : Int) - 64 = (d : Int) := by omega
    have d0 : (0 : Int) ≤ (d : Int) := by omega
    have d1 : (d : Int) ≤ 63 := by omega
    have hv : fieldV false v u d = IntKind.u64.wrap (v * 2 ^ u) / 2 ^ d := rfl
    rw [hv]
    clear hv hd hu
    go_enter Try.func17, Try.ntmps17
    go_wp2
    all_goals go_ret2
    all_goals exact ⟨by rfl, rfl⟩
  · have hl : (r : Int) ≤ (s : Int) := by omega
    obtain ⟨d, hd⟩ : ∃ d, d = downF r s := ⟨_, rfl⟩
    rw [← hd]
    unfold downF at hd
    rw [if_neg hlt] at hd
    have ed : (u : Int) + (r : Int) = (d : Int) := by omega
    have d0 : (0 : Int) ≤ (d : Int) := by omega
    have d1 : (d : Int) ≤ 63 := by omega
    have hv : fieldV false v u d = IntKind.u64.wrap (v * 2 ^ u) / 2 ^ d := rfl
    rw [hv]
    clear hv hd hu
    go_enter Try.func17, Try.ntmps17
    go_wp2
    all_goals go_ret2
    all_goals exact ⟨by rfl, rfl⟩
theorem field_bad (v : Int) (sg : Bool) (r s : Int) (w : World) (h : r < 0 ∨ 63 < r ∨ s < 0 ∨ 63 < s) : Calls Try.prog 17 #[.int .u64 v, .bool sg, .int .i64 r, .int .i64 s] w fun e w' => e = .returned (.tuple #[.int .u64 0, .int .i64 1]) ∧ w = w' := by
  by_cases h1 : r < 0
  · clear h
    go_enter Try.func17, Try.ntmps17
    go_wp2
    all_goals go_ret2
    all_goals exact ⟨by rfl, rfl⟩
  by_cases h2 : 63 < r
  · clear h
    have g1 : 0 ≤ r := by omega
    go_enter Try.func17, Try.ntmps17
    go_wp2
    all_goals go_ret2
    all_goals exact ⟨by rfl, rfl⟩
  by_cases h3 : s < 0
  · clear h
    have g1 : 0 ≤ r := by omega
    have g2 : r ≤ 63 := by omega
    go_enter Try.func17, Try.ntmps17
    go_wp2
    all_goals go_ret2
    all_goals exact ⟨by rfl, rfl⟩
  have h4 : 63 < s := by omega
  have g1 : 0 ≤ r := by omega
  have g2 : r ≤ 63 := by omega
  have g3 : 0 ≤ s := by omega
  clear h
  go_enter Try.func17, Try.ntmps17
  go_wp2
  all_goals go_ret2
  all_goals exact ⟨by rfl, rfl⟩
end Go.Proofs.Ytbhpakjflcmnoaa
