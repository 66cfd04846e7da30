/- Contracts of package alu. -/
import Derived.Test.YtbhpakjflcmnoaaRows
import Derived.Test.YtbhpakjflcmnoaaBase
import Derived.Laws.Externs
namespace Go.Proofs.Ytbhpakjflcmnoaa
open Go.RowKit
set_option linter.unusedVariables false

def sdF (a b : Int) : Int := if b = 0 then 0 else if wrap64 b = -1 then IntKind.u64.wrap (-a) else IntKind.u64.wrap (wrap64 ((wrap64 a).tdiv (wrap64 b)))
def tr (b : Bool) : Int := if b = true then 1 else 0
def rorF (a : Int) (s : Nat) : Int := a / 2 ^ s + (a % 2 ^ s) * 2 ^ (64 - s)
def sh (b : Int) : Nat := (b % 64).toNat
def opV (k : Nat) (a b : Int) : Int := match k with
  | 1 => IntKind.u64.wrap (a + b) | 2 => IntKind.u64.wrap (a - b) | 3 => bits .and .u64 a b | 4 => bits .or .u64 a b | 5 => bits .xor .u64 a b
  | 6 => IntKind.u64.wrap (a * b) | 7 => if b = 0 then 0 else a / b | 8 => sdF a b | 9 => IntKind.u64.wrap (a * 2 ^ sh b) | 10 => a / 2 ^ sh b
  | 11 => IntKind.u64.wrap (wrap64 a / 2 ^ sh b) | 12 => rorF a (sh b) | 13 => tr (a == b) | 14 => tr (decide (a < b)) | 15 => tr (decide (wrap64 a < wrap64 b)) | _ => 0
theorem bitsN (n m : Nat) (hn : n < 2 ^ 64) (hm : m < 2 ^ 64) : bits .and .u64 (n : Int) (m : Int) = ((n &&& m : Nat) : Int) := by
  have e : bits .and .u64 (n : Int) (m : Int) = IntKind.u64.wrap (((BitVec.ofNat 64 n &&& BitVec.ofNat 64 m).toNat : Nat) : Int) := by
    unfold bits
    simp only [IntKind.bits, BitVec.ofInt_natCast]
    rfl
  rw [e, BitVec.toNat_and, BitVec.toNat_ofNat, BitVec.toNat_ofNat, Nat.mod_eq_of_lt hn, Nat.mod_eq_of_lt hm, IntKind.wrap_u64]
  have : n &&& m ≤ n := Nat.and_le_left
  omega
theorem orN (n m : Nat) (hn : n < 2 ^ 64) (hm : m < 2 ^ 64) : bits .or .u64 (n : Int) (m : Int) = ((n ||| m : Nat) : Int) := by
  have e : bits .or .u64 (n : Int) (m : Int) = IntKind.u64.wrap (((BitVec.ofNat 64 n ||| BitVec.ofNat 64 m).toNat : Nat) : Int) := by
    unfold bits
    simp only [IntKind.bits, BitVec.ofInt_natCast]
    rfl
  have hlt : n ||| m < 2 ^ 64 := Nat.or_lt_two_pow hn hm
  rw [e, BitVec.toNat_or, BitVec.toNat_ofNat, BitVec.toNat_ofNat, Nat.mod_eq_of_lt hn, Nat.mod_eq_of_lt hm, IntKind.wrap_u64]
  omega
theorem xorN (n m : Nat) (hn : n < 2 ^ 64) (hm : m < 2 ^ 64) : bits .xor .u64 (n : Int) (m : Int) = ((n ^^^ m : Nat) : Int) := by
  have e : bits .xor .u64 (n : Int) (m : Int) = IntKind.u64.wrap (((BitVec.ofNat 64 n ^^^ BitVec.ofNat 64 m).toNat : Nat) : Int) := by
    unfold bits
    simp only [IntKind.bits, BitVec.ofInt_natCast]
    rfl
  have hlt : n ^^^ m < 2 ^ 64 := Nat.xor_lt_two_pow hn hm
  rw [e, BitVec.toNat_xor, BitVec.toNat_ofNat, BitVec.toNat_ofNat, Nat.mod_eq_of_lt hn, Nat.mod_eq_of_lt hm, IntKind.wrap_u64]
  omega
theorem and63 (b : Int) (h0 : 0 ≤ b) (h1 : b ≤ 18446744073709551615) : bits .and .u64 b 63 = (sh b : Int) := by
  obtain ⟨n, rfl⟩ : ∃ n : Nat, b = (n : Int) := ⟨b.toNat, by omega⟩
  have e := bitsN n 63 (by omega) (by decide)
  have e2 : n &&& 63 = n % 64 := Nat.and_two_pow_sub_one_eq_mod n 6
  have e3 : ((63 : Nat) : Int) = 63 := rfl
  rw [e2, e3] at e
  rw [e]
  unfold sh
  omega
theorem sh_lt (b : Int) : sh b < 64 := by unfold sh; omega
def rot (s : Nat) : Nat := if s = 0 then 0 else 64 - s
theorem neg63 (s : Nat) (hs : s < 64) : bits .and .u64 (IntKind.u64.wrap (-(s : Int))) 63 = (rot s : Int) := by
  rw [and63 _ (by rw [IntKind.wrap_u64]; omega) (by rw [IntKind.wrap_u64]; omega), IntKind.wrap_u64]
  unfold sh rot
  split
  · subst_vars; rfl
  · omega
theorem pow_pos' (s : Nat) : 0 < 2 ^ s := Nat.two_pow_pos s
theorem ror_eq (a : Int) (s : Nat) (hs : s < 64) (h0 : 0 ≤ a) (h1 : a ≤ 18446744073709551615) : bits .or .u64 (IntKind.u64.wrap (a * 2 ^ rot s)) (a / 2 ^ (64 - rot s)) = rorF a s := by
  obtain ⟨n, rfl⟩ : ∃ n : Nat, a = (n : Int) := ⟨a.toNat, by omega⟩
  have hn : n < 2 ^ 64 := by omega
  unfold rorF rot
  by_cases h : s = 0
  · subst h
    simp only [if_true]
    have e1 : IntKind.u64.wrap ((n : Int) * 2 ^ 0) = (n : Int) := by rw [IntKind.wrap_u64]; omega
    have e2 : (n : Int) / 2 ^ (64 - 0) = ((0 : Nat) : Int) := by
      rw [show (2 : Int) ^ (64 - 0) = 18446744073709551616 from rfl]; omega
    rw [e1, e2, orN n 0 hn (by decide)]
    simp
  · rw [if_neg h]
    have hle : 64 - (64 - s) = s := by omega
    rw [hle]
    have e1 : IntKind.u64.wrap ((n : Int) * 2 ^ (64 - s)) = (((n % 2 ^ s) * 2 ^ (64 - s) : Nat) : Int) := by
      rw [IntKind.wrap_u64]
      have : n * 2 ^ (64 - s) % 2 ^ 64 = (n % 2 ^ s) * 2 ^ (64 - s) := by
        have h64 : 2 ^ 64 = 2 ^ s * 2 ^ (64 - s) := by rw [← Nat.pow_add]; congr 1; omega
        rw [h64, Nat.mul_mod_mul_right]
      have h2 : ((n : Int) * 2 ^ (64 - s)) % 18446744073709551616 = ((n * 2 ^ (64 - s) % 2 ^ 64 : Nat) : Int) := by
        rw [Int.natCast_emod, Int.natCast_mul, Int.natCast_pow]; rfl
      rw [h2, this]
    have e2 : (n : Int) / 2 ^ s = ((n / 2 ^ s : Nat) : Int) := by rw [Int.natCast_ediv, Int.natCast_pow]; rfl
    have e3 : (n : Int) % 2 ^ s = ((n % 2 ^ s : Nat) : Int) := by rw [Int.natCast_emod, Int.natCast_pow]; rfl
    have hd : n / 2 ^ s < 2 ^ (64 - s) := by
      rw [Nat.div_lt_iff_lt_mul (pow_pos' s), ← Nat.pow_add]
      have : 64 - s + s = 64 := by omega
      rw [this]; exact hn
    have hm : (n % 2 ^ s) * 2 ^ (64 - s) < 2 ^ 64 := by
      have h64 : 2 ^ 64 = 2 ^ s * 2 ^ (64 - s) := by rw [← Nat.pow_add]; congr 1; omega
      rw [h64]
      exact Nat.mul_lt_mul_of_pos_right (Nat.mod_lt _ (pow_pos' s)) (pow_pos' _)
    have hq : n / 2 ^ s < 2 ^ 64 := Nat.lt_of_le_of_lt (Nat.div_le_self _ _) hn
    rw [e1, e2, e3, orN _ _ hm hq]
    have := Nat.two_pow_add_eq_or_of_lt hd (n % 2 ^ s)
    rw [Nat.mul_comm (n % 2 ^ s), ← this]
    rw [Int.natCast_add, Int.natCast_mul, Int.natCast_pow, Int.mul_comm, Int.add_comm]
    rfl
set_option maxHeartbeats 1000000 in
theorem reckon_1 (a b : Int) (w : World) (a0 : 0 ≤ a) (a1 : a ≤ 18446744073709551615) (b0 : 0 ≤ b) (b1 : b ≤ 18446744073709551615) : Calls Try.prog 10 #[.int .i64 1, .int .u64 a, .int .u64 b] w fun e w' => e = .returned (.tuple #[.int .u64 (opV 1 a b), .int .i64 0]) ∧ w = w' := by
  have hf : ∀ W : World, (binOp .eql 47 (.func (.func 29) #[] #[]) .nilFunc).run Try.prog W = .ok (.bool false) W := fun _ => by kernel_rfl
  go_enter Try.func10, Try.ntmps10
  go_wp2
  all_goals go_ret2
  all_goals exact ⟨by rfl, rfl⟩
set_option maxHeartbeats 1000000 in
theorem reckon_2 (a b : Int) (w : World) (a0 : 0 ≤ a) (a1 : a ≤ 18446744073709551615) (b0 : 0 ≤ b) (b1 : b ≤ 18446744073709551615) : Calls Try.prog 10 #[.int .i64 2, .int .u64 a, .int .u64 b] w fun e w' => e = .returned (.tuple #[.int .u64 (opV 2 a b), .int .i64 0]) ∧ w = w' := by
  have hf : ∀ W : World, (binOp .eql 47 (.func (.func 30) #[] #[]) .nilFunc).run Try.prog W = .ok (.bool false) W := fun _ => by kernel_rfl
  go_enter Try.func10, Try.ntmps10
  go_wp2
  all_goals go_ret2
  all_goals exact ⟨by rfl, rfl⟩
set_option maxHeartbeats 1000000 in
theorem reckon_3 (a b : Int) (w : World) (a0 : 0 ≤ a) (a1 : a ≤ 18446744073709551615) (b0 : 0 ≤ b) (b1 : b ≤ 18446744073709551615) : Calls Try.prog 10 #[.int .i64 3, .int .u64 a, .int .u64 b] w fun e w' => e = .returned (.tuple #[.int .u64 (opV 3 a b), .int .i64 0]) ∧ w = w' := by
  have hf : ∀ W : World, (binOp .eql 47 (.func (.func 31) #[] #[]) .nilFunc).run Try.prog W = .ok (.bool false) W := fun _ => by kernel_rfl
  go_enter Try.func10, Try.ntmps10
  go_wp2
  all_goals go_ret2
  all_goals exact ⟨by rfl, rfl⟩
set_option maxHeartbeats 1000000 in
theorem reckon_4 (a b : Int) (w : World) (a0 : 0 ≤ a) (a1 : a ≤ 18446744073709551615) (b0 : 0 ≤ b) (b1 : b ≤ 18446744073709551615) : Calls Try.prog 10 #[.int .i64 4, .int .u64 a, .int .u64 b] w fun e w' => e = .returned (.tuple #[.int .u64 (opV 4 a b), .int .i64 0]) ∧ w = w' := by
  have hf : ∀ W : World, (binOp .eql 47 (.func (.func 32) #[] #[]) .nilFunc).run Try.prog W = .ok (.bool false) W := fun _ => by kernel_rfl
  go_enter Try.func10, Try.ntmps10
  go_wp2
  all_goals go_ret2
  all_goals exact ⟨by rfl, rfl⟩
set_option maxHeartbeats 1000000 in
theorem reckon_5 (a b : Int) (w : World) (a0 : 0 ≤ a) (a1 : a ≤ 18446744073709551615) (b0 : 0 ≤ b) (b1 : b ≤ 18446744073709551615) : Calls Try.prog 10 #[.int .i64 5, .int .u64 a, .int .u64 b] w fun e w' => e = .returned (.tuple #[.int .u64 (opV 5 a b), .int .i64 0]) ∧ w = w' := by
  have hf : ∀ W : World, (binOp .eql 47 (.func (.func 33) #[] #[]) .nilFunc).run Try.prog W = .ok (.bool false) W := fun _ => by kernel_rfl
  go_enter Try.func10, Try.ntmps10
  go_wp2
  all_goals go_ret2
  all_goals exact ⟨by rfl, rfl⟩
set_option maxHeartbeats 1000000 in
theorem reckon_6 (a b : Int) (w : World) (a0 : 0 ≤ a) (a1 : a ≤ 18446744073709551615) (b0 : 0 ≤ b) (b1 : b ≤ 18446744073709551615) : Calls Try.prog 10 #[.int .i64 6, .int .u64 a, .int .u64 b] w fun e w' => e = .returned (.tuple #[.int .u64 (opV 6 a b), .int .i64 0]) ∧ w = w' := by
  have hf : ∀ W : World, (binOp .eql 47 (.func (.func 34) #[] #[]) .nilFunc).run Try.prog W = .ok (.bool false) W := fun _ => by kernel_rfl
  go_enter Try.func10, Try.ntmps10
  go_wp2
  all_goals go_ret2
  all_goals exact ⟨by rfl, rfl⟩
set_option maxHeartbeats 1000000 in
theorem reckon_7 (a b : Int) (w : World) (a0 : 0 ≤ a) (a1 : a ≤ 18446744073709551615) (b0 : 0 ≤ b) (b1 : b ≤ 18446744073709551615) : Calls Try.prog 10 #[.int .i64 7, .int .u64 a, .int .u64 b] w fun e w' => e = .returned (.tuple #[.int .u64 (opV 7 a b), .int .i64 0]) ∧ w = w' := by
  have hf : ∀ W : World, (binOp .eql 47 (.func (.func 35) #[] #[]) .nilFunc).run Try.prog W = .ok (.bool false) W := fun _ => by kernel_rfl
  by_cases h : b = 0
  · have hv : opV 7 a b = 0 := by simp [opV, h]
    rw [hv]
    have h' : (b == 0) = true := by simp [h]
    clear hv
    go_enter Try.func10, Try.ntmps10
    go_wp2
    all_goals go_ret2
    all_goals exact ⟨by rfl, rfl⟩
  · have hv : opV 7 a b = a / b := by simp [opV, h]
    rw [hv]
    have h' : (b == 0) = false := by simp [h]
    clear hv
    go_enter Try.func10, Try.ntmps10
    go_wp2
    all_goals go_ret2
    all_goals exact ⟨by rfl, rfl⟩
set_option maxHeartbeats 1000000 in
theorem reckon_8 (a b : Int) (w : World) (a0 : 0 ≤ a) (a1 : a ≤ 18446744073709551615) (b0 : 0 ≤ b) (b1 : b ≤ 18446744073709551615) : Calls Try.prog 10 #[.int .i64 8, .int .u64 a, .int .u64 b] w fun e w' => e = .returned (.tuple #[.int .u64 (opV 8 a b), .int .i64 0]) ∧ w = w' := by
  have hf : ∀ W : World, (binOp .eql 47 (.func (.func 36) #[] #[]) .nilFunc).run Try.prog W = .ok (.bool false) W := fun _ => by kernel_rfl
  have hz : b = 0 ↔ wrap64 b = 0 := by unfold wrap64; omega
  by_cases h : b = 0
  · have hv : opV 8 a b = 0 := by simp [opV, sdF, h]
    rw [hv]
    have h' : (wrap64 b == 0) = true := by simp [hz.1 h]
    clear hv hz
    go_enter Try.func10, Try.ntmps10
    go_wp2
    all_goals go_ret2
    all_goals exact ⟨by rfl, rfl⟩
  · have h0 : ¬ wrap64 b = 0 := fun x => h (hz.2 x)
    have h' : (wrap64 b == 0) = false := by simpa using h0
    by_cases h1 : wrap64 b = -1
    · have hv : opV 8 a b = IntKind.u64.wrap (-a) := by simp [opV, sdF, h, h1]
      rw [hv]
      have h1' : (wrap64 b == -1) = true := by simp [h1]
      clear hv hz
      go_enter Try.func10, Try.ntmps10
      go_wp2
      all_goals go_ret2
      all_goals exact ⟨by rfl, rfl⟩
    · have hv : opV 8 a b = IntKind.u64.wrap (wrap64 ((wrap64 a).tdiv (wrap64 b))) := by simp [opV, sdF, h, h1]
      rw [hv]
      have h1' : (wrap64 b == -1) = false := by simpa using h1
      clear hv hz
      go_enter Try.func10, Try.ntmps10
      go_wp2
      all_goals go_ret2
      all_goals exact ⟨by rfl, rfl⟩
set_option maxHeartbeats 1000000 in
theorem reckon_9 (a b : Int) (w : World) (a0 : 0 ≤ a) (a1 : a ≤ 18446744073709551615) (b0 : 0 ≤ b) (b1 : b ≤ 18446744073709551615) : Calls Try.prog 10 #[.int .i64 9, .int .u64 a, .int .u64 b] w fun e w' => e = .returned (.tuple #[.int .u64 (opV 9 a b), .int .i64 0]) ∧ w = w' := by
  have hf : ∀ W : World, (binOp .eql 47 (.func (.func 25) #[] #[]) .nilFunc).run Try.prog W = .ok (.bool false) W := fun _ => by kernel_rfl
  have hs := and63 b b0 b1
  have hlt := sh_lt b
  have hv : opV 9 a b = IntKind.u64.wrap (a * 2 ^ sh b) := rfl
  rw [hv]
  clear hv
  generalize sh b = s at *
  have s0 : (0 : Int) ≤ (s : Int) := by omega
  have s1 : (s : Int) < 64 := by omega
  have s2 : (s : Int) ≤ 63 := by omega
  go_enter Try.func10, Try.ntmps10
  go_wp2
  all_goals go_ret2
  all_goals exact ⟨by rfl, rfl⟩
set_option maxHeartbeats 1000000 in
theorem reckon_10 (a b : Int) (w : World) (a0 : 0 ≤ a) (a1 : a ≤ 18446744073709551615) (b0 : 0 ≤ b) (b1 : b ≤ 18446744073709551615) : Calls Try.prog 10 #[.int .i64 10, .int .u64 a, .int .u64 b] w fun e w' => e = .returned (.tuple #[.int .u64 (opV 10 a b), .int .i64 0]) ∧ w = w' := by
  have hf : ∀ W : World, (binOp .eql 47 (.func (.func 26) #[] #[]) .nilFunc).run Try.prog W = .ok (.bool false) W := fun _ => by kernel_rfl
  have hs := and63 b b0 b1
  have hlt := sh_lt b
  have hv : opV 10 a b = a / 2 ^ sh b := rfl
  rw [hv]
  clear hv
  generalize sh b = s at *
  have s0 : (0 : Int) ≤ (s : Int) := by omega
  have s1 : (s : Int) < 64 := by omega
  have s2 : (s : Int) ≤ 63 := by omega
  go_enter Try.func10, Try.ntmps10
  go_wp2
  all_goals go_ret2
  all_goals exact ⟨by rfl, rfl⟩
set_option maxHeartbeats 1000000 in
theorem reckon_11 (a b : Int) (w : World) (a0 : 0 ≤ a) (a1 : a ≤ 18446744073709551615) (b0 : 0 ≤ b) (b1 : b ≤ 18446744073709551615) : Calls Try.prog 10 #[.int .i64 11, .int .u64 a, .int .u64 b] w fun e w' => e = .returned (.tuple #[.int .u64 (opV 11 a b), .int .i64 0]) ∧ w = w' := by
  have hf : ∀ W : World, (binOp .eql 47 (.func (.func 27) #[] #[]) .nilFunc).run Try.prog W = .ok (.bool false) W := fun _ => by kernel_rfl
  have hs := and63 b b0 b1
  have hlt := sh_lt b
  have hv : opV 11 a b = IntKind.u64.wrap (wrap64 a / 2 ^ sh b) := rfl
  rw [hv]
  clear hv
  generalize sh b = s at *
  have s0 : (0 : Int) ≤ (s : Int) := by omega
  have s1 : (s : Int) < 64 := by omega
  have s2 : (s : Int) ≤ 63 := by omega
  go_enter Try.func10, Try.ntmps10
  go_wp2
  all_goals go_ret2
  all_goals exact ⟨by rfl, rfl⟩
set_option maxHeartbeats 1000000 in
theorem reckon_12 (a b : Int) (w : World) (a0 : 0 ≤ a) (a1 : a ≤ 18446744073709551615) (b0 : 0 ≤ b) (b1 : b ≤ 18446744073709551615) : Calls Try.prog 10 #[.int .i64 12, .int .u64 a, .int .u64 b] w fun e w' => e = .returned (.tuple #[.int .u64 (opV 12 a b), .int .i64 0]) ∧ w = w' := by
  have hf : ∀ W : World, (binOp .eql 47 (.func (.func 28) #[] #[]) .nilFunc).run Try.prog W = .ok (.bool false) W := fun _ => by kernel_rfl
  have hs := and63 b b0 b1
  have hlt := sh_lt b
  have hv : opV 12 a b = rorF a (sh b) := rfl
  rw [hv]
  clear hv
  generalize sh b = s at *
  have hr := ror_eq a s hlt a0 a1
  rw [← hr]
  clear hr
  have s0 : (0 : Int) ≤ (s : Int) := by omega
  have s1 : (s : Int) < 64 := by omega
  have s2 : (s : Int) ≤ 63 := by omega
  have ht := neg63 s hlt
  have htl : rot s < 64 := by unfold rot; split <;> omega
  obtain ⟨u, hu⟩ : ∃ u, u = 64 - rot s := ⟨_, rfl⟩
  rw [← hu]
  have hw : IntKind.u64.wrap (64 - (rot s : Int)) = (u : Int) := by rw [IntKind.wrap_u64]; omega
  have hw' : (64 : Int) - (rot s : Int) = (u : Int) := by omega
  generalize rot s = t at *
  have t0 : (0 : Int) ≤ (t : Int) := by omega
  have t1 : (t : Int) < 64 := by omega
  have u0 : (0 : Int) ≤ (u : Int) := by omega
  clear hu
  go_enter Try.func10, Try.ntmps10
  go_wp2
  all_goals go_ret2
  all_goals exact ⟨by rfl, rfl⟩
set_option maxHeartbeats 1000000 in
theorem reckon_13 (a b : Int) (w : World) (a0 : 0 ≤ a) (a1 : a ≤ 18446744073709551615) (b0 : 0 ≤ b) (b1 : b ≤ 18446744073709551615) : Calls Try.prog 10 #[.int .i64 13, .int .u64 a, .int .u64 b] w fun e w' => e = .returned (.tuple #[.int .u64 (opV 13 a b), .int .i64 0]) ∧ w = w' := by
  have hf : ∀ W : World, (binOp .eql 47 (.func (.func 37) #[] #[]) .nilFunc).run Try.prog W = .ok (.bool false) W := fun _ => by kernel_rfl
  have hv : opV 13 a b = tr (a == b) := rfl
  rw [hv]
  clear hv
  cases h : (a == b)
  · go_enter Try.func10, Try.ntmps10
    go_wp2
    all_goals go_ret2
    all_goals exact ⟨by rfl, rfl⟩
  · go_enter Try.func10, Try.ntmps10
    go_wp2
    all_goals go_ret2
    all_goals exact ⟨by rfl, rfl⟩
set_option maxHeartbeats 1000000 in
theorem reckon_14 (a b : Int) (w : World) (a0 : 0 ≤ a) (a1 : a ≤ 18446744073709551615) (b0 : 0 ≤ b) (b1 : b ≤ 18446744073709551615) : Calls Try.prog 10 #[.int .i64 14, .int .u64 a, .int .u64 b] w fun e w' => e = .returned (.tuple #[.int .u64 (opV 14 a b), .int .i64 0]) ∧ w = w' := by
  have hf : ∀ W : World, (binOp .eql 47 (.func (.func 38) #[] #[]) .nilFunc).run Try.prog W = .ok (.bool false) W := fun _ => by kernel_rfl
  have hv : opV 14 a b = tr (decide (a < b)) := rfl
  rw [hv]
  clear hv
  cases h : (decide (a < b))
  · go_enter Try.func10, Try.ntmps10
    go_wp2
    all_goals go_ret2
    all_goals exact ⟨by rfl, rfl⟩
  · go_enter Try.func10, Try.ntmps10
    go_wp2
    all_goals go_ret2
    all_goals exact ⟨by rfl, rfl⟩
set_option maxHeartbeats 1000000 in
theorem reckon_15 (a b : Int) (w : World) (a0 : 0 ≤ a) (a1 : a ≤ 18446744073709551615) (b0 : 0 ≤ b) (b1 : b ≤ 18446744073709551615) : Calls Try.prog 10 #[.int .i64 15, .int .u64 a, .int .u64 b] w fun e w' => e = .returned (.tuple #[.int .u64 (opV 15 a b), .int .i64 0]) ∧ w = w' := by
  have hf : ∀ W : World, (binOp .eql 47 (.func (.func 39) #[] #[]) .nilFunc).run Try.prog W = .ok (.bool false) W := fun _ => by kernel_rfl
  have hv : opV 15 a b = tr (decide (wrap64 a < wrap64 b)) := rfl
  rw [hv]
  clear hv
  cases h : (decide (wrap64 a < wrap64 b))
  · go_enter Try.func10, Try.ntmps10
    go_wp2
    all_goals go_ret2
    all_goals exact ⟨by rfl, rfl⟩
  · go_enter Try.func10, Try.ntmps10
    go_wp2
    all_goals go_ret2
    all_goals exact ⟨by rfl, rfl⟩
theorem reckon_bad (k a b : Int) (w : World) (h : k < 1 ∨ 15 < k) : Calls Try.prog 10 #[.int .i64 k, .int .u64 a, .int .u64 b] w fun e w' => e = .returned (.tuple #[.int .u64 0, .int .i64 1]) ∧ w = w' := by
  have hf : ∀ W : World, (binOp .eql 47 .nilFunc .nilFunc).run Try.prog W = .ok (.bool true) W := fun _ => by kernel_rfl
  have h1 : ¬ k = 1 := by omega
  have h2 : ¬ k = 2 := by omega
  have h3 : ¬ k = 3 := by omega
  have h4 : ¬ k = 4 := by omega
  have h5 : ¬ k = 5 := by omega
  have h6 : ¬ k = 6 := by omega
  have h7 : ¬ k = 7 := by omega
  have h8 : ¬ k = 8 := by omega
  have h9 : ¬ k = 9 := by omega
  have h10 : ¬ k = 10 := by omega
  have h11 : ¬ k = 11 := by omega
  have h12 : ¬ k = 12 := by omega
  have h13 : ¬ k = 13 := by omega
  have h14 : ¬ k = 14 := by omega
  have h15 : ¬ k = 15 := by omega
  clear h
  go_enter Try.func10, Try.ntmps10
  go_wp2
  all_goals go_ret2
  all_goals exact ⟨rfl, rfl⟩
theorem reckon_ok (k : Nat) (a b : Int) (w : World) (k0 : 1 ≤ k) (k1 : k ≤ 15) (a0 : 0 ≤ a) (a1 : a ≤ 18446744073709551615) (b0 : 0 ≤ b) (b1 : b ≤ 18446744073709551615) : Calls Try.prog 10 #[.int .i64 (k : Int), .int .u64 a, .int .u64 b] w fun e w' => e = .returned (.tuple #[.int .u64 (opV k a b), .int .i64 0]) ∧ w = w' := by
  have : k = 1 ∨ k = 2 ∨ k = 3 ∨ k = 4 ∨ k = 5 ∨ k = 6 ∨ k = 7 ∨ k = 8 ∨ k = 9 ∨ k = 10 ∨ k = 11 ∨ k = 12 ∨ k = 13 ∨ k = 14 ∨ k = 15 := by omega
  rcases this with rfl | rfl | rfl | rfl | rfl | rfl | rfl | rfl | rfl | rfl | rfl | rfl | rfl | rfl | rfl
  · exact reckon_1 a b w a0 a1 b0 b1
  · exact reckon_2 a b w a0 a1 b0 b1
  · exact reckon_3 a b w a0 a1 b0 b1
  · exact reckon_4 a b w a0 a1 b0 b1
  · exact reckon_5 a b w a0 a1 b0 b1
  · exact reckon_6 a b w a0 a1 b0 b1
  · exact reckon_7 a b w a0 a1 b0 b1
  · exact reckon_8 a b w a0 a1 b0 b1
  · exact reckon_9 a b w a0 a1 b0 b1
  · exact reckon_10 a b w a0 a1 b0 b1
  · exact reckon_11 a b w a0 a1 b0 b1
  · exact reckon_12 a b w a0 a1 b0 b1
  · exact reckon_13 a b w a0 a1 b0 b1
  · exact reckon_14 a b w a0 a1 b0 b1
  · exact reckon_15 a b w a0 a1 b0 b1
end Go.Proofs.Ytbhpakjflcmnoaa
