/- RotateLeft64, OnesCount64, a turn of Parts. -/
import Derived.Test.YthmlkealefboaaaTbl
namespace Go.Proofs.Ythmlkealefboaaa
open Go.RowKit
set_option linter.unusedVariables false
set_option maxRecDepth 100000

theorem rot_val (m d : Nat) (hm : m < 2 ^ 64) (hd : d ≤ 64) : bits .or .u64 (IntKind.u64.wrap ((m : Int) * 2 ^ d)) ((m : Int) / 2 ^ (64 - d)) = (rotN m d : Int) := by
  have e1 : IntKind.u64.wrap ((m : Int) * 2 ^ d) = ((m * 2 ^ d % 2 ^ 64 : Nat) : Int) := by rw [powN, IntKind.wrap_u64]; omega
  have e2 : (m : Int) / 2 ^ (64 - d) = ((m / 2 ^ (64 - d) : Nat) : Int) := by rw [powN]; rfl
  have h1 : m * 2 ^ d % 2 ^ 64 < 2 ^ 64 := Nat.mod_lt _ (by decide)
  have h2 : m / 2 ^ (64 - d) < 2 ^ 64 := Nat.lt_of_le_of_lt (Nat.div_le_self _ _) hm
  rw [e1, e2, orN _ _ h1 h2]
  rfl
def RotC (m d : Nat) : Prop := ∀ w : World, Calls Try.prog 25 #[.int .u64 (m : Int), .int .i64 (d : Int)] w fun e w' => e = .returned (.int .u64 (rotN m d : Int)) ∧ w = w'
theorem rot_32 (m : Nat) (hm : m < 2 ^ 64) : RotC m 32 := by
  intro w
  have h : bits .and .u64 32 63 = 32 := by decide
  have R := Lib.hid (rot_val m 32 hm (by omega))
  have e32 : ((32 : Nat) : Int) = 32 := rfl
  have m0 : (0 : Int) ≤ (m : Int) := by omega
  have m1 : (m : Int) ≤ 18446744073709551615 := by omega
  rw [e32]
  clear e32
  go_enter Try.func25, Try.ntmps25
  go_wp2
  go_ret
  exact ⟨by rw [← R.out]; rfl, rfl⟩
theorem rot_16 (m : Nat) (hm : m < 2 ^ 64) : RotC m 16 := by
  intro w
  have h : bits .and .u64 16 63 = 16 := by decide
  have R := Lib.hid (rot_val m 16 hm (by omega))
  have e32 : ((16 : Nat) : Int) = 16 := rfl
  have m0 : (0 : Int) ≤ (m : Int) := by omega
  have m1 : (m : Int) ≤ 18446744073709551615 := by omega
  rw [e32]
  clear e32
  go_enter Try.func25, Try.ntmps25
  go_wp2
  go_ret
  exact ⟨by rw [← R.out]; rfl, rfl⟩
theorem rot_8 (m : Nat) (hm : m < 2 ^ 64) : RotC m 8 := by
  intro w
  have h : bits .and .u64 8 63 = 8 := by decide
  have R := Lib.hid (rot_val m 8 hm (by omega))
  have e32 : ((8 : Nat) : Int) = 8 := rfl
  have m0 : (0 : Int) ≤ (m : Int) := by omega
  have m1 : (m : Int) ≤ 18446744073709551615 := by omega
  rw [e32]
  clear e32
  go_enter Try.func25, Try.ntmps25
  go_wp2
  go_ret
  exact ⟨by rw [← R.out]; rfl, rfl⟩
theorem rot_4 (m : Nat) (hm : m < 2 ^ 64) : RotC m 4 := by
  intro w
  have h : bits .and .u64 4 63 = 4 := by decide
  have R := Lib.hid (rot_val m 4 hm (by omega))
  have e32 : ((4 : Nat) : Int) = 4 := rfl
  have m0 : (0 : Int) ≤ (m : Int) := by omega
  have m1 : (m : Int) ≤ 18446744073709551615 := by omega
  rw [e32]
  clear e32
  go_enter Try.func25, Try.ntmps25
  go_wp2
  go_ret
  exact ⟨by rw [← R.out]; rfl, rfl⟩
theorem rot_2 (m : Nat) (hm : m < 2 ^ 64) : RotC m 2 := by
  intro w
  have h : bits .and .u64 2 63 = 2 := by decide
  have R := Lib.hid (rot_val m 2 hm (by omega))
  have e32 : ((2 : Nat) : Int) = 2 := rfl
  have m0 : (0 : Int) ≤ (m : Int) := by omega
  have m1 : (m : Int) ≤ 18446744073709551615 := by omega
  rw [e32]
  clear e32
  go_enter Try.func25, Try.ntmps25
  go_wp2
  go_ret
  exact ⟨by rw [← R.out]; rfl, rfl⟩
theorem and127 (y : Int) : bits .and .i64 y 127 = y % 128 := by
  have e : bits .and .i64 y 127 = IntKind.i64.wrap (((BitVec.ofInt 64 y &&& BitVec.ofNat 64 127).toNat : Nat) : Int) := by
    unfold bits
    simp only [IntKind.bits]
    rfl
  have h : (y % (2 ^ 64 : Nat)).toNat &&& 127 = (y % (2 ^ 64 : Nat)).toNat % 128 := Nat.and_two_pow_sub_one_eq_mod _ 7
  rw [e, BitVec.toNat_and, BitVec.toNat_ofNat, Nat.mod_eq_of_lt (show 127 < 2 ^ 64 by decide), BitVec.toNat_ofInt, h, IntKind.wrap_i64]
  omega
theorem andC (x M : Nat) {m : Int} (hm : m = (M : Int)) (hx : x < 2 ^ 64) (hM : M < 2 ^ 64) : bits .and .u64 (x : Int) m = ((x &&& M : Nat) : Int) := by rw [hm]; exact bitsN x M hx hM
theorem wrapC (x : Nat) : IntKind.u64.wrap (x : Int) = ((x % 2 ^ 64 : Nat) : Int) := by rw [IntKind.wrap_u64]; omega
theorem oc_a (x a : Nat) (hx : x < 2 ^ 64) (ha : ((x / 2 &&& 6148914691236517205) + (x &&& 6148914691236517205)) % 2 ^ 64 = a) : IntKind.u64.wrap (bits .and .u64 ((x : Int) / 2) 6148914691236517205 + bits .and .u64 (x : Int) 6148914691236517205) = (a : Int) := by
  have e : (x : Int) / 2 = ((x / 2 : Nat) : Int) := by omega
  rw [e, andC (x / 2) 6148914691236517205 (by omega) (by omega) (by omega), andC x 6148914691236517205 (by omega) hx (by omega), ← Int.natCast_add, wrapC, ha]
theorem oc_b (a b : Nat) (la : a < 2 ^ 64) (hb : ((a / 4 &&& 3689348814741910323) + (a &&& 3689348814741910323)) % 2 ^ 64 = b) : IntKind.u64.wrap (bits .and .u64 ((a : Int) / 4) 3689348814741910323 + bits .and .u64 (a : Int) 3689348814741910323) = (b : Int) := by
  have e : (a : Int) / 4 = ((a / 4 : Nat) : Int) := by omega
  rw [e, andC (a / 4) 3689348814741910323 (by omega) (by omega) (by omega), andC a 3689348814741910323 (by omega) la (by omega), ← Int.natCast_add, wrapC, hb]
theorem oc_c (b c : Nat) (hc : ((b / 16 + b) % 2 ^ 64) &&& 1085102592571150095 = c) : bits .and .u64 (IntKind.u64.wrap ((b : Int) / 16 + (b : Int))) 1085102592571150095 = (c : Int) := by
  have e1 : (b : Int) / 16 + (b : Int) = ((b / 16 + b : Nat) : Int) := by omega
  rw [e1, wrapC, andC _ 1085102592571150095 (by omega) (Nat.mod_lt _ (by omega)) (by omega), hc]
theorem oc_d (c d : Nat) (hd : (c + c / 256) % 2 ^ 64 = d) : IntKind.u64.wrap ((c : Int) + (c : Int) / 256) = (d : Int) := by
  have e1 : (c : Int) + (c : Int) / 256 = ((c + c / 256 : Nat) : Int) := by omega
  rw [e1, wrapC, hd]
theorem oc_e (c d : Nat) (hd : (c + c / 65536) % 2 ^ 64 = d) : IntKind.u64.wrap ((c : Int) + (c : Int) / 65536) = (d : Int) := by
  have e1 : (c : Int) + (c : Int) / 65536 = ((c + c / 65536 : Nat) : Int) := by omega
  rw [e1, wrapC, hd]
theorem oc_f (c d : Nat) (hd : (c + c / 4294967296) % 2 ^ 64 = d) : IntKind.u64.wrap ((c : Int) + (c : Int) / 4294967296) = (d : Int) := by
  have e1 : (c : Int) + (c : Int) / 4294967296 = ((c + c / 4294967296 : Nat) : Int) := by omega
  rw [e1, wrapC, hd]
theorem oc_steps (x : Nat) (hx : x < 2 ^ 64) : ∃ a b c d e f : Nat, oc x = f % 128 ∧ IntKind.u64.wrap (bits .and .u64 ((x : Int) / 2) 6148914691236517205 + bits .and .u64 (x : Int) 6148914691236517205) = (a : Int) ∧
    IntKind.u64.wrap (bits .and .u64 ((a : Int) / 4) 3689348814741910323 + bits .and .u64 (a : Int) 3689348814741910323) = (b : Int) ∧ bits .and .u64 (IntKind.u64.wrap ((b : Int) / 16 + (b : Int))) 1085102592571150095 = (c : Int) ∧
    IntKind.u64.wrap ((c : Int) + (c : Int) / 256) = (d : Int) ∧ IntKind.u64.wrap ((d : Int) + (d : Int) / 65536) = (e : Int) ∧ IntKind.u64.wrap ((e : Int) + (e : Int) / 4294967296) = (f : Int) := by
  obtain ⟨a, ha⟩ : ∃ a, ((x / 2 &&& 6148914691236517205) + (x &&& 6148914691236517205)) % 2 ^ 64 = a := ⟨_, rfl⟩
  obtain ⟨b, hb⟩ : ∃ b, ((a / 4 &&& 3689348814741910323) + (a &&& 3689348814741910323)) % 2 ^ 64 = b := ⟨_, rfl⟩
  obtain ⟨c, hc⟩ : ∃ c, ((b / 16 + b) % 2 ^ 64) &&& 1085102592571150095 = c := ⟨_, rfl⟩
  obtain ⟨d, hd⟩ : ∃ d, (c + c / 256) % 2 ^ 64 = d := ⟨_, rfl⟩
  obtain ⟨e, he⟩ : ∃ e, (d + d / 65536) % 2 ^ 64 = e := ⟨_, rfl⟩
  obtain ⟨f, hf⟩ : ∃ f, (e + e / 4294967296) % 2 ^ 64 = f := ⟨_, rfl⟩
  have la : a < 2 ^ 64 := by rw [← ha]; exact Nat.mod_lt _ (by omega)
  refine ⟨a, b, c, d, e, f, ?_, oc_a x a hx ha, oc_b a b la hb, oc_c b c hc, oc_d c d hd, oc_e d e he, oc_f e f hf⟩
  unfold oc
  simp only [ha, hb, hc, hd, he, hf]
end Go.Proofs.Ythmlkealefboaaa
