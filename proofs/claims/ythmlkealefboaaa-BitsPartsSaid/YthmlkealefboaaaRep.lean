/- A pattern that is repeated up to 64 bits. -/
import Derived.Test.YthmlkealefboaaaRRor
namespace Go.Proofs.Ythmlkealefboaaa
open Go.RowKit
set_option linter.unusedVariables false

/-- Of bits, the first n. -/
def ofB (f : Nat → Nat) : Nat → Nat
  | 0 => 0
  | k + 1 => ofB f k + 2 ^ k * (f k % 2)
theorem ofB_lt (f : Nat → Nat) (n : Nat) : ofB f n < 2 ^ n := by
  induction n with
  | zero => show 0 < 2 ^ 0; decide
  | succ k ih =>
    show ofB f k + 2 ^ k * (f k % 2) < 2 ^ (k + 1)
    rw [Nat.pow_succ]
    rcases Nat.mod_two_eq_zero_or_one (f k) with e | e <;> rw [e] <;> omega
theorem ofB_congr {f g : Nat → Nat} (n : Nat) (h : ∀ i, i < n → f i % 2 = g i % 2) : ofB f n = ofB g n := by
  induction n with
  | zero => rfl
  | succ k ih =>
    show ofB f k + 2 ^ k * (f k % 2) = ofB g k + 2 ^ k * (g k % 2)
    rw [ih fun i hi => h i (by omega), h k (by omega)]
theorem ofB_add (f : Nat → Nat) (w k : Nat) : ofB f (w + k) = ofB f w + 2 ^ w * ofB (fun i => f (w + i)) k := by
  induction k with
  | zero => show ofB f w = ofB f w + 2 ^ w * 0; omega
  | succ k ih =>
    show ofB f (w + k) + 2 ^ (w + k) * (f (w + k) % 2) = ofB f w + 2 ^ w * (ofB (fun i => f (w + i)) k + 2 ^ k * (f (w + k) % 2))
    rw [ih, Nat.mul_add, ← Nat.mul_assoc, ← Nat.pow_add, Nat.add_assoc]
theorem ofB_self (x n : Nat) (h : x < 2 ^ n) : ofB (fun i => x / 2 ^ i) n = x := by
  have : ∀ m, ofB (fun i => x / 2 ^ i) m = x % 2 ^ m := by
    intro m
    induction m with
    | zero => show 0 = x % 2 ^ 0; simp [Nat.mod_one]
    | succ k ih =>
      show ofB (fun i => x / 2 ^ i) k + 2 ^ k * (x / 2 ^ k % 2) = _
      rw [ih, Nat.pow_succ, Nat.mod_mul]
  rw [this, Nat.mod_eq_of_lt h]
theorem ofB_bit (f : Nat → Nat) (n i : Nat) (h : i < n) : ofB f n / 2 ^ i % 2 = f i % 2 := by
  obtain ⟨k, rfl⟩ : ∃ k, n = i + (1 + k) := ⟨n - i - 1, by omega⟩
  rw [ofB_add, Nat.add_mul_div_left _ _ (Nat.two_pow_pos i), Nat.div_eq_of_lt (ofB_lt f i), Nat.zero_add, ofB_add]
  have e : ofB (fun j => f (i + j)) 1 = f i % 2 := by
    show 0 + 2 ^ 0 * (f (i + 0) % 2) = f i % 2
    rw [Nat.add_zero, Nat.pow_zero, Nat.one_mul, Nat.zero_add]
  rw [e, Nat.pow_one]
  omega
theorem ofB_mod (f : Nat → Nat) (n k : Nat) (h : k ≤ n) : ofB f n % 2 ^ k = ofB f k := by
  obtain ⟨j, rfl⟩ : ∃ j, n = k + j := ⟨n - k, by omega⟩
  rw [ofB_add, Nat.add_mul_mod_self_left, Nat.mod_eq_of_lt (ofB_lt f k)]
/-- A pattern of so many bits, again and again. -/
def rep (R size : Nat) : Nat → Nat := ofB (fun i => R / 2 ^ (i % size))
theorem rep_lt (R size n : Nat) : rep R size n < 2 ^ n := ofB_lt _ n
theorem rep_self (R size : Nat) (h : R < 2 ^ size) : rep R size size = R := by
  have : rep R size size = ofB (fun i => R / 2 ^ i) size := ofB_congr size fun i hi => by rw [Nat.mod_eq_of_lt hi]
  rw [this, ofB_self R size h]
theorem rep_double (R size w : Nat) (h : size ∣ w) : rep R size (w + w) = rep R size w + 2 ^ w * rep R size w := by
  unfold rep
  rw [ofB_add]
  congr 2
  refine ofB_congr w fun i _ => ?_
  show R / 2 ^ ((w + i) % size) % 2 = _
  obtain ⟨c, rfl⟩ := h
  rw [Nat.mul_add_mod]
theorem rep_next (R size k : Nat) : rep R size (k + 1) = rep R size k + 2 ^ k * (R / 2 ^ (k % size) % 2) := rfl
theorem rep_or (R size w : Nat) (h : size ∣ w) (hw : w + w ≤ 64) : bits .or .u64 (rep R size w : Int) (IntKind.u64.wrap ((rep R size w : Int) * 2 ^ w)) = (rep R size (w + w) : Int) := by
  have hl := rep_lt R size w
  have hp : 2 ^ w ≤ 2 ^ 32 := Nat.pow_le_pow_right (by omega) (by omega)
  have hm : 2 ^ w * rep R size w < 2 ^ w * 2 ^ w := Nat.mul_lt_mul_of_pos_left hl (Nat.two_pow_pos w)
  have hm2 : 2 ^ w * 2 ^ w ≤ 2 ^ 64 := by rw [← Nat.pow_add]; exact Nat.pow_le_pow_right (by omega) hw
  have e : IntKind.u64.wrap ((rep R size w : Int) * 2 ^ w) = ((2 ^ w * rep R size w : Nat) : Int) := by
    have : (rep R size w : Int) * 2 ^ w = ((2 ^ w * rep R size w : Nat) : Int) := by rw [powN, Int.natCast_mul, Int.mul_comm]
    rw [this, IntKind.wrap_u64]
    omega
  rw [e, orN _ _ (by omega) (by omega), Nat.or_comm, ← Nat.two_pow_add_eq_or_of_lt hl, rep_double R size w h, Nat.add_comm]
theorem rep_orbit (R size k : Nat) (hk : k < 64) : bits .or .u64 (rep R size k : Int) (IntKind.u64.wrap (((R / 2 ^ (k % size) % 2 : Nat) : Int) * 2 ^ k)) = (rep R size (k + 1) : Int) := by
  have hp := Nat.two_pow_pos k
  have hl := rep_lt R size k
  have hk63 : 2 ^ k ≤ 2 ^ 63 := Nat.pow_le_pow_right (by omega) (by omega)
  have hb : 2 ^ k * (R / 2 ^ (k % size) % 2) ≤ 2 ^ 63 := by
    rcases Nat.mod_two_eq_zero_or_one (R / 2 ^ (k % size)) with e | e <;> rw [e] <;> omega
  have e : IntKind.u64.wrap (((R / 2 ^ (k % size) % 2 : Nat) : Int) * 2 ^ k) = ((2 ^ k * (R / 2 ^ (k % size) % 2) : Nat) : Int) := by
    have : ((R / 2 ^ (k % size) % 2 : Nat) : Int) * 2 ^ k = ((2 ^ k * (R / 2 ^ (k % size) % 2) : Nat) : Int) := by rw [powN, Int.natCast_mul, Int.mul_comm]
    rw [this, IntKind.wrap_u64]
    omega
  rw [e, orN _ _ (by omega) (by omega), Nat.or_comm, ← Nat.two_pow_add_eq_or_of_lt hl, rep_next, Nat.add_comm]
/-- How many bits the pattern has. -/
def szN (n imms : Nat) : Nat := if n = 1 then 64 else if imms < 32 then 32 else if imms < 48 then 16 else if imms < 56 then 8 else if imms < 60 then 4 else if imms < 62 then 2 else 0
/-- The mask. -/
def mkN (size s r : Nat) : Nat := rep (rorN (2 ^ (s + 1) - 1) r size) size 64
/-- What Mask answers, of numbers that may be. -/
def mskV (n immr imms : Nat) : Int × Int :=
  if szN n imms = 0 then (0, 2) else if imms % szN n imms = szN n imms - 1 then (0, 2) else ((mkN (szN n imms) (imms % szN n imms) (immr % szN n imms) : Int), 0)
end Go.Proofs.Ythmlkealefboaaa
