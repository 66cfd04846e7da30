/- What a mask is made of: the plain law. -/
import Derived.Test.YthmlkealefboaaaRep
namespace Go.Proofs.Ythmlkealefboaaa
open Go.RowKit
set_option linter.unusedVariables false

/-- Turned to the left. -/
def rotN (m d : Nat) : Nat := (m * 2 ^ d % 2 ^ 64) ||| (m / 2 ^ (64 - d))
/-- How many ones: the way it is counted. -/
def oc (x : Nat) : Nat :=
  let a := ((x / 2 &&& 6148914691236517205) + (x &&& 6148914691236517205)) % 2 ^ 64
  let b := ((a / 4 &&& 3689348814741910323) + (a &&& 3689348814741910323)) % 2 ^ 64
  let c := ((b / 16 + b) % 2 ^ 64) &&& 1085102592571150095
  let d := (c + c / 256) % 2 ^ 64
  let e := (d + d / 65536) % 2 ^ 64
  let f := (e + e / 4294967296) % 2 ^ 64
  f % 128
/-- The least size. -/
def hs (m : Nat) : Nat := if rotN m 32 ≠ m then 64 else if rotN m 16 ≠ m then 32 else if rotN m 8 ≠ m then 16 else if rotN m 4 ≠ m then 8 else if rotN m 2 ≠ m then 4 else 2
/-- It repeats. -/
def Per (w m : Nat) : Prop := m = rep (m % 2 ^ w) w 64
theorem per_64 (m : Nat) (h : m < 2 ^ 64) : Per 64 m := by
  unfold Per
  rw [Nat.mod_eq_of_lt h, rep_self m 64 h]
theorem rot_low (m d : Nat) (hm : m < 2 ^ 64) (hd : d ≤ 64) (h : rotN m d = m) : m / 2 ^ (64 - d) = m % 2 ^ d := by
  have e : rotN m d % 2 ^ d = m / 2 ^ (64 - d) := by
    unfold rotN
    have h1 : m * 2 ^ d % 2 ^ 64 % 2 ^ d = 0 := by
      rw [Nat.mod_mod_of_dvd _ (Nat.pow_dvd_pow 2 hd), Nat.mul_mod_left]
    have h2 : m / 2 ^ (64 - d) < 2 ^ d := by
      rw [Nat.div_lt_iff_lt_mul (Nat.two_pow_pos _), ← Nat.pow_add]
      rwa [show d + (64 - d) = 64 by omega]
    rw [Nat.or_mod_two_pow, h1, Nat.mod_eq_of_lt h2, Nat.zero_or]
  rw [← e, h]
theorem rep_rep (C d : Nat) (hC : C < 2 ^ d) (hd : 0 < d) (n : Nat) : rep (rep C d (d + d)) (d + d) n = rep C d n := by
  refine ofB_congr n fun i _ => ?_
  have h1 : i % (d + d) < d + d := Nat.mod_lt _ (by omega)
  show rep C d (d + d) / 2 ^ (i % (d + d)) % 2 = _
  unfold rep
  rw [ofB_bit _ _ _ h1]
  show C / 2 ^ (i % (d + d) % d) % 2 = _
  rw [Nat.mod_mod_of_dvd i ⟨2, by omega⟩]
theorem rep_top (A w j : Nat) (hA : A < 2 ^ w) (h : w ∣ j) : rep A w (j + w) / 2 ^ j = A := by
  unfold rep
  rw [ofB_add, Nat.add_mul_div_left _ _ (Nat.two_pow_pos j), Nat.div_eq_of_lt (ofB_lt _ j), Nat.zero_add]
  have : ofB (fun i => A / 2 ^ ((j + i) % w)) w = rep A w w := by
    refine ofB_congr w fun i _ => ?_
    show A / 2 ^ ((j + i) % w) % 2 = _
    obtain ⟨c, rfl⟩ := h
    rw [Nat.mul_add_mod]
  rw [this, rep_self A w hA]
theorem per_half (m d : Nat) (hm : m < 2 ^ 64) (hd : 0 < d) (hd2 : d + d ≤ 64) (hdv : (d + d) ∣ (64 - (d + d))) (h : Per (d + d) m) (hr : rotN m d = m) : Per d m := by
  have hlow := rot_low m d hm (by omega) hr
  unfold Per at h
  obtain ⟨A, hAe⟩ : ∃ A, m % 2 ^ (d + d) = A := ⟨_, rfl⟩
  have hA : A < 2 ^ (d + d) := by rw [← hAe]; exact Nat.mod_lt _ (Nat.two_pow_pos _)
  rw [hAe] at h
  have ht : m / 2 ^ (64 - (d + d)) = A := by
    rw [h]
    have := rep_top A (d + d) (64 - (d + d)) hA hdv
    rwa [show 64 - (d + d) + (d + d) = 64 by omega] at this
  have ht2 : m / 2 ^ (64 - d) = A / 2 ^ d := by
    rw [← ht, Nat.div_div_eq_div_mul, ← Nat.pow_add]
    congr 2
    omega
  have hb : m % 2 ^ d = A % 2 ^ d := by rw [← hAe, Nat.mod_mod_of_dvd _ (Nat.pow_dvd_pow 2 (by omega))]
  have hC : m % 2 ^ d < 2 ^ d := Nat.mod_lt _ (Nat.two_pow_pos _)
  have hAC : A = rep (m % 2 ^ d) d (d + d) := by
    rw [rep_double _ d d (Nat.dvd_refl d), rep_self _ d hC]
    have e1 : A / 2 ^ d = m % 2 ^ d := by rw [← ht2, hlow]
    have e2 := Nat.div_add_mod A (2 ^ d)
    rw [e1, ← hb] at e2
    omega
  unfold Per
  rw [← rep_rep (m % 2 ^ d) d hC hd 64, ← hAC]
  exact h
theorem hs_per (m : Nat) (hm : m < 2 ^ 64) : Per (hs m) m := by
  have h64 := per_64 m hm
  unfold hs
  by_cases h32 : rotN m 32 = m
  · have p32 := per_half m 32 hm (by omega) (by omega) (by decide) h64 h32
    rw [if_neg (by simpa using h32)]
    by_cases h16 : rotN m 16 = m
    · have p16 := per_half m 16 hm (by omega) (by omega) (by decide) p32 h16
      rw [if_neg (by simpa using h16)]
      by_cases h8 : rotN m 8 = m
      · have p8 := per_half m 8 hm (by omega) (by omega) (by decide) p16 h8
        rw [if_neg (by simpa using h8)]
        by_cases h4 : rotN m 4 = m
        · have p4 := per_half m 4 hm (by omega) (by omega) (by decide) p8 h4
          rw [if_neg (by simpa using h4)]
          by_cases h2 : rotN m 2 = m
          · have p2 := per_half m 2 hm (by omega) (by omega) (by decide) p4 h2
            rw [if_neg (by simpa using h2)]
            exact p2
          · rw [if_pos h2]; exact p4
        · rw [if_pos h4]; exact p8
      · rw [if_pos h8]; exact p16
    · rw [if_pos h16]; exact p32
  · rw [if_pos h32]; exact h64
/-! ### The table of all masks -/
def fastRep (R size : Nat) : Nat :=
  if size = 64 then R else if size = 32 then R * (1 + 2 ^ 32) else if size = 16 then R * (1 + 2 ^ 16) * (1 + 2 ^ 32) else if size = 8 then R * (1 + 2 ^ 8) * (1 + 2 ^ 16) * (1 + 2 ^ 32)
  else if size = 4 then R * (1 + 2 ^ 4) * (1 + 2 ^ 8) * (1 + 2 ^ 16) * (1 + 2 ^ 32) else R * (1 + 2 ^ 2) * (1 + 2 ^ 4) * (1 + 2 ^ 8) * (1 + 2 ^ 16) * (1 + 2 ^ 32)
theorem rep_dbl (R size w : Nat) (h : size ∣ w) : rep R size (w + w) = rep R size w * (1 + 2 ^ w) := by
  rw [rep_double R size w h, Nat.mul_add, Nat.mul_one, Nat.mul_comm (2 ^ w)]
def Size (z : Nat) : Prop := z = 2 ∨ z = 4 ∨ z = 8 ∨ z = 16 ∨ z = 32 ∨ z = 64
theorem fast_rep (R z : Nat) (hz : Size z) (hR : R < 2 ^ z) : rep R z 64 = fastRep R z := by
  have s := rep_self R z hR
  rcases hz with rfl | rfl | rfl | rfl | rfl | rfl
  · show _ = R * (1 + 2 ^ 2) * (1 + 2 ^ 4) * (1 + 2 ^ 8) * (1 + 2 ^ 16) * (1 + 2 ^ 32)
    have a := rep_dbl R 2 2 (by decide); have b := rep_dbl R 2 4 (by decide); have c := rep_dbl R 2 8 (by decide); have d := rep_dbl R 2 16 (by decide); have e := rep_dbl R 2 32 (by decide)
    rw [s] at a; simp only [Nat.reduceAdd] at a b c d e
    rw [a] at b; rw [b] at c; rw [c] at d; rw [d] at e
    exact e
  · show _ = R * (1 + 2 ^ 4) * (1 + 2 ^ 8) * (1 + 2 ^ 16) * (1 + 2 ^ 32)
    have b := rep_dbl R 4 4 (by decide); have c := rep_dbl R 4 8 (by decide); have d := rep_dbl R 4 16 (by decide); have e := rep_dbl R 4 32 (by decide)
    rw [s] at b; simp only [Nat.reduceAdd] at b c d e
    rw [b] at c; rw [c] at d; rw [d] at e
    exact e
  · show _ = R * (1 + 2 ^ 8) * (1 + 2 ^ 16) * (1 + 2 ^ 32)
    have c := rep_dbl R 8 8 (by decide); have d := rep_dbl R 8 16 (by decide); have e := rep_dbl R 8 32 (by decide)
    rw [s] at c; simp only [Nat.reduceAdd] at c d e
    rw [c] at d; rw [d] at e
    exact e
  · show _ = R * (1 + 2 ^ 16) * (1 + 2 ^ 32)
    have d := rep_dbl R 16 16 (by decide); have e := rep_dbl R 16 32 (by decide)
    rw [s] at d; simp only [Nat.reduceAdd] at d e
    rw [d] at e
    exact e
  · show _ = R * (1 + 2 ^ 32)
    have e := rep_dbl R 32 32 (by decide)
    rw [s] at e; simp only [Nat.reduceAdd] at e
    exact e
  · exact s
end Go.Proofs.Ythmlkealefboaaa
