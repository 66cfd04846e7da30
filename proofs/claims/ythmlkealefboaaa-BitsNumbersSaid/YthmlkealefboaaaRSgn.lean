/- Contract of the reference of chapter 01: Signed. -/
import Derived.Test.YthmlkealefboaaaRRor
import Derived.Test.YthmlkealefboaaaSgn
namespace Go.Proofs.Ythmlkealefboaaa
open Go.RowKit
set_option linter.unusedVariables false

set_option maxHeartbeats 2000000 in
theorem rsigned_ok (x m u : Nat) (w : World) (x1 : x < 2 ^ 64) (hm : 1 ≤ m) (hu : m + u = 64) : Calls Try.prog 16 #[.int .u64 (x : Int), .int .i64 (m : Int)] w fun e w' => e = .returned (.tuple #[.int .u64 (sgN x u : Int), .int .i64 0]) ∧ Fr Nil w w' := by
  have m0 : (1 : Int) ≤ (m : Int) := by omega
  have m1 : (m : Int) ≤ 64 := by omega
  have x0 : (0 : Int) ≤ (x : Int) := by omega
  have x2 : (x : Int) ≤ 18446744073709551615 := by omega
  have hbits : ∀ k, k < 64 → x / 2 ^ (min k (m - 1)) % 2 = btN (sgN x u) k := fun k hk => (test_mod _ _ _ _ (sg_bit x m u k hm hu hk)).symm
  have hlow : lowN (sgN x u) 64 = sgN x u := Nat.mod_eq_of_lt (sg_lt x m u hm hu)
  have HB := Lib.hid hbits
  have HL := Lib.hid hlow
  clear hbits hlow
  generalize sgN x u = R at *
  obtain ⟨j, hj⟩ : ∃ j, j = m - 1 := ⟨_, rfl⟩
  have ej : (m : Int) - 1 = (j : Int) := by omega
  rw [← hj] at HB
  have j0 : (0 : Int) ≤ (j : Int) := by omega
  have j1 : (j : Int) < 64 := by omega
  have jn : j < 64 := by omega
  clear hu hj hm
  go_enter Try.func16, Try.ntmps16
  go_wp2_with fail
  go_loopw [6, 7] (fun o i wr => ∃ k : Nat, k ≤ 64 ∧ i = .int .i64 (k : Int) ∧ o = .int .u64 (lowN R k : Int) ∧ Fr Nil w wr) (fun _ i _ => 100 - (intOf i).toNat)
  case atStart => exact ⟨0, by omega, rfl, by rw [low_zero]; rfl, Fr.refl _ _⟩
  case round =>
    obtain ⟨k, hk, rfl, rfl, F⟩ := hrel
    by_cases hc : k < 64
    · have hcl : (k : Int) < 64 := by omega
      have hdec : decide ((k : Int) < 64) = true := by simpa using hcl
      have k0 : (0 : Int) ≤ (k : Int) := by omega
      have hor := or_next R k (by omega)
      have Hor := Lib.hid hor
      clear hor
      by_cases hkj : k < j
      · have hkj2 : (k : Int) < (j : Int) := by omega
        have hb : (x : Int) / 2 ^ k % 2 = (btN R k : Int) := by
          have h := HB.out k hc
          rw [show min k j = k by omega] at h
          rw [bit_cast, h]
        have hn64 : k < 64 := by omega
        have Hb := Lib.hid hb
        clear hb
        go_wp2_with fail
        refine (bit_ok (x : Int) k _ hn64 x0 x2).mono ?_
        rintro e w2 ⟨rfl, rfl⟩
        rw [Hb.out]
        go_wp2_with fail
        exact ⟨⟨k + 1, by omega, by simp, by rw [← Hor.out], F⟩, by simp [intOf]; omega⟩
      by_cases hkk : k = j
      · subst hkk
        have hb : (x : Int) / 2 ^ k % 2 = (btN R k : Int) := by
          have h := HB.out k hc
          rw [show min k k = k by omega] at h
          rw [bit_cast, h]
        have hn64 : k < 64 := by omega
        have Hb := Lib.hid hb
        clear hb
        go_wp2_with fail
        refine (bit_ok (x : Int) k _ hn64 x0 x2).mono ?_
        rintro e w2 ⟨rfl, rfl⟩
        rw [Hb.out]
        go_wp2_with fail
        exact ⟨⟨k + 1, by omega, by simp, by rw [← Hor.out], F⟩, by simp [intOf]; omega⟩
      · have hkj2 : (j : Int) < (k : Int) := by omega
        have hb : (x : Int) / 2 ^ j % 2 = (btN R k : Int) := by
          have h := HB.out k hc
          rw [show min k j = j by omega] at h
          rw [bit_cast, h]
        have hn64 : j < 64 := by omega
        have Hb := Lib.hid hb
        clear hb
        go_wp2_with fail
        refine (bit_ok (x : Int) j _ hn64 x0 x2).mono ?_
        rintro e w2 ⟨rfl, rfl⟩
        rw [Hb.out]
        go_wp2_with fail
        exact ⟨⟨k + 1, by omega, by simp, by rw [← Hor.out], F⟩, by simp [intOf]; omega⟩
    · have he : k = 64 := by omega
      subst he
      go_wp2_with fail
      go_ret2
      exact ⟨by rw [HL.out]; rfl, F⟩
end Go.Proofs.Ythmlkealefboaaa
