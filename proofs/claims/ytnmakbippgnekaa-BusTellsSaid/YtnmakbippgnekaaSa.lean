/- A number as an address, as a system register; what stays of the bus behind each call. -/
import Derived.Test.YtnmakbippgnekaaKn
import Derived.Test.YtnmakbippgnekaaRws
set_option linter.unusedSimpArgs false
set_option linter.unusedVariables false
set_option linter.unusedSectionVars false
namespace Go.Proofs.Ytnmakbippgnekaa
open Go.RowKit
set_option maxRecDepth 100000

def SysTo (w : World) (e : Ending) (w' : World) : Prop := ∃ s : Int, e = .returned (.int .i64 s) ∧ Fr Nil w w'
set_option maxHeartbeats 2000000 in
theorem sysno_ok (x : Int) (w : World) (x0 : -9223372036854775808 ≤ x) (x1 : x ≤ 9223372036854775807) : Calls Try.prog 12 #[.int .i64 x] w (SysTo w) := by
  have PI := fun W => pick_ok x 9 W x0 x1 (by omega) (by omega)
  obtain ⟨k0, k1⟩ := pk_rng x 9 (by omega)
  obtain ⟨k, hk⟩ : ∃ k, pk x 9 = k := ⟨_, rfl⟩
  rw [hk] at PI k0 k1
  have PI := Lib.hid PI
  clear hk x0 x1
  have hq : k = 0 ∨ k = 1 ∨ k = 2 ∨ k = 3 ∨ k = 4 ∨ k = 5 ∨ k = 6 ∨ k = 7 ∨ k = 8 := by omega
  clear k0 k1
  rcases hq with rfl | rfl | rfl | rfl | rfl | rfl | rfl | rfl | rfl
  all_goals
    go_enter Try.func12, Try.ntmps12
    go_wp2_with fail
    refine (PI.out _).mono ?_
    rintro e w2 ⟨rfl, rfl⟩
    go_wp2_with fail
    go_ret
    exact ⟨_, rfl, (Fr.refl Nil w).alloc _⟩
def AdTo (w : World) (e : Ending) (w' : World) : Prop := ∃ a : Int, e = .returned (.int .u64 a) ∧ (0 ≤ a ∧ a ≤ 18446744073709551615) ∧ w = w'
set_option maxHeartbeats 2000000 in
theorem addr_ok (x : Int) (w : World) (x0 : -9223372036854775808 ≤ x) (x1 : x ≤ 9223372036854775807) : Calls Try.prog 14 #[.int .i64 x] w (AdTo w) := by
  have PI := fun W => pick_ok x 200 W x0 x1 (by omega) (by omega)
  obtain ⟨k0, k1⟩ := pk_rng x 200 (by omega)
  obtain ⟨k, hk⟩ : ∃ k, pk x 200 = k := ⟨_, rfl⟩
  rw [hk] at PI k0 k1
  have PI := Lib.hid PI
  clear hk
  have WR := wrap_rng x
  by_cases h1 : k < 8
  · go_enter Try.func14, Try.ntmps14
    go_wp2_with fail
    refine (PI.out _).mono ?_
    rintro e w2 ⟨rfl, rfl⟩
    go_wp2_with fail
    go_ret
    exact ⟨_, rfl, by omega, rfl⟩
  by_cases h2 : k < 80
  · have h1' : 8 ≤ k := by omega
    clear h1
    go_enter Try.func14, Try.ntmps14
    go_wp2_with fail
    refine (PI.out _).mono ?_
    rintro e w2 ⟨rfl, rfl⟩
    go_wp2_with fail
    go_ret
    exact ⟨_, rfl, by omega, rfl⟩
  by_cases h3 : k < 120
  · have h1' : 80 ≤ k := by omega
    clear h1 h2
    go_enter Try.func14, Try.ntmps14
    go_wp2_with fail
    refine (PI.out _).mono ?_
    rintro e w2 ⟨rfl, rfl⟩
    go_wp2_with fail
    go_ret
    exact ⟨_, rfl, by omega, rfl⟩
  by_cases h4 : k < 130
  · have h1' : 120 ≤ k := by omega
    clear h1 h2 h3
    go_enter Try.func14, Try.ntmps14
    go_wp2_with fail
    refine (PI.out _).mono ?_
    rintro e w2 ⟨rfl, rfl⟩
    go_wp2_with fail
    go_ret
    exact ⟨_, rfl, by omega, rfl⟩
  by_cases h5 : k < 140
  · have h1' : 130 ≤ k := by omega
    clear h1 h2 h3 h4
    go_enter Try.func14, Try.ntmps14
    go_wp2_with fail
    refine (PI.out _).mono ?_
    rintro e w2 ⟨rfl, rfl⟩
    go_wp2_with fail
    go_ret
    exact ⟨_, rfl, by omega, rfl⟩
  · have h1' : 140 ≤ k := by omega
    have W := Lib.hid WR
    clear h1 h2 h3 h4 h5 WR
    go_enter Try.func14, Try.ntmps14
    go_wp2_with fail
    refine (PI.out _).mono ?_
    rintro e w2 ⟨rfl, rfl⟩
    go_wp2_with fail
    go_ret
    exact ⟨_, rfl, W.out, rfl⟩
theorem wrS_n (t : Tim.Ts) (c sy v : Int) : (Tim.wrS t c sy v).n = t.n := by
  unfold Tim.wrS
  split
  · split
    · rfl
    · split <;> rfl
  · rfl
theorem setS_o (B : BS) (c el sy v : Int) : (setS B c el sy v).o = B.o ∧ (setS B c el sy v).t.n = B.t.n := by
  unfold setS
  split
  · split
    · exact ⟨rfl, wrS_n _ _ _ _⟩
    · split
      · exact ⟨rfl, rfl⟩
      · split
        · exact ⟨rfl, rfl⟩
        · split
          · exact ⟨rfl, rfl⟩
          · exact ⟨rfl, rfl⟩
  · exact ⟨rfl, rfl⟩
end Go.Proofs.Ytnmakbippgnekaa
