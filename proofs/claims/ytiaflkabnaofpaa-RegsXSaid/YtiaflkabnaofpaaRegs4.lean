/- Contracts of package regs: place, Get. -/
import Derived.Test.YtiaflkabnaofpaaRegs3
namespace Go.Proofs.Ytiaflkabnaofpaa
open Go.RowKit
set_option linter.unusedVariables false
attribute [local go_sem] fold0 cv_31 cv_32 cv_33 cv_34 cv_35 cv_36 cv_37 cv_38 cv_39 cv_40 cv_41 cv_42 cv_43 cv_44 cv_45 cv_46 cv_47 cv_48

set_option maxHeartbeats 1000000 in
theorem place_vbar (b : Nat) (w : World) : Calls Try.prog 32 #[.pointer (some ⟨b, 0, none⟩), .int .i64 17920] w fun e w' => e = .returned (.pointer (some ⟨b, 44, none⟩)) ∧ w = w' := by
  go_enter Try.func32, Try.ntmps32
  go_wp2
  go_ret
  exact ⟨rfl, rfl⟩

set_option maxHeartbeats 1000000 in
theorem place_elr (b : Nat) (w : World) : Calls Try.prog 32 #[.pointer (some ⟨b, 0, none⟩), .int .i64 16897] w fun e w' => e = .returned (.pointer (some ⟨b, 41, none⟩)) ∧ w = w' := by
  go_enter Try.func32, Try.ntmps32
  go_wp2
  go_ret
  exact ⟨rfl, rfl⟩

set_option maxHeartbeats 1000000 in
theorem place_spsr (b : Nat) (w : World) : Calls Try.prog 32 #[.pointer (some ⟨b, 0, none⟩), .int .i64 16896] w fun e w' => e = .returned (.pointer (some ⟨b, 40, none⟩)) ∧ w = w' := by
  go_enter Try.func32, Try.ntmps32
  go_wp2
  go_ret
  exact ⟨rfl, rfl⟩

set_option maxHeartbeats 1000000 in
theorem place_esr (b : Nat) (w : World) : Calls Try.prog 32 #[.pointer (some ⟨b, 0, none⟩), .int .i64 17040] w fun e w' => e = .returned (.pointer (some ⟨b, 42, none⟩)) ∧ w = w' := by
  go_enter Try.func32, Try.ntmps32
  go_wp2
  go_ret
  exact ⟨rfl, rfl⟩

set_option maxHeartbeats 1000000 in
theorem place_far (b : Nat) (w : World) : Calls Try.prog 32 #[.pointer (some ⟨b, 0, none⟩), .int .i64 17152] w fun e w' => e = .returned (.pointer (some ⟨b, 43, none⟩)) ∧ w = w' := by
  go_enter Try.func32, Try.ntmps32
  go_wp2
  go_ret
  exact ⟨rfl, rfl⟩

set_option maxHeartbeats 1000000 in
theorem place_sp0 (b : Nat) (w : World) : Calls Try.prog 32 #[.pointer (some ⟨b, 0, none⟩), .int .i64 16904] w fun e w' => e = .returned (.pointer (some ⟨b, 31, none⟩)) ∧ w = w' := by
  go_enter Try.func32, Try.ntmps32
  go_wp2
  go_ret
  exact ⟨rfl, rfl⟩

set_option maxHeartbeats 1000000 in
theorem place_tpidr (b : Nat) (w : World) : Calls Try.prog 32 #[.pointer (some ⟨b, 0, none⟩), .int .i64 24194] w fun e w' => e = .returned (.pointer (some ⟨b, 45, none⟩)) ∧ w = w' := by
  go_enter Try.func32, Try.ntmps32
  go_wp2
  go_ret
  exact ⟨rfl, rfl⟩

def noPlace (sys : Int) : Prop := ¬ sys = 17920 ∧ ¬ sys = 16897 ∧ ¬ sys = 16896 ∧ ¬ sys = 17040 ∧ ¬ sys = 17152 ∧ ¬ sys = 16904 ∧ ¬ sys = 24194
set_option maxHeartbeats 1000000 in
theorem place_no (b : Nat) (sys : Int) (w : World) (h : noPlace sys) : Calls Try.prog 32 #[.pointer (some ⟨b, 0, none⟩), .int .i64 sys] w fun e w' => e = .returned (.pointer none) ∧ w = w' := by
  obtain ⟨h1, h2, h3, h4, h5, h6, h7⟩ := h
  go_enter Try.func32, Try.ntmps32
  go_wp2
  go_ret
  exact ⟨rfl, rfl⟩
def GetPost (w : World) (v : Int) (ok : Bool) (e : Ending) (w' : World) : Prop := e = .returned (.tuple #[.int .u64 v, .bool ok]) ∧ Fr Nil w w'

set_option maxHeartbeats 1000000 in
theorem get_vbar (c : Cr) (w : World) : Calls Try.prog 25 #[.agg (cv c), .int .i64 17920] w (GetPost w c.Vbar true) := by
  go_enter Try.func25, Try.ntmps25
  go_wp2_with (go_at_call 32; refine (place_vbar _ _).mono ?_; rintro e w2 ⟨rfl, rfl⟩)
  go_ret2
  exact ⟨rfl, (Fr.refl _ _).alloc _⟩

set_option maxHeartbeats 1000000 in
theorem get_elr (c : Cr) (w : World) : Calls Try.prog 25 #[.agg (cv c), .int .i64 16897] w (GetPost w c.Elr true) := by
  go_enter Try.func25, Try.ntmps25
  go_wp2_with (go_at_call 32; refine (place_elr _ _).mono ?_; rintro e w2 ⟨rfl, rfl⟩)
  go_ret2
  exact ⟨rfl, (Fr.refl _ _).alloc _⟩

set_option maxHeartbeats 1000000 in
theorem get_spsr (c : Cr) (w : World) : Calls Try.prog 25 #[.agg (cv c), .int .i64 16896] w (GetPost w c.Spsr true) := by
  go_enter Try.func25, Try.ntmps25
  go_wp2_with (go_at_call 32; refine (place_spsr _ _).mono ?_; rintro e w2 ⟨rfl, rfl⟩)
  go_ret2
  exact ⟨rfl, (Fr.refl _ _).alloc _⟩

set_option maxHeartbeats 1000000 in
theorem get_esr (c : Cr) (w : World) : Calls Try.prog 25 #[.agg (cv c), .int .i64 17040] w (GetPost w c.Esr true) := by
  go_enter Try.func25, Try.ntmps25
  go_wp2_with (go_at_call 32; refine (place_esr _ _).mono ?_; rintro e w2 ⟨rfl, rfl⟩)
  go_ret2
  exact ⟨rfl, (Fr.refl _ _).alloc _⟩

set_option maxHeartbeats 1000000 in
theorem get_far (c : Cr) (w : World) : Calls Try.prog 25 #[.agg (cv c), .int .i64 17152] w (GetPost w c.Far true) := by
  go_enter Try.func25, Try.ntmps25
  go_wp2_with (go_at_call 32; refine (place_far _ _).mono ?_; rintro e w2 ⟨rfl, rfl⟩)
  go_ret2
  exact ⟨rfl, (Fr.refl _ _).alloc _⟩

set_option maxHeartbeats 1000000 in
theorem get_sp0 (c : Cr) (w : World) : Calls Try.prog 25 #[.agg (cv c), .int .i64 16904] w (GetPost w c.S0 true) := by
  go_enter Try.func25, Try.ntmps25
  go_wp2_with (go_at_call 32; refine (place_sp0 _ _).mono ?_; rintro e w2 ⟨rfl, rfl⟩)
  go_ret2
  exact ⟨rfl, (Fr.refl _ _).alloc _⟩

set_option maxHeartbeats 1000000 in
theorem get_tpidr (c : Cr) (w : World) : Calls Try.prog 25 #[.agg (cv c), .int .i64 24194] w (GetPost w c.Tpidr true) := by
  go_enter Try.func25, Try.ntmps25
  go_wp2_with (go_at_call 32; refine (place_tpidr _ _).mono ?_; rintro e w2 ⟨rfl, rfl⟩)
  go_ret2
  exact ⟨rfl, (Fr.refl _ _).alloc _⟩

set_option maxHeartbeats 1000000 in
theorem get_mpidr (c : Cr) (w : World) (h0 : 0 ≤ c.Id) (h1 : c.Id ≤ 9223372036854775807) : Calls Try.prog 25 #[.agg (cv c), .int .i64 16389] w (GetPost w (2147483648 + c.Id) true) := by
  have hp : noPlace 16389 := by unfold noPlace; decide
  go_enter Try.func25, Try.ntmps25
  go_wp2_with (go_at_call 32; refine (place_no _ _ _ hp).mono ?_; rintro e w2 ⟨rfl, rfl⟩)
  go_ret2
  exact ⟨rfl, (Fr.refl _ _).alloc _⟩
def noGet (sys : Int) : Prop := ¬ sys = 23056 ∧ ¬ sys = 23057 ∧ ¬ sys = 16389 ∧ ¬ sys = 16914
set_option maxHeartbeats 1000000 in
theorem get_no (c : Cr) (sys : Int) (w : World) (hp : noPlace sys) (h : noGet sys) : Calls Try.prog 25 #[.agg (cv c), .int .i64 sys] w (GetPost w 0 false) := by
  obtain ⟨h1, h2, h3, h4⟩ := h
  go_enter Try.func25, Try.ntmps25
  go_wp2_with (go_at_call 32; refine (place_no _ _ _ hp).mono ?_; rintro e w2 ⟨rfl, rfl⟩)
  go_ret2
  exact ⟨rfl, (Fr.refl _ _).alloc _⟩
end Go.Proofs.Ytiaflkabnaofpaa
