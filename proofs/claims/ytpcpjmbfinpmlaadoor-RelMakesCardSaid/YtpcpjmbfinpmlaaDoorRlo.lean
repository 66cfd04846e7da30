/- The document's Loop. -/
import Derived.Test.YtpcpjmbfinpmlaaDoorSgl
set_option linter.unusedSimpArgs false
set_option linter.unusedVariables false
set_option linter.unusedSectionVars false
namespace Go.Proofs.YtpcpjmbfinpmlaaDoor
open Go.RowKit
set_option maxRecDepth 100000

set_option maxHeartbeats 600000 in
theorem rloop_of (b n : Nat) (r s : Rn) (w : World) (h : RefAt w b n r) (CL : Hid (Calls Tryd.prog 17 #[.pointer (some ⟨b, 0, none⟩)] w (RefTo w n s))) : Calls Tryd.prog 19 #[.pointer (some ⟨b, 0, none⟩)] w (LoopTo w n s) := by
  have HB := Lib.hid h
  have N64 := Lib.hid h.n64
  have n64 : (n : Int) ≤ 64 := by have := h.n64; omega
  clear h
  go_enter Tryd.func19, Tryd.ntmps19
  go_wp2_with fail
  refine CL.out.mono ?_
  rintro e w2 ⟨g, rfl, h2, f2, -⟩
  have HR := Lib.hid h2
  have HF := Lib.hid f2
  have c0 := (HB.out.fr0 f2).n_c
  clear h2 f2 CL HB
  go_wp2_with fail
  go_loop [5] (fun i => ∃ a : Nat, a ≤ n ∧ i = .int .i64 (a : Int) ∧ ∀ j, j < a → s j j = false) (fun i => n - (intOf i).toNat)
  case atStart => exact ⟨0, Nat.zero_le _, rfl, fun j hj => absurd hj (by omega)⟩
  case round =>
    obtain ⟨a, ha, rfl, hj⟩ := hrel
    have HJ := Lib.hid hj
    clear hj
    by_cases hlt : a < n
    · have HA := Lib.hid hlt
      have an : (a : Int) < (n : Int) := by omega
      have a64 : (a : Int) < 64 := by omega
      have c1 := HR.out.c_c (a := a) (c := a) (by have := N64.out; omega) (by have := N64.out; omega)
      clear ha hlt
      cases hq : s a a
      · rw [hq] at c1
        have HQ := Lib.hid hq
        clear hq
        go_wp2_with fail
        go_round
        case rel => exact ⟨a + 1, HA.out, by go_num, fun j hj => by
          by_cases e : j = a
          · subst e; exact HQ.out
          · exact HJ.out j (by omega)⟩
        case measure => have := HA.out; simp [intOf]; omega
      · rw [hq] at c1
        have HQ := Lib.hid hq
        clear hq
        go_wp2_with fail
        go_ret2
        exact ⟨.inl ⟨a, HA.out, HQ.out, HJ.out, rfl⟩, HF.out⟩
    · obtain rfl : a = n := by omega
      have l1 : decide (a < a) = false := by simp
      clear ha hlt
      go_wp2_with fail
      go_ret2
      exact ⟨.inr ⟨HJ.out, rfl⟩, HF.out⟩
end Go.Proofs.YtpcpjmbfinpmlaaDoor
