/- The walk of MonitorPlays, for any number of cores. -/
import Derived.Test.YtffjembeimpdmaaLPlays
namespace Go.Proofs.Ytffjembeimpdmaa
open Go.RowKit
set_option linter.unusedVariables false

theorem monitorPlays_walk (a0 : Int) (a1 : Option Addr) (len1 cap1 : Nat) (Z1 : Nat → Nat → Int) (w : World) (w0 : (Lit.int .i64 a0).wf = true)
    (l1 : len1 ≤ cap1) (m1 : cap1 ≤ maxLen) (s1 : SlRows [.i64, .i64, .u64] w a1 len1 Z1) :
    Calls Try.prog 4 #[.int .i64 a0, .slice a1 len1 cap1] w fun e w' => e = .returned (.bool true) ∧ Below w.heap.size w w' := by
  by_cases h : 1 ≤ a0 ∧ a0 ≤ 8
  · obtain ⟨n, rfl⟩ : ∃ n : Nat, a0 = (n : Int) := ⟨a0.toNat, by omega⟩
    exact monitorPlays_yes n a1 len1 cap1 Z1 w (by omega) (by omega) l1 m1 s1
  · exact monitorPlays_no a0 a1 len1 cap1 w (by omega)
end Go.Proofs.Ytffjembeimpdmaa
