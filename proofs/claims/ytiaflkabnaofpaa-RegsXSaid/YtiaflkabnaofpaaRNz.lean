/- Contracts of the reference's Nzcv and SetNzcv. -/
import Derived.Test.YtiaflkabnaofpaaFlags
namespace Go.Proofs.Ytiaflkabnaofpaa
open Go.RowKit
set_option linter.unusedVariables false
attribute [local go_sem] fold0

theorem one_31 (b : Bool) (w : World) : Calls Try.prog 30 #[.bool b, .int .i64 31] w fun e w' => e = .returned (.int .u64 (if b = true then 2147483648 else 0)) ∧ w' = w := by
  cases b
  · go_enter Try.func30, Try.ntmps30
    go_wp2
    go_ret
    exact ⟨rfl, rfl⟩
  · go_enter Try.func30, Try.ntmps30
    go_wp2
    go_ret
    exact ⟨rfl, rfl⟩
theorem one_30 (b : Bool) (w : World) : Calls Try.prog 30 #[.bool b, .int .i64 30] w fun e w' => e = .returned (.int .u64 (if b = true then 1073741824 else 0)) ∧ w' = w := by
  cases b
  · go_enter Try.func30, Try.ntmps30
    go_wp2
    go_ret
    exact ⟨rfl, rfl⟩
  · go_enter Try.func30, Try.ntmps30
    go_wp2
    go_ret
    exact ⟨rfl, rfl⟩
theorem one_29 (b : Bool) (w : World) : Calls Try.prog 30 #[.bool b, .int .i64 29] w fun e w' => e = .returned (.int .u64 (if b = true then 536870912 else 0)) ∧ w' = w := by
  cases b
  · go_enter Try.func30, Try.ntmps30
    go_wp2
    go_ret
    exact ⟨rfl, rfl⟩
  · go_enter Try.func30, Try.ntmps30
    go_wp2
    go_ret
    exact ⟨rfl, rfl⟩
theorem one_28 (b : Bool) (w : World) : Calls Try.prog 30 #[.bool b, .int .i64 28] w fun e w' => e = .returned (.int .u64 (if b = true then 268435456 else 0)) ∧ w' = w := by
  cases b
  · go_enter Try.func30, Try.ntmps30
    go_wp2
    go_ret
    exact ⟨rfl, rfl⟩
  · go_enter Try.func30, Try.ntmps30
    go_wp2
    go_ret
    exact ⟨rfl, rfl⟩
theorem one_7 (b : Bool) (w : World) : Calls Try.prog 30 #[.bool b, .int .i64 7] w fun e w' => e = .returned (.int .u64 (if b = true then 128 else 0)) ∧ w' = w := by
  cases b
  · go_enter Try.func30, Try.ntmps30
    go_wp2
    go_ret
    exact ⟨rfl, rfl⟩
  · go_enter Try.func30, Try.ntmps30
    go_wp2
    go_ret
    exact ⟨rfl, rfl⟩
def oneF (b : Bool) (k : Int) : Int := if b = true then (if k = 31 then 2147483648 else if k = 30 then 1073741824 else if k = 29 then 536870912 else if k = 28 then 268435456 else 128) else 0
theorem one_any (b : Bool) (k : Int) (w : World) (h : k = 31 ∨ k = 30 ∨ k = 29 ∨ k = 28 ∨ k = 7) : Calls Try.prog 30 #[.bool b, .int .i64 k] w fun e w' => e = .returned (.int .u64 (oneF b k)) ∧ w' = w := by
  rcases h with rfl | rfl | rfl | rfl | rfl
  · exact one_31 b w
  · exact one_30 b w
  · exact one_29 b w
  · exact one_28 b w
  · exact one_7 b w
theorem nz_sum (c : Cr) : IntKind.u64.wrap (IntKind.u64.wrap (IntKind.u64.wrap (oneF c.N 31 + oneF c.Z 30) + oneF c.C 29) + oneF c.V 28) = nzP c 4 := by
  unfold nzP oneF
  cases c.N <;> cases c.Z <;> cases c.C <;> cases c.V <;> decide
set_option maxHeartbeats 1000000 in
theorem rnzcv_ok (c : Cr) (w : World) : Calls Try.prog 13 #[.agg (cv c)] w fun e w' => e = .returned (.int .u64 (nzP c 4)) ∧ Fr Nil w w' := by
  have hs := nz_sum c
  have Hs := Lib.hid hs
  clear hs
  have hb : Blk (w.alloc (.cells (cv c) 26)) w.heap.size 26 (cv c) := Blk.new _ _ _
  have c0 : (w.alloc (.cells (cv c) 26)).cell? ⟨w.heap.size, 34, none⟩ = some (.bool c.N) := hb.cellv (cv_34 c)
  have c1 : (w.alloc (.cells (cv c) 26)).cell? ⟨w.heap.size, 35, none⟩ = some (.bool c.Z) := hb.cellv (cv_35 c)
  have c2 : (w.alloc (.cells (cv c) 26)).cell? ⟨w.heap.size, 36, none⟩ = some (.bool c.C) := hb.cellv (cv_36 c)
  have c3 : (w.alloc (.cells (cv c) 26)).cell? ⟨w.heap.size, 37, none⟩ = some (.bool c.V) := hb.cellv (cv_37 c)
  clear hb
  go_enter Try.func13, Try.ntmps13
  go_wp2_with fail
  go_quiet ((go_at_call 30; exact Calls.quiet_of_same (one_any _ _ _ (by omega))))
  go_wp2
  go_ret
  exact ⟨by rw [← Hs.out]; rfl, Fr.drewN (Fr.alloc (Fr.refl _ _) _) _⟩
end Go.Proofs.Ytiaflkabnaofpaa
