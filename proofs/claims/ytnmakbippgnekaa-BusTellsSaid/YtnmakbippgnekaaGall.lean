/- The contracts for a controller that a law made; pick; the chapter's example. -/
import Derived.Test.YtnmakbippgnekaaGack
import Derived.Test.YtnmakbippgnekaaGnew
import Derived.Test.YtnmakbippgnekaaGei
set_option linter.unusedSimpArgs false
set_option linter.unusedSectionVars false
namespace Go.Proofs.Ytnmakbippgnekaa
open Go.RowKit
set_option linter.unusedVariables false
set_option maxRecDepth 100000

section
variable {K : Nat → Prop} {gb : Nat} {s : GS} {w : World}
theorem Gk.best (h : Gk K w gb s) (c : Int) : Calls Try.prog 45 #[.pointer (some ⟨gb, 0, none⟩), .int .i64 c] w (Tn K gb w s (.tuple #[.int .i64 (s.best c).1, .bool (s.best c).2])) := by
  obtain ⟨cb, av, hg, hf⟩ := h.mem
  refine (best_at gb cb av s c w hg h.c8).mono ?_
  rintro e w' ⟨rfl, f⟩
  exact ⟨rfl, h.still f, f.not⟩
theorem Gk.run (h : Gk K w gb s) (c : Int) : Calls Try.prog 63 #[.pointer (some ⟨gb, 0, none⟩), .int .i64 c] w (Tn K gb w s (.int .i64 (s.run c))) := by
  obtain ⟨cb, av, hg, hf⟩ := h.mem
  refine (run_at gb cb av s c w hg h.c8).mono ?_
  rintro e w' ⟨rfl, f⟩
  exact ⟨rfl, h.still f, f.not⟩
theorem Gk.enabled (h : Gk K w gb s) (c id : Int) : Calls Try.prog 65 #[.pointer (some ⟨gb, 0, none⟩), .int .i64 c, .int .i64 id] w fun e w' => e = .returned (.bool (s.tellB (·.en) c id)) ∧ w = w' := by
  obtain ⟨cb, av, hg, hf⟩ := h.mem
  exact enabled_at gb cb av s c id w hg h.c8
theorem Gk.active (h : Gk K w gb s) (c id : Int) : Calls Try.prog 69 #[.pointer (some ⟨gb, 0, none⟩), .int .i64 c, .int .i64 id] w fun e w' => e = .returned (.bool (s.tellB (·.ac) c id)) ∧ w = w' := by
  obtain ⟨cb, av, hg, hf⟩ := h.mem
  exact active_at gb cb av s c id w hg h.c8
theorem Gk.pending (h : Gk K w gb s) (c id : Int) : Calls Try.prog 21 #[.pointer (some ⟨gb, 0, none⟩), .int .i64 c, .int .i64 id] w fun e w' => e = .returned (.bool (s.tellB I.pn c id)) ∧ w = w' := by
  obtain ⟨cb, av, hg, hf⟩ := h.mem
  exact pending_at gb cb av s c id w hg h.c8
theorem Gk.rate (h : Gk K w gb s) (c id : Int) : Calls Try.prog 19 #[.pointer (some ⟨gb, 0, none⟩), .int .i64 c, .int .i64 id] w fun e w' => e = .returned (.int .i64 (s.rate c id)) ∧ w = w' := by
  obtain ⟨cb, av, hg, hf⟩ := h.mem
  exact rate_at gb cb av s c id w hg h.c8
theorem Gk.goes (h : Gk K w gb s) (id : Int) : Calls Try.prog 71 #[.pointer (some ⟨gb, 0, none⟩), .int .i64 id] w fun e w' => e = .returned (.int .i64 (s.goes id)) ∧ w = w' := by
  obtain ⟨cb, av, hg, hf⟩ := h.mem
  exact goes_at gb cb av s id w hg h.c8
theorem Gk.limit (h : Gk K w gb s) (c : Int) : Calls Try.prog 34 #[.pointer (some ⟨gb, 0, none⟩), .int .i64 c] w fun e w' => e = .returned (.int .i64 (s.limit c)) ∧ w = w' := by
  obtain ⟨cb, av, hg, hf⟩ := h.mem
  exact limit_at gb cb av s c w hg h.c8
end
theorem new_bad (n : Int) (w : World) (h : n < 1 ∨ 8 < n) : Calls Try.prog 22 #[.int .i64 n] w fun e w' => e = .returned (.tuple #[.pointer none, .int .i64 1]) ∧ w = w' := by
  by_cases h1 : n < 1
  · clear h
    go_enter Try.func22, Try.ntmps22
    go_wp2
    go_ret2
    exact ⟨rfl, rfl⟩
  · have h2 : 8 < n := by omega
    clear h
    go_enter Try.func22, Try.ntmps22
    go_wp2
    go_ret2
    exact ⟨rfl, rfl⟩
/-! ### pick -/
def pk (c n : Int) : Int := (if c < 0 then -(c + 1) else c) % n
theorem pk_rng (c n : Int) (hn : 0 < n) : 0 ≤ pk c n ∧ pk c n < n := ⟨Int.emod_nonneg _ (by omega), Int.emod_lt_of_pos _ hn⟩
theorem pick_ok (c n : Int) (w : World) (c0 : -9223372036854775808 ≤ c) (c1 : c ≤ 9223372036854775807) (n0 : 0 < n) (n1 : n ≤ 1000) : Calls Try.prog 10 #[.int .i64 c, .int .i64 n] w fun e w' => e = .returned (.int .i64 (pk c n)) ∧ w = w' := by
  by_cases h : c < 0
  · have e : pk c n = (-(c + 1)) % n := by unfold pk; rw [if_pos h]
    have E := Lib.hid e
    clear e
    go_enter Try.func10, Try.ntmps10
    go_wp2
    go_ret
    rw [E.out]
    refine ⟨?_, rfl⟩
    show Ending.returned (.int .i64 (-((c + 1).tmod n))) = _
    rw [← Int.neg_tmod, Int.tmod_eq_emod_of_nonneg (by omega)]
  · have e : pk c n = c % n := by unfold pk; rw [if_neg h]
    have E := Lib.hid e
    have h' : 0 ≤ c := by omega
    clear e
    go_enter Try.func10, Try.ntmps10
    go_wp2
    go_ret
    rw [E.out]
    refine ⟨?_, rfl⟩
    rfl
/-! ### The example's stations -/
def x1 : GS := (new 2).send 2 3
def x2 : GS := x1.enable 1 3 true
def x3 : GS := x2.ack 1
def x4 : GS := x3.ack 1
def x5 : GS := x4.eoi 1 3
theorem x_c : x1.c = 2 ∧ x2.c = 2 ∧ x3.c = 2 ∧ x4.c = 2 ∧ x5.c = 2 := by decide +kernel
theorem x_send : (new 2).sendC 2 3 = 0 := by decide +kernel
theorem x_no : (x1.best 1) = (0, false) := by decide +kernel
theorem x_en : x1.enableC 1 3 true = 0 := by decide +kernel
theorem x_yes : x2.best 1 = (3, true) := by decide +kernel
theorem x_other : (x2.best 0).2 = false := by decide +kernel
theorem x_ack : x2.ackV 1 = 3 := by decide +kernel
theorem x_act : x3.tellB (·.ac) 1 3 = true := by decide +kernel
theorem x_run : x3.run 1 = 160 := by decide +kernel
theorem x_again : x3.ackV 1 = 1023 := by decide +kernel
theorem x_end : x4.eoiB 1 3 = true ∧ okI x4 1 3 = true := by decide +kernel
theorem x_last : x5.run 1 = 256 := by decide +kernel
theorem x_at : AtLe x2 0 ∧ AtLe x3 1 ∧ AtLe x4 1 := by
  have e : ∀ (s : GS) (n : Nat), s.c = 2 → (s.at_ 0).length ≤ n → (s.at_ 1).length ≤ n → AtLe s n := fun s n h h0 h1 i hi => by
    have : i = 0 ∨ i = 1 := by omega
    rcases this with rfl | rfl <;> assumption
  exact ⟨e _ _ x_c.2.1 (by decide +kernel) (by decide +kernel), e _ _ x_c.2.2.1 (by decide +kernel) (by decide +kernel), e _ _ x_c.2.2.2.1 (by decide +kernel) (by decide +kernel)⟩
end Go.Proofs.Ytnmakbippgnekaa
