/- A timer's interrupt, plain. -/
import Derived.Test.YtnmakbippgnekaaPb
set_option linter.unusedSimpArgs false
set_option linter.unusedVariables false
set_option linter.unusedSectionVars false
namespace Go.Proofs.Ytnmakbippgnekaa
open Go.RowKit
set_option maxRecDepth 100000

/-- The lines of three cores, just one of which may be high. -/
def bc (c k : Nat) (h : Bool) : Bool := if k = c then h else false
def linc (g : GS) (c : Nat) (h : Bool) : GS := ((g.line ((0 : Nat) : Int) 27 (bc c 0 h)).line ((1 : Nat) : Int) 27 (bc c 1 h)).line ((2 : Nat) : Int) 27 (bc c 2 h)
def ot (c : Nat) : Nat := (c + 1) % 3
def en27 (c : Nat) (g : GS) : GS := allG (fun g i => g.enable (c : Int) (i : Int) true) 134217728 64 g
def G1 (c : Nat) : GS := linc (new 3) c false
def G2 (c : Nat) (h1 : Bool) : GS := linc (G1 c) c h1
def G3 (c : Nat) (h1 : Bool) : GS := en27 c (G2 c h1)
def G4 (c : Nat) (h1 h : Bool) : GS := linc (G3 c h1) c h
def G5 (c : Nat) (h1 h : Bool) : GS := (G4 c h1 h).ack (c : Int)
def G6 (c : Nat) (h1 h : Bool) : GS := (G5 c h1 h).ack (ot c : Int)
def G7 (c : Nat) (h1 : Bool) : GS := (G6 c h1 true).ack (c : Int)
def G8 (c : Nat) (h1 : Bool) : GS := (G7 c h1).eoi (c : Int) 27
def G9 (c : Nat) (h1 : Bool) : GS := (G8 c h1).ack (c : Int)
def G10 (c : Nat) (h1 : Bool) : GS := (G9 c h1).eoi (c : Int) 27
def G11 (c : Nat) (h1 : Bool) : GS := linc (G10 c h1) c false
def G12 (c : Nat) (h1 : Bool) : GS := (G11 c h1).ack (c : Int)
theorem three {P : Nat → Prop} (h0 : P 0) (h1 : P 1) (h2 : P 2) : ∀ c, c < 3 → P c := fun c hc => by
  have : c = 0 ∨ c = 1 ∨ c = 2 := by omega
  rcases this with rfl | rfl | rfl
  · exact h0
  · exact h1
  · exact h2
theorem bools {P : Bool → Prop} (h0 : P false) (h1 : P true) : ∀ b, P b := fun b => by cases b; exact h0; exact h1
theorem v4 : ∀ c, c < 3 → ∀ h1 h, IntKind.u64.wrap ((G4 c h1 h).ackV (c : Int)) = if h = true then 27 else 1023 :=
  three (bools (bools (by kernel_rfl) (by kernel_rfl)) (bools (by kernel_rfl) (by kernel_rfl))) (bools (bools (by kernel_rfl) (by kernel_rfl)) (bools (by kernel_rfl) (by kernel_rfl))) (bools (bools (by kernel_rfl) (by kernel_rfl)) (bools (by kernel_rfl) (by kernel_rfl)))
theorem v5 : ∀ c, c < 3 → ∀ h1 h, IntKind.u64.wrap ((G5 c h1 h).ackV (ot c : Int)) = 1023 :=
  three (bools (bools (by kernel_rfl) (by kernel_rfl)) (bools (by kernel_rfl) (by kernel_rfl))) (bools (bools (by kernel_rfl) (by kernel_rfl)) (bools (by kernel_rfl) (by kernel_rfl))) (bools (bools (by kernel_rfl) (by kernel_rfl)) (bools (by kernel_rfl) (by kernel_rfl)))
theorem v6 : ∀ c, c < 3 → ∀ h1, IntKind.u64.wrap ((G6 c h1 true).ackV (c : Int)) = 1023 := three (bools (by kernel_rfl) (by kernel_rfl)) (bools (by kernel_rfl) (by kernel_rfl)) (bools (by kernel_rfl) (by kernel_rfl))
theorem v8 : ∀ c, c < 3 → ∀ h1, IntKind.u64.wrap ((G8 c h1).ackV (c : Int)) = 27 := three (bools (by kernel_rfl) (by kernel_rfl)) (bools (by kernel_rfl) (by kernel_rfl)) (bools (by kernel_rfl) (by kernel_rfl))
theorem v11 : ∀ c, c < 3 → ∀ h1, IntKind.u64.wrap ((G11 c h1).ackV (c : Int)) = 1023 := three (bools (by kernel_rfl) (by kernel_rfl)) (bools (by kernel_rfl) (by kernel_rfl)) (bools (by kernel_rfl) (by kernel_rfl))
/-! ### The timer -/
def t1 (c : Nat) (x : Int) : Tim.Ts := Tim.wrS (Tim.T0 3) (c : Int) 24346 x
def t2 (c : Nat) (x : Int) : Tim.Ts := Tim.wrS (t1 c x) (c : Int) 24345 1
def t4 (c : Nat) (x y : Int) : Tim.Ts := { t2 c x with t := IntKind.u64.wrap ((t2 c x).t + y) }
def t11 (c : Nat) (x y : Int) : Tim.Ts := Tim.wrS (t4 c x y) (c : Int) 24345 3
theorem lined_linc (B : BS) (t : Tim.Ts) (c : Nat) (h : Bool) (hn : t.n = 3) (h0 : Tim.hiB t ((0 : Nat) : Int) = bc c 0 h) (h1 : Tim.hiB t ((1 : Nat) : Int) = bc c 1 h) (h2 : Tim.hiB t ((2 : Nat) : Int) = bc c 2 h) : B.lined t = ⟨linc B.g c h, t, B.o⟩ := by
  unfold BS.lined
  rw [hn]
  have : linesG t 3 B.g = linc B.g c h := by
    unfold linc
    rw [← h0, ← h1, ← h2]
    rfl
  rw [this]
theorem hiB_is (t : Tim.Ts) (k : Nat) (hk : k < t.n) : Tim.hiB t (k : Int) = (decide (t.c k = 1) && decide (t.v k ≤ t.t)) := by
  unfold Tim.hiB
  rw [decide_eq_true (by omega), Bool.true_and, Int.toNat_natCast]
theorem t1_eq (c : Nat) (hc : c < 3) (x : Int) : t1 c x = { Tim.T0 3 with v := upd (fun _ => 0) c x } := by
  unfold t1 Tim.wrS
  rw [if_pos (by show 0 ≤ (c : Int) ∧ (c : Int) < ((3 : Nat) : Int); omega), if_neg (by decide), if_pos rfl, Int.toNat_natCast]
  rfl
theorem t2_eq (c : Nat) (hc : c < 3) (x : Int) : t2 c x = { Tim.T0 3 with v := upd (fun _ => 0) c x, c := upd (fun _ => 0) c 1 } := by
  unfold t2
  rw [t1_eq c hc]
  unfold Tim.wrS
  rw [if_pos (by show 0 ≤ (c : Int) ∧ (c : Int) < ((3 : Nat) : Int); omega), if_pos rfl, Int.toNat_natCast]
  rfl
theorem t4_eq (c : Nat) (hc : c < 3) (x y : Int) (y0 : 0 ≤ y) (y1 : y ≤ 18446744073709551615) : t4 c x y = ⟨3, y, upd (fun _ => 0) c 1, upd (fun _ => 0) c x⟩ := by
  unfold t4
  rw [t2_eq c hc]
  have : IntKind.u64.wrap (0 + y) = y := by rw [IntKind.wrap_u64]; omega
  show (⟨3, IntKind.u64.wrap (0 + y), _, _⟩ : Tim.Ts) = _
  rw [this]
theorem t11_eq (c : Nat) (hc : c < 3) (x y : Int) (y0 : 0 ≤ y) (y1 : y ≤ 18446744073709551615) : t11 c x y = ⟨3, y, upd (upd (fun _ => 0) c 1) c 3, upd (fun _ => 0) c x⟩ := by
  unfold t11
  rw [t4_eq c hc x y y0 y1]
  unfold Tim.wrS
  rw [if_pos (by show 0 ≤ (c : Int) ∧ (c : Int) < ((3 : Nat) : Int); omega), if_pos rfl, Int.toNat_natCast]
  rfl
theorem hi_no (t : Tim.Ts) (c k : Nat) (hk : k < t.n) (h : t.c k ≠ 1) : Tim.hiB t (k : Int) = bc c k false := by
  rw [hiB_is t k hk, decide_eq_false h]
  unfold bc
  split <;> rfl
theorem hi_bc (t : Tim.Ts) (c k : Nat) (hk : k < t.n) (h0 : k ≠ c → t.c k ≠ 1) (h1 : t.c c = 1) : Tim.hiB t (k : Int) = bc c k (decide (t.v c ≤ t.t)) := by
  by_cases e : k = c
  · subst e
    rw [hiB_is t k hk, decide_eq_true h1, Bool.true_and]
    unfold bc
    rw [if_pos rfl]
  · rw [hiB_is t k hk, decide_eq_false (h0 e)]
    unfold bc
    rw [if_neg e]
    rfl
theorem wrV_ok {t : Tim.Ts} {c : Nat} (hc : c < t.n) (sy : Int) (h : sy = 24345 ∨ sy = 24346) : Tim.wrV t (c : Int) sy = 0 := by
  unfold Tim.wrV
  rw [if_pos ⟨by omega, h⟩]
theorem wrV_bad {t : Tim.Ts} {c : Int} (sy : Int) (h : sy ≠ 24345 ∧ sy ≠ 24346) : Tim.wrV t c sy = 1 := by
  unfold Tim.wrV
  rw [if_neg (fun e => by rcases e.2 with e | e; exact h.1 e; exact h.2 e)]
theorem mayB_nat {n c : Nat} (hc : c < n) (el : Int) (h : el = 0 ∨ el = 1) : mayB n (c : Int) el = true := by
  unfold mayB
  rw [decide_eq_true (by omega), decide_eq_true (by omega)]
  rcases h with rfl | rfl <;> rfl
theorem setS_tim (B : BS) (c : Nat) (hc : c < B.t.n) (el sy v : Int) (he : el = 0 ∨ el = 1) (hs : sy = 24345 ∨ sy = 24346) : setS B (c : Int) el sy v = B.lined (Tim.wrS B.t (c : Int) sy v) ∧ setV B (c : Int) el sy = 0 := by
  unfold setS setV
  rw [if_pos (mayB_nat hc el he), if_pos (mayB_nat hc el he), if_pos (wrV_ok hc sy hs), if_pos (wrV_ok hc sy hs)]
  exact ⟨rfl, rfl⟩
theorem setS_eoi (B : BS) (c : Nat) (hc : c < B.t.n) (v : Int) : setS B (c : Int) 1 18017 v = { B with g := B.g.eoi (c : Int) (v % 16777216) } ∧ setV B (c : Int) 1 18017 = 0 := by
  unfold setS setV
  rw [if_pos (mayB_nat hc 1 (.inr rfl)), if_pos (mayB_nat hc 1 (.inr rfl)), wrV_bad 18017 (by decide)]
  exact ⟨rfl, rfl⟩
theorem rdV_bad {t : Tim.Ts} {c : Int} : (Tim.rdV t c 18016).2 = 1 := by
  unfold Tim.rdV
  split
  · rfl
  · rfl
theorem sysS_iar (B : BS) (c : Nat) (hc : c < B.t.n) : sysS B (c : Int) 1 18016 = { B with g := B.g.ack (c : Int) } ∧ sysV B (c : Int) 1 18016 = (IntKind.u64.wrap (B.g.ackV (c : Int)), 0) := by
  unfold sysS sysV
  rw [if_pos ⟨mayB_nat hc 1 (.inr rfl), by rw [rdV_bad]; decide, rfl, rfl⟩, if_pos (mayB_nat hc 1 (.inr rfl)), if_neg (by rw [rdV_bad]; decide)]
  exact ⟨rfl, rfl⟩
end Go.Proofs.Ytnmakbippgnekaa
