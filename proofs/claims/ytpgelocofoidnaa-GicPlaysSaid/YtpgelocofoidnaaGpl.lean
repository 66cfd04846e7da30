/- Plain words on a controller: what a put leaves alone, ranks, what is best. -/
import Derived.Test.YtpgelocofoidnaaGknow
set_option linter.unusedSimpArgs false
set_option linter.unusedSectionVars false
namespace Go.Proofs.Ytpgelocofoidnaa
open Go.RowKit
set_option linter.unusedVariables false
set_option maxRecDepth 100000

theorem GS.get_put_ne (s : GS) (c id c' id' : Nat) (y : I) (h : id' ≠ id) : (s.put c id y).get c' id' = s.get c' id' := by
  unfold GS.put GS.get
  by_cases h1 : id < 32
  · simp only [h1, if_true]
    by_cases h2 : id' < 32
    · simp only [h2, if_true]
      by_cases e : c' = c
      · subst e; rw [upd_same, upd_other _ _ h]
      · rw [upd_other _ _ e]
    · simp only [h2, if_false]
  · simp only [h1, if_false]
    by_cases h2 : id' < 32
    · simp only [h2, if_true]
    · simp only [h2, if_false]
      rw [upd_other _ _ (by omega)]
theorem GS.get_put_core (s : GS) (c id c' id' : Nat) (y : I) (h : c' ≠ c) (h1 : id < 32) : (s.put c id y).get c' id' = s.get c' id' := by
  unfold GS.put GS.get
  simp only [h1, if_true]
  rw [upd_other _ _ h]
theorem GS.get_put_sh (s : GS) (c id c' : Nat) (y : I) (h : 32 ≤ id) : (s.put c id y).get c' id = y := by
  unfold GS.put GS.get
  have h1 : ¬ id < 32 := by omega
  simp only [h1, if_false, upd_same]
/-! ### Ranks -/
def RankOk (s : GS) : Prop := (∀ c i, 0 ≤ (s.own c i).rk) ∧ ∀ i, 0 ≤ (s.sh i).rk
theorem RankOk.get {s : GS} (h : RankOk s) (c id : Nat) : 0 ≤ (s.get c id).rk := by
  unfold GS.get
  split
  · exact h.1 _ _
  · exact h.2 _
theorem RankOk.put {s : GS} (h : RankOk s) (c id : Nat) {y : I} (hy : 0 ≤ y.rk) : RankOk (s.put c id y) := by
  unfold GS.put
  split
  · refine ⟨fun c' i => ?_, h.2⟩
    show 0 ≤ (upd s.own c _ c' i).rk
    by_cases e : c' = c
    · subst e
      rw [upd_same]
      by_cases e2 : i = id
      · subst e2; rw [upd_same]; exact hy
      · rw [upd_other _ _ e2]; exact h.1 _ _
    · rw [upd_other _ _ e]; exact h.1 _ _
  · refine ⟨h.1, fun i => ?_⟩
    show 0 ≤ (upd s.sh (id - 32) _ i).rk
    by_cases e2 : i = id - 32
    · subst e2; rw [upd_same]; exact hy
    · rw [upd_other _ _ e2]; exact h.2 _
theorem RankOk.setF {s : GS} (h : RankOk s) (c id : Int) {f : I → I} (hf : ∀ x : I, 0 ≤ x.rk → 0 ≤ (f x).rk) : RankOk (s.setF c id f) := by
  unfold GS.setF
  split
  · exact h.put _ _ (hf _ (h.get _ _))
  · exact h
theorem RankOk.sendK {s : GS} (h : RankOk s) (t : Int) (id : Nat) : ∀ k, RankOk (s.sendK t id k)
  | 0 => h
  | k + 1 => by
    unfold GS.sendK
    have := RankOk.sendK h t id k
    split
    · exact this.put _ _ (this.get k id)
    · exact this
theorem RankOk.take {s : GS} (h : RankOk s) (c id : Nat) : RankOk (s.take c id) := h.put c id (y := { s.get c id with la := false, ac := true }) (h.get c id)
theorem RankOk.ack {s : GS} (h : RankOk s) (c : Int) : RankOk (s.ack c) := by
  unfold GS.ack
  split
  · exact h.take _ _
  · exact h
theorem RankOk.eoi {s : GS} (h : RankOk s) (c id : Int) : RankOk (s.eoi c id) := by
  unfold GS.eoi
  split
  · unfold GS.eoiN
    split
    · exact h.put c.toNat id.toNat (y := { s.get c.toNat id.toNat with ac := false }) (h.get _ _)
    · exact h
  · exact h
theorem RankOk.only {s : GS} (h : RankOk s) (o : Stp) : RankOk (s.only o) := by
  unfold GS.only
  split
  · exact h.setF _ _ fun x hx => hx
  split
  · exact h.setF _ _ fun x hx => hx
  split
  · unfold GS.line
    split
    · exact h.setF _ _ fun x hx => hx
    · exact h
  split
  · unfold GS.rank
    split
    · rename_i hv
      simp only [Bool.and_eq_true, decide_eq_true_eq] at hv
      exact h.setF _ _ fun x hx => hv.1
    · exact h
  split
  · unfold GS.route
    split
    · exact h.setF _ _ fun x hx => hx
    · exact h
  split
  · unfold GS.mask
    split
    · exact h
    · exact h
  split
  · unfold GS.send
    split
    · exact h.sendK _ _ _
    · exact h
  split
  · exact h.ack _
  split
  · exact h.eoi _ _
  · exact h
theorem rankOk_new (c : Nat) : RankOk (new c) := ⟨fun _ _ => by show (0 : Int) ≤ 160; decide, fun _ => by show (0 : Int) ≤ 160; decide⟩
theorem rankOk_run (S : Nat → Stp) (n : Nat) : RankOk (runS S n) := runS_inv S (rankOk_new 3) (fun s o _ h => h.only o) n
/-! ### What is best -/
theorem there_nat {s : GS} {c : Nat} (h : c < s.c) : thereB s (c : Int) = true := by simp [thereB]; omega
theorem best_nat' {s : GS} {c : Nat} (h : c < s.c) : s.best (c : Int) = bestOf s c (bestK s c 64) := by
  unfold GS.best
  rw [if_pos (there_nat h), Int.toNat_natCast]
theorem best_none {s : GS} {c : Nat} (h : c < s.c) (hn : ∀ id, id < 64 → candB s c id = false) : s.best (c : Int) = (0, false) := by
  rw [best_nat' h, bestK_none.2 hn]
  rfl
theorem best_masked {s : GS} {c : Nat} (h : c < s.c) (hr : RankOk s) (hl : s.lim c ≤ 0) : s.best (c : Int) = (0, false) := by
  rw [best_nat' h]
  cases hb : bestK s c 64 with
  | none => rfl
  | some m =>
    obtain ⟨⟨b, b1, b2, rfl⟩, -⟩ := bestK_some hb
    have h1 : s.lim c ≤ (one s c b).1 := Int.le_trans hl (hr.get c b)
    simp only [bestOf]
    rw [if_pos (.inl h1)]
/-- The one that is best, by what all others are. -/
theorem best_is {s : GS} {c id : Nat} (h : c < s.c) (hi : id < 64) (hc : candB s c id = true) (hb : ∀ k, k < 64 → candB s c k = true → (s.get c id).rk < (s.get c k).rk ∨ ((s.get c id).rk = (s.get c k).rk ∧ id ≤ k))
    (hl : (s.get c id).rk < s.lim c) (hr : (s.get c id).rk < runl (s.at_ c)) : s.best (c : Int) = ((id : Int), true) := by
  rw [best_nat' h, bestK_eq (m := one s c id) ⟨id, hi, hc, rfl⟩ fun k hk hq => (lt_ones s c k id).2 (hb k hk hq)]
  simp only [bestOf]
  have h1 : ¬ (s.lim c ≤ (one s c id).1 ∨ runl (s.at_ c) ≤ (one s c id).1) := by
    have : (one s c id).1 = (s.get c id).rk := rfl
    omega
  rw [if_neg h1]
  rfl
/-- None, for what is most urgent is not urgent enough. -/
theorem best_not {s : GS} {c : Nat} (h : c < s.c) (hb : ∀ k, k < 64 → candB s c k = true → s.lim c ≤ (s.get c k).rk ∨ runl (s.at_ c) ≤ (s.get c k).rk) : s.best (c : Int) = (0, false) := by
  rw [best_nat' h]
  cases hq : bestK s c 64 with
  | none => rfl
  | some m =>
    obtain ⟨⟨b, b1, b2, rfl⟩, -⟩ := bestK_some hq
    simp only [bestOf]
    have h1 : s.lim c ≤ (one s c b).1 ∨ runl (s.at_ c) ≤ (one s c b).1 := hb b b1 b2
    rw [if_pos h1]
theorem ack_no {s : GS} {c : Int} (h : (s.best c).2 = false) : s.ack c = s ∧ s.ackV c = 1023 := by
  unfold GS.ack GS.ackV
  rw [h]
  exact ⟨rfl, rfl⟩
theorem ack_yes {s : GS} {c id : Nat} (h : s.best (c : Int) = ((id : Int), true)) : s.ack (c : Int) = s.take c id ∧ s.ackV (c : Int) = (id : Int) := by
  unfold GS.ack GS.ackV
  rw [h]
  exact ⟨by simp, by simp⟩
/-- Two controllers that a core cannot tell apart. -/
structure Alike (s s' : GS) (c : Nat) : Prop where
  c_ : s'.c = s.c
  own : s'.own c = s.own c
  sh : s'.sh = s.sh
  lim : s'.lim c = s.lim c
  at_ : s'.at_ c = s.at_ c
theorem Alike.get {s s' : GS} {c : Nat} (h : Alike s s' c) (id : Nat) : s'.get c id = s.get c id := by
  unfold GS.get
  rw [h.own, h.sh]
theorem Alike.bestK {s s' : GS} {c : Nat} (h : Alike s s' c) : ∀ k, bestK s' c k = bestK s c k
  | 0 => rfl
  | k + 1 => by
    have ih := Alike.bestK h k
    have e1 : candB s' c k = candB s c k := by unfold candB; rw [h.get]
    have e2 : one s' c k = one s c k := by unfold one; rw [h.get]
    unfold Ytpgelocofoidnaa.bestK
    rw [ih, e1, e2, h.get]
theorem Alike.best {s s' : GS} {c : Nat} (h : Alike s s' c) (hc : c < s.c) : s'.best (c : Int) = s.best (c : Int) := by
  rw [best_nat' hc, best_nat' (by rw [h.c_]; exact hc), h.bestK]
  cases Ytpgelocofoidnaa.bestK s c 64 with
  | none => rfl
  | some m => simp only [bestOf]; rw [h.lim, h.at_]
theorem Alike.refl (s : GS) (c : Nat) : Alike s s c := ⟨rfl, rfl, rfl, rfl, rfl⟩
theorem Alike.trans {a b d : GS} {c : Nat} (h : Alike a b c) (k : Alike b d c) : Alike a d c :=
  ⟨k.c_.trans h.c_, k.own.trans h.own, k.sh.trans h.sh, k.lim.trans h.lim, k.at_.trans h.at_⟩
theorem Alike.setF (s : GS) {c : Nat} (id : Nat) (f : I → I) (h0 : 0 < s.c) (hi : id < 32) (hc : c ≠ 0) : Alike s (s.setF 0 (id : Int) f) c := by
  have := GS.setF_nat s (c := 0) (id := id) f h0 (by omega)
  rw [show ((0 : Nat) : Int) = 0 from rfl] at this
  rw [this]
  unfold GS.put
  rw [if_pos hi]
  exact ⟨rfl, upd_other _ _ hc, rfl, rfl, rfl⟩
theorem Alike.only (s : GS) {c : Nat} (k n : Int) (id : Nat) (on : Bool) (h0 : 0 < s.c) (hi : id < 32) (hc : c ≠ 0) (h4 : k ≠ 4) (h6 : k ≠ 6) (h7 : k ≠ 7) (h8 : k ≠ 8) : Alike s (s.only ⟨k, 0, (id : Int), n, on⟩) c := by
  unfold GS.only
  simp only [h4, h6, h7, h8, if_false]
  split
  · exact Alike.setF s id _ h0 hi hc
  split
  · exact Alike.setF s id _ h0 hi hc
  split
  · unfold GS.line
    split
    · exact Alike.setF s id _ h0 hi hc
    · exact Alike.refl _ _
  split
  · unfold GS.rank
    split
    · exact Alike.setF s id _ h0 hi hc
    · exact Alike.refl _ _
  split
  · unfold GS.mask
    split
    · refine ⟨rfl, rfl, rfl, ?_, rfl⟩
      exact upd_other _ _ hc
    · exact Alike.refl _ _
  · exact Alike.refl _ _
end Go.Proofs.Ytpgelocofoidnaa
