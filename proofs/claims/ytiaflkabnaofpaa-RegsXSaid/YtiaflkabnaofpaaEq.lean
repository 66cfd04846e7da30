/- Equality of two states. -/
import Derived.Test.YtiaflkabnaofpaaCore
namespace Go.Proofs.Ytiaflkabnaofpaa
open Go.RowKit
set_option linter.unusedVariables false

theorem run_eq_ints {P : Program} (w : World) (d : Nat) (t e : TypeId) (n : Nat) (k : IntKind) (ht : P.underlying t = some (.array n e)) (he : P.underlying e = some (.int k)) (xs ys : Array Value) (f g : Nat → Int)
    (i0 : TypeInfo) (hi : P.info? e = some i0) (hs : i0.size = 1) (hx : ∀ i, i < n → xs[i]? = some (.int k (f i))) (hy : ∀ i, i < n → ys[i]? = some (.int k (g i))) :
    (Op.equalIn (d + 2) t (.agg xs) (.agg ys)).run P w = .ok ((List.range' 0 n).all fun i => f i == g i) w := by
  have key : ∀ m j, j + m ≤ n → (Sem.run P (forIn (List.range' j m) ((none, ()) : Option Bool × Unit) fun i __s => do
              let __do_lift ← part e xs (i * 1)
              let __do_lift_1 ← part e ys (i * 1)
              let __do_lift ← Op.equalIn (d + 1) e __do_lift __do_lift_1
              if (!__do_lift) = true then pure (ForInStep.done (some false, ())) else pure (ForInStep.yield (none, ()))) w) =
        .ok (if ((List.range' j m).all fun i => f i == g i) = true then (none, ()) else (some false, ())) w := by
    intro m
    induction m with
    | zero => intro j _; simp
    | succ m ih =>
      intro j hj
      have h1 : (part e xs (j * 1)).run P w = .ok (.int k (f j)) w := by simp [part, isAgg, run_underlying he, hx j (by omega)]
      have h2 : (part e ys (j * 1)).run P w = .ok (.int k (g j)) w := by simp [part, isAgg, run_underlying he, hy j (by omega)]
      rw [List.range'_succ, List.forIn_cons]
      simp only [Sem.run_bind, h1, h2, Result.andThen_ok, run_equalIn_int w d e k k _ _ he, Sem.run_ite, Sem.run_pure]
      by_cases hc : f j = g j
      · simp only [hc, beq_self_eq_true, Bool.not_true, Bool.false_eq_true, if_false, Result.andThen_ok]
        rw [ih (j + 1) (by omega)]
        have hb : (f j == g j) = true := by simpa using hc
        simp only [List.all_cons, hb, Bool.true_and]
      · have hb : (f j == g j) = false := by simpa using hc
        simp only [hb, Bool.not_false, if_true, Result.andThen_ok, Sem.run_pure]
        simp [hb]
  unfold Op.equalIn
  simp only [Sem.run_bind, run_underlying ht, Result.andThen_ok]
  have hsz : (sizeOf e).run P w = .ok 1 w := by simp [sizeOf, typeInfo, hi, hs]
  rw [hsz]
  simp only [Result.andThen_ok, Std.Legacy.Range.forIn_eq_forIn_range', Std.Legacy.Range.size]
  have := key n 0 (by omega)
  simp only [Nat.sub_zero, Nat.add_sub_cancel, Nat.div_one]
  rw [this]
  cases h : ((List.range' 0 n).all fun i => f i == g i) <;> simp

attribute [local go_sem] cv_0 cv_33 cv_34 cv_35 cv_36 cv_37 cv_38 cv_39 cv_40 cv_41 cv_42 cv_43 cv_44 cv_45 cv_46 cv_47 cv_48 cv_size
theorem Try.info22 : (Try.prog.info? 22).map (fun i => (i.zero, i.size, i.bytes)) = some (some (.int .u64 0), 1, 8) := by kernel_rfl
theorem cv_ext31 (c : Cr) (i : Nat) (h : i < 31) : ((cv c).extract 0 31)[i]? = some (.int .u64 (c.X i)) := by
  rw [Array.getElem?_extract]
  simp [cv_size, h, cv_X c h]
theorem cv_ext2 (c : Cr) (i : Nat) (h : i < 2) : ((cv c).extract 31 33)[i]? = some (.int .u64 (if i = 0 then c.S0 else c.S1)) := by
  have : i = 0 ∨ i = 1 := by omega
  rcases this with rfl | rfl <;> rfl
/-- Are two states the same, field by field? -/
def crEq (a b : Cr) : Bool :=
  ((List.range' 0 31).all fun i => a.X i == b.X i) && (a.S0 == b.S0 && a.S1 == b.S1) && (a.PC == b.PC && a.N == b.N && a.Z == b.Z && a.C == b.C && a.V == b.V && a.EL == b.EL && a.M == b.M && a.Spsr == b.Spsr && a.Elr == b.Elr && a.Esr == b.Esr && a.Far == b.Far && a.Vbar == b.Vbar && a.Tpidr == b.Tpidr && a.Id == b.Id && a.Wait == b.Wait && a.Ev == b.Ev)
set_option maxRecDepth 100000 in
set_option maxHeartbeats 2000000 in
theorem run_eq_core (a b : Cr) (w : World) : (binOp .eql 26 (.agg (cv a)) (.agg (cv b))).run Try.prog w = .ok (.bool (crEq a b)) w := by
  obtain ⟨i0, hi, _, hs, _⟩ := info_parts Try.info22
  have h1 := run_eq_ints (P := Try.prog) w 9997 23 22 31 .u64 (by kernel_rfl) Try.underlying22 ((cv a).extract 0 31) ((cv b).extract 0 31) a.X b.X i0 hi hs (cv_ext31 a) (cv_ext31 b)
  have h2 := run_eq_ints (P := Try.prog) w 9997 24 22 2 .u64 (by kernel_rfl) Try.underlying22 ((cv a).extract 31 33) ((cv b).extract 31 33) _ _ i0 hi hs (cv_ext2 a) (cv_ext2 b)
  simp [go_sem, h1, h2]
  have e2 : (∃ x, x < 2 ∧ ¬(if x = 0 then a.S0 else a.S1) = if x = 0 then b.S0 else b.S1) ↔ ¬ (a.S0 = b.S0 ∧ a.S1 = b.S1) := by
    constructor
    · rintro ⟨x, hx, hn⟩ ⟨h3, h4⟩
      have : x = 0 ∨ x = 1 := by omega
      rcases this with rfl | rfl
      · exact hn (by simpa using h3)
      · exact hn (by simpa using h4)
    · intro h
      by_cases h3 : a.S0 = b.S0
      · exact ⟨1, by omega, by simpa using fun h4 => h ⟨h3, h4⟩⟩
      · exact ⟨0, by omega, by simpa using h3⟩
  unfold crEq
  simp only [e2]
  by_cases g1 : ∃ x, x < 31 ∧ ¬a.X x = b.X x
  · rw [if_pos g1]
    obtain ⟨x, hx, hn⟩ := g1
    have : ((List.range' 0 31).all fun i => a.X i == b.X i) = false := by
      rw [List.all_eq_false]
      exact ⟨x, by simp [hx], by simpa using hn⟩
    rw [this]; simp
  · rw [if_neg g1]
    have : ((List.range' 0 31).all fun i => a.X i == b.X i) = true := by
      rw [List.all_eq_true]
      intro x hx
      have hx' : x < 31 := by simpa using hx
      by_cases hxx : a.X x = b.X x
      · simpa using hxx
      · exact absurd ⟨x, hx', hxx⟩ g1
    rw [this]
    by_cases g2 : a.S0 = b.S0 ∧ a.S1 = b.S1
    · rw [if_neg (fun h => h g2)]
      by_cases nPC : ¬ a.PC = b.PC
      · simp [nPC]
      have pPC := Decidable.not_not.1 nPC
      clear nPC
      rw [if_pos pPC]
      by_cases nN : ¬ a.N = b.N
      · simp [nN]
      have pN := Decidable.not_not.1 nN
      clear nN
      rw [if_pos pN]
      by_cases nZ : ¬ a.Z = b.Z
      · simp [nZ]
      have pZ := Decidable.not_not.1 nZ
      clear nZ
      rw [if_pos pZ]
      by_cases nC : ¬ a.C = b.C
      · simp [nC]
      have pC := Decidable.not_not.1 nC
      clear nC
      rw [if_pos pC]
      by_cases nV : ¬ a.V = b.V
      · simp [nV]
      have pV := Decidable.not_not.1 nV
      clear nV
      rw [if_pos pV]
      by_cases nEL : ¬ a.EL = b.EL
      · simp [nEL]
      have pEL := Decidable.not_not.1 nEL
      clear nEL
      rw [if_pos pEL]
      by_cases nM : ¬ a.M = b.M
      · simp [nM]
      have pM := Decidable.not_not.1 nM
      clear nM
      rw [if_pos pM]
      by_cases nSpsr : ¬ a.Spsr = b.Spsr
      · simp [nSpsr]
      have pSpsr := Decidable.not_not.1 nSpsr
      clear nSpsr
      rw [if_pos pSpsr]
      by_cases nElr : ¬ a.Elr = b.Elr
      · simp [nElr]
      have pElr := Decidable.not_not.1 nElr
      clear nElr
      rw [if_pos pElr]
      by_cases nEsr : ¬ a.Esr = b.Esr
      · simp [nEsr]
      have pEsr := Decidable.not_not.1 nEsr
      clear nEsr
      rw [if_pos pEsr]
      by_cases nFar : ¬ a.Far = b.Far
      · simp [nFar]
      have pFar := Decidable.not_not.1 nFar
      clear nFar
      rw [if_pos pFar]
      by_cases nVbar : ¬ a.Vbar = b.Vbar
      · simp [nVbar]
      have pVbar := Decidable.not_not.1 nVbar
      clear nVbar
      rw [if_pos pVbar]
      by_cases nTpidr : ¬ a.Tpidr = b.Tpidr
      · simp [nTpidr]
      have pTpidr := Decidable.not_not.1 nTpidr
      clear nTpidr
      rw [if_pos pTpidr]
      by_cases nId : ¬ a.Id = b.Id
      · simp [nId]
      have pId := Decidable.not_not.1 nId
      clear nId
      rw [if_pos pId]
      by_cases nWait : ¬ a.Wait = b.Wait
      · simp [nWait]
      have pWait := Decidable.not_not.1 nWait
      clear nWait
      rw [if_pos pWait]
      by_cases nEv : ¬ a.Ev = b.Ev
      · simp [nEv]
      have pEv := Decidable.not_not.1 nEv
      clear nEv
      rw [if_pos pEv]
      simp [g2.1, g2.2, pPC, pN, pZ, pC, pV, pEL, pM, pSpsr, pElr, pEsr, pFar, pVbar, pTpidr, pId, pWait, pEv]
    · rw [if_pos g2]
      by_cases h3 : a.S0 = b.S0
      · have h4 : ¬ a.S1 = b.S1 := fun h => g2 ⟨h3, h⟩
        simp [h4]
      · simp [h3]
end Go.Proofs.Ytiaflkabnaofpaa
