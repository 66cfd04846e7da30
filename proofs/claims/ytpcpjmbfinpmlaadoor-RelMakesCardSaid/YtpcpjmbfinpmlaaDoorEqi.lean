/- Equality of two arrays of integers. -/
import Derived.Test.YtpcpjmbfinpmlaaDoorBase
set_option linter.unusedSimpArgs false
set_option linter.unusedVariables false
namespace Go.Proofs.YtpcpjmbfinpmlaaDoor
open Go.RowKit

theorem run_eq_ints {P : Program} (w : World) (d : Nat) (t e : TypeId) (n : Nat) (k : IntKind) (ht : P.underlying t = some (.array n e)) (he : P.underlying e = some (.int k)) (xs ys : Array Value) (f g : Nat → Int)
    (i0 : TypeInfo) (hi : P.info? e = some i0) (hs : i0.size = 1) (hx : ∀ i, i < n → xs[i]? = some (.int k (f i))) (hy : ∀ i, i < n → ys[i]? = some (.int k (g i))) :
    (Op.equalIn (d + 2) t (.agg xs) (.agg ys)).run P w = .ok ((List.range' 0 n).all fun i => f i == g i) w := by
  have key : ∀ m j, j + m ≤ n → (Sem.run P (forIn (List.range' j m) ((none, ()) : Option Bool × Unit) fun i __s => do
              let __do_lift ← part e xs (i * 1)
              let __do_lift_1 ← part e ys (i * 1)
              let __do_lift ← Op.equalIn (d + 1) e __do_lift __do_lift_1
              if (!__do_lift) = true then pure (ForInStep.done (some false, ())) else pure (ForInStep.yield (none, ()))) w) =
        .ok (if ((List.range' j m).all fun i => f i == g i) = true then (none, ()) else (some false, ())) w := by
    intro m
    induction m with
    | zero => intro j _; simp
    | succ m ih =>
      intro j hj
      have h1 : (part e xs (j * 1)).run P w = .ok (.int k (f j)) w := by simp [part, isAgg, run_underlying he, hx j (by omega)]
      have h2 : (part e ys (j * 1)).run P w = .ok (.int k (g j)) w := by simp [part, isAgg, run_underlying he, hy j (by omega)]
      rw [List.range'_succ, List.forIn_cons]
      simp only [Sem.run_bind, h1, h2, Result.andThen_ok, run_equalIn_int w d e k k _ _ he, Sem.run_ite, Sem.run_pure]
      by_cases hc : f j = g j
      · simp only [hc, beq_self_eq_true, Bool.not_true, Bool.false_eq_true, if_false, Result.andThen_ok]
        rw [ih (j + 1) (by omega)]
        have hb : (f j == g j) = true := by simpa using hc
        simp only [List.all_cons, hb, Bool.true_and]
      · have hb : (f j == g j) = false := by simpa using hc
        simp only [hb, Bool.not_false, if_true, Result.andThen_ok, Sem.run_pure]
        simp [hb]
  unfold Op.equalIn
  simp only [Sem.run_bind, run_underlying ht, Result.andThen_ok]
  have hsz : (sizeOf e).run P w = .ok 1 w := by simp [sizeOf, typeInfo, hi, hs]
  rw [hsz]
  simp only [Result.andThen_ok, Std.Legacy.Range.forIn_eq_forIn_range', Std.Legacy.Range.size]
  have := key n 0 (by omega)
  simp only [Nat.sub_zero, Nat.add_sub_cancel, Nat.div_one]
  rw [this]
  cases h : ((List.range' 0 n).all fun i => f i == g i) <;> simp
end Go.Proofs.YtpcpjmbfinpmlaaDoor
