/- A copy of a slice of pairs: append to nil. -/
import Derived.Test.YtpcpjmbfinpmlaaDoorRrof
import Derived.Test.YtpcpjmbfinpmlaaDoorRpr
set_option linter.unusedSimpArgs false
set_option linter.unusedVariables false
set_option linter.unusedSectionVars false
namespace Go.Proofs.YtpcpjmbfinpmlaaDoor
open Go.RowKit
set_option maxRecDepth 100000

def pcz (P : Nat → Int × Int) (len : Nat) : List Value := (List.range (len * 2)).map fun j => .int .i64 (if j % 2 = 0 then (P (j / 2)).1 else (P (j / 2)).2)
theorem pcz_len (P : Nat → Int × Int) (len : Nat) : (pcz P len).length = len * 2 := by simp [pcz]
theorem pcz_get (P : Nat → Int × Int) (len : Nat) {j : Nat} (h : j < len * 2) : (pcz P len)[j]? = some (.int .i64 (if j % 2 = 0 then (P (j / 2)).1 else (P (j / 2)).2)) := by simp [pcz, h]
theorem run_append_none {P : Program} {w : World} (t ty e : TypeId) (i : TypeInfo) (ht : P.underlying t = some (.slice e)) (hi : P.info? e = some i) (a : Option Addr) (c : Nat) (hc : a = none ∨ ∃ x, a = some x) :
    (Builtin.append_ #[t, t] ty #[.slice none 0 0, .slice a 0 c]).run P w = .ok (.slice none 0 0) w := by
  cases a with
  | none => simp [Builtin.append_, run_underlying ht, sizeOf, typeInfo, hi, Builtin.lenOf, run_firstCells_none, storeCells]
  | some a =>
    have hf := run_firstCells_some (P := P) w i.size 0 a 0 c [] (by simp) (by simp)
    simp [Builtin.append_, run_underlying ht, sizeOf, typeInfo, hi, Builtin.lenOf, hf, storeCells]
theorem wpList_copy {w : World} {ops : Array Oper} {rest : List Oper} {o : Oper} {a : Act} {Q : Exit → Act → World → Prop} (hgd : o.guard = none) (x : Operand)
    (ho : o.op = .call { callee := .builtin .append, args := #[.const (.slice none 0 0), x], argTypes := #[22, 22] })
    (ao : Option Addr) (len cap : Nat) (P : Nat → Int × Int) (hx : a.eval x = .slice ao len cap) (hP : Prs w ao len P) (hl : len * 16 ≤ 140737488355328)
    (h : ∀ ao' cap' w', Prs w' ao' len P → Fr Nil w w' → wpList Tryd.prog ops Q rest (a.put o.dst (.slice ao' len cap')) w') : wpList Tryd.prog ops Q (o :: rest) a w := by
  obtain ⟨i60, hi60, hz0, hz1, hz2⟩ := info_parts Tryd.info60
  rcases Nat.eq_zero_or_pos len with h0 | h0
  · subst h0
    refine wpList_plain hgd fun K hK => ?_
    have hr := run_append_none (P := Tryd.prog) (w := w) 22 o.type 60 i60 Tryd.underlying22 hi60 ao cap (by cases ao; exact .inl rfl; exact .inr ⟨_, rfl⟩)
    have hs : a.eval (.const (.slice none 0 0)) = .slice none 0 0 := rfl
    unfold Oper.wp execOp
    simp only [ho, resolve, invoke, builtin, Sem.run_bind, Sem.run_pure, Result.andThen_ok, List.map_toArray, List.map_cons, List.map_nil, hs, hx, hr]
    exact hK _ _ (h none 0 w (fun i hi => absurd hi (by omega)) (Fr.refl _ _))
  · obtain ⟨b, off, rfl, -, -, -⟩ := hP 0 h0
    have hn : ∀ (j : Nat) u, (pcz P len)[j]? = some u → w.cell? ((⟨b, off, none⟩ : Addr).add j) = some u := fun j u hj => by
      rw [Addr.add_lit]
      have hj2 : j < len * 2 := by
        have := (List.getElem?_eq_some_iff.1 hj).1
        rwa [pcz_len] at this
      rw [pcz_get P len hj2] at hj
      obtain ⟨b', off', e, -, c1, c2⟩ := hP (j / 2) (by omega)
      cases e
      by_cases e : j % 2 = 0
      · rw [if_pos e] at hj
        rw [← hj, ← c1]
        congr 2
        omega
      · rw [if_neg e] at hj
        rw [← hj, ← c2]
        congr 2
        omega
    refine wpList_append_win w hgd (.const (.slice none 0 0)) x 22 ho 60 i60 _ 2 16 Tryd.underlying22 hi60 hz0 hz1 hz2 rfl (by decide) _ 0 [] rfl (Win.nil _ _ _) ⟨b, off, none⟩ len cap (pcz P len) hx (pcz_len P len) hn (by simp [pcz, Value.oneCell']) h0 (by simp only [maxLen]; omega) (by omega) w.heap.size rfl ?_
    intro g off' cap' w' hw hgr _
    rw [Nat.zero_add, List.nil_append] at hw
    rw [Nat.zero_add]
    refine h _ _ w' (fun i hi => ⟨g, off', rfl, ?_, ?_, ?_⟩) ((Fr.refl Nil w).grown hgr fun k hk => (by cases hk))
    · obtain ⟨g', off2, cap2, hv, -, -, hlt, -, -⟩ := hw.form h0
      cases hv
      exact hlt
    · have := hw.cellAt (pcz_get P len (j := i * 2) (by omega))
      rw [show (i * 2) % 2 = 0 by omega, if_pos rfl, show i * 2 / 2 = i by omega] at this
      exact this
    · have := hw.cellAt (pcz_get P len (j := i * 2 + 1) (by omega))
      rw [if_neg (by omega), show (i * 2 + 1) / 2 = i by omega, ← Nat.add_assoc] at this
      exact this
end Go.Proofs.YtpcpjmbfinpmlaaDoor
