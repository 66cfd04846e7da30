/- Eoi: what it does. -/
import Derived.Test.YtnmakbippgnekaaGbest2
import Derived.IntWalk
set_option linter.unusedSimpArgs false
set_option linter.unusedSectionVars false
namespace Go.Proofs.Ytnmakbippgnekaa
open Go.RowKit
set_option linter.unusedVariables false
set_option maxRecDepth 100000

def hasI (l : List Mo) (id : Int) : Bool := l.any fun m => m.2 == id
def dropI (l : List Mo) (id : Int) : List Mo := l.eraseP fun m => m.2 == id
def GS.eoiN (s : GS) (c id : Nat) : GS :=
  if hasI (s.at_ c) (id : Int) = true then { s.put c id { s.get c id with ac := false } with at_ := upd s.at_ c (dropI (s.at_ c) (id : Int)) } else s
def GS.eoi (s : GS) (c id : Int) : GS := if okI s c id = true then s.eoiN c.toNat id.toNat else s
def GS.eoiB (s : GS) (c id : Int) : Bool := okI s c id && hasI (s.at_ c.toNat) id
theorem GS.eoiN_c (s : GS) (c id : Nat) : (s.eoiN c id).c = s.c := by
  unfold GS.eoiN
  split
  · exact GS.put_c _ _ _ _
  · rfl
theorem GS.eoi_c (s : GS) (c id : Int) : (s.eoi c id).c = s.c := by
  unfold GS.eoi
  split
  · exact GS.eoiN_c _ _ _
  · rfl
theorem hasI_take {l : List Mo} {id : Int} {k : Nat} (hk : k < l.length) (h : hasI (l.take k) id = false) (hq : ((lfn l k).2 == id) = false) : hasI (l.take (k + 1)) id = false := by
  unfold hasI at h ⊢
  rw [List.take_succ_eq_append_getElem hk, List.any_append, h]
  have e : lfn l k = l[k] := by simp [lfn, List.getD_eq_getElem?_getD, hk]
  rw [e] at hq
  simp [hq]
theorem dropI_at {l : List Mo} {id : Int} {k : Nat} (hk : k < l.length) (h : hasI (l.take k) id = false) (hq : ((lfn l k).2 == id) = true) : hasI l id = true ∧ dropI l id = l.take k ++ l.drop (k + 1) := by
  have e : lfn l k = l[k] := by simp [lfn, List.getD_eq_getElem?_getD, hk]
  rw [e] at hq
  have hl : l = l.take k ++ l[k] :: l.drop (k + 1) := by
    rw [← List.drop_eq_getElem_cons hk, List.take_append_drop]
  constructor
  · unfold hasI
    rw [List.any_eq_true]
    exact ⟨l[k], List.getElem_mem hk, hq⟩
  · unfold dropI
    conv => lhs; rw [hl]
    rw [List.eraseP_append_right]
    · rw [List.eraseP_cons_of_pos (by simpa using hq)]
    · intro b hb
      unfold hasI at h
      rw [List.any_eq_false] at h
      exact h b hb
theorem Win.cut {w : World} {e : TypeId} {size g off n m cap : Nat} {xs : List Value} (h : Win w e size (.slice (some ⟨g, off, none⟩) n cap) n xs) (hm : m ≤ n) : Win w e size (.slice (some ⟨g, off, none⟩) m m) m (xs.take (m * size)) := by
  rcases h.2 with ⟨h0, _⟩ | ⟨g', off', cap', cs, hv, hb, h1, h2, h3, h4⟩
  · cases h0
  · cases hv
    have hmul := Nat.mul_le_mul_right size hm
    have hmul2 := Nat.mul_le_mul_right size h1
    refine ⟨by rw [List.length_take, h.1]; omega, .inr ⟨g, off, m, cs, rfl, hb, Nat.le_refl _, by omega, by omega, ?_⟩⟩
    rw [← h4, List.take_take, Nat.min_eq_left hmul]
theorem wks_take (l : List Mo) (k : Nat) : wks (l.take k) = (wks l).take (k * 2) := by
  induction l generalizing k with
  | nil => simp [wks]
  | cons m l ih =>
    cases k with
    | zero => simp [wks]
    | succ k =>
      rw [List.take_succ_cons]
      have e : (k + 1) * 2 = k * 2 + 1 + 1 := by omega
      rw [e]
      show [Value.int .i64 m.2, .int .i64 m.1] ++ wks (l.take k) = List.take (k * 2 + 1 + 1) (Value.int .i64 m.2 :: .int .i64 m.1 :: wks l)
      rw [List.take_succ_cons, List.take_succ_cons, ih]
      rfl
theorem wks_drop (l : List Mo) (k : Nat) : wks (l.drop k) = (wks l).drop (k * 2) := by
  induction l generalizing k with
  | nil => simp [wks]
  | cons m l ih =>
    cases k with
    | zero => simp [wks]
    | succ k =>
      rw [List.drop_succ_cons]
      have e : (k + 1) * 2 = k * 2 + 1 + 1 := by omega
      rw [e]
      show wks (l.drop k) = List.drop (k * 2 + 1 + 1) (Value.int .i64 m.2 :: .int .i64 m.1 :: wks l)
      rw [List.drop_succ_cons, List.drop_succ_cons, ih]
theorem wks_app (l l' : List Mo) : wks (l ++ l') = wks l ++ wks l' := by simp [wks]
theorem step_append_zero {P : Program} {w : World} {ops : Array Oper} {o : Oper} {a : Act} {K : Act → World → Prop} {Q : Exit → Act → World → Prop} {E : Prop} (hgd : o.guard = none) (s x : Operand) (t : TypeId)
    (ho : o.op = .call { callee := .builtin .append, args := #[s, x], argTypes := #[t, t] }) (e : TypeId) (i : TypeInfo) (ht : P.underlying t = some (.slice e)) (hi : P.info? e = some i)
    (g off n cap : Nat) (hle : n ≤ cap) (hs : a.eval s = .slice (some ⟨g, off, none⟩) n cap) (v : Value) (hx : a.eval x = v) (hv : ∃ ad c, v = .slice ad 0 c)
    (h : K (a.put o.dst (.slice (some ⟨g, off, none⟩) n cap)) w) : if Region.wanted o (yielded ops a.tmps) = true then Oper.wp P o a w K Q else E := by
  have hw : Region.wanted o (yielded ops a.tmps) = true := by simp [Region.wanted, hgd]
  rw [if_pos hw]
  obtain ⟨ad, c, rfl⟩ := hv
  have hr := run_append_zero (P := P) w t o.type e i ht hi g off n cap hle ad c
  unfold Oper.wp execOp
  simp only [ho, resolve, invoke, builtin, Sem.run_bind, Sem.run_pure, Result.andThen_ok, List.map_toArray, List.map_cons, List.map_nil, hs, hx, hr]
  exact h
theorem wks_one (l : List Mo) : ∀ u ∈ wks l, u.oneCell' = true := by
  intro u hu
  unfold wks at hu
  rw [List.mem_flatMap] at hu
  obtain ⟨m, -, hu⟩ := hu
  simp at hu
  rcases hu with rfl | rfl <;> rfl
theorem GS.put_at2 (s : GS) (c id : Nat) (y : I) (f : Nat → List Mo) : ({ s with at_ := f } : GS).put c id y = { s.put c id y with at_ := f } := by
  unfold GS.put
  split <;> rfl
theorem wks_length2 (l : List Mo) : (wks l).length = l.length * 2 := by rw [wks_rows, rows_length _ 2 (mo_length _)]
end Go.Proofs.Ytnmakbippgnekaa
