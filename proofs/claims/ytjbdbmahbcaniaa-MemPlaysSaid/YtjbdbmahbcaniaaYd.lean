/- The two memories side by side, where they lie. -/
import Derived.Test.YtjbdbmahbcaniaaYm
import Derived.Test.YtjbdbmahbcaniaaYl
set_option linter.unusedSimpArgs false
set_option linter.unusedVariables false
set_option linter.unusedSectionVars false
namespace Go.Proofs.Ytjbdbmahbcaniaa
open Go.RowKit
set_option maxRecDepth 100000

/-- Both memories; the blocks of KB are nobody's of the two. -/
structure Pd (w0 w : World) (KB : Nat → Prop) (rb : Nat) (q : Bs) (s : St) (fv av : Value) (F : Nat → Int) (al : List A) (sp : Nat) : Prop where
  hm : MemAt w q s
  hr : RAt w rb fv av s.n s.c s.d F al sp
  kp : ∀ k, KB k → ¬ Foot q s k ∧ ¬ RFt rb fv av k ∧ k < w.heap.size
  ap : ∀ k, RFt rb fv av k → ¬ Foot q s k
  nm : ∀ k, Foot q s k → w0.heap.size ≤ k
  nr : ∀ k, RFt rb fv av k → w0.heap.size ≤ k
  fr : Fr Nil w0 w
def Non (KB : Nat → Prop) : Nat → Prop := fun k => ¬ KB k
section
variable {w0 w w' : World} {KB : Nat → Prop} {rb : Nat} {q q' : Bs} {s s' : St} {fv av av' : Value} {F F' : Nat → Int} {al al' : List A} {sp sp' : Nat}
theorem Pd.still (h : Pd w0 w KB rb q s fv av F al sp) (f : Fr Nil w w') : Pd w0 w' KB rb q s fv av F al sp :=
  ⟨h.hm.fr0 f, h.hr.fr0 f, fun k hk => ⟨(h.kp k hk).1, (h.kp k hk).2.1, Nat.lt_of_lt_of_le (h.kp k hk).2.2 f.size⟩, h.ap, h.nm, h.nr, h.fr.trans f⟩
theorem Pd.prog (h : Pd w0 w KB rb q s fv av F al sp) (hm : MemAt w' q' s') (f : Fr (Foot q s) w w') (t : ∀ k, Foot q' s' k → Foot q s k ∨ w.heap.size ≤ k) (dn : s'.n = s.n) (dc : s'.c = s.c) (dd : s'.d = s.d) :
    Pd w0 w' KB rb q' s' fv av F al sp ∧ Fr (Non KB) w w' := by
  refine ⟨⟨hm, by rw [dn, dc, dd]; exact h.hr.fr f h.ap, fun k hk => ⟨fun hf => ?_, (h.kp k hk).2.1, Nat.lt_of_lt_of_le (h.kp k hk).2.2 f.size⟩, fun k hk hf => ?_, fun k hk => ?_, h.nr, h.fr.step f fun i _ hi => .inr (h.nm i hi)⟩, f.mono fun k _ hf hk => (h.kp k hk).1 hf⟩
  · rcases t k hf with h1 | h1
    · exact (h.kp k hk).1 h1
    · have := (h.kp k hk).2.2
      omega
  · rcases t k hf with h1 | h1
    · exact h.ap k hk h1
    · have := h.hr.lt hk
      omega
  · rcases t k hk with h1 | h1
    · exact h.nm k h1
    · exact Nat.le_trans h.fr.size h1
theorem Pd.ref (h : Pd w0 w KB rb q s fv av F al sp) (hr : RAt w' rb fv av' s.n s.c s.d F' al' sp') (f : Fr (RFt rb fv av) w w') (t : ∀ b, av'.ownBlock = some b → av.ownBlock = some b ∨ w.heap.size ≤ b) :
    Pd w0 w' KB rb q s fv av' F' al' sp' ∧ Fr (Non KB) w w' := by
  have t2 : ∀ k, RFt rb fv av' k → RFt rb fv av k ∨ w.heap.size ≤ k := fun k hk => by
    rcases hk with h1 | h1 | h1
    · exact .inl (.inl h1)
    · exact .inl (.inr (.inl h1))
    · exact (t k h1).imp (fun h2 => .inr (.inr h2)) id
  refine ⟨⟨h.hm.fr f fun k hk hr => h.ap k hr hk, hr, fun k hk => ⟨(h.kp k hk).1, fun hf => ?_, Nat.lt_of_lt_of_le (h.kp k hk).2.2 f.size⟩, fun k hk hf => ?_, h.nm, fun k hk => ?_, h.fr.step f fun i _ hi => .inr (h.nr i hi)⟩, f.mono fun k _ hf hk => (h.kp k hk).2.1 hf⟩
  · rcases t2 k hf with h1 | h1
    · exact (h.kp k hk).2.1 h1
    · have := (h.kp k hk).2.2
      omega
  · rcases t2 k hk with h1 | h1
    · exact h.ap k h1 hf
    · have := h.hm.lt hf
      omega
  · rcases t2 k hk with h1 | h1
    · exact h.nr k h1
    · exact Nat.le_trans h.fr.size h1
/-- A slice of the law's own that was written to. -/
theorem Pd.own (h : Pd w0 w KB rb q s fv av F al sp) {v : Value} (f : Fr (OwnB v) w w') (ho : ∀ k, v.ownBlock = some k → w0.heap.size ≤ k ∧ ¬ Foot q s k ∧ ¬ RFt rb fv av k) : Pd w0 w' KB rb q s fv av F al sp :=
  ⟨h.hm.fr f fun k hk hv => (ho k hv).2.1 hk, h.hr.fr f fun k hk hv => (ho k hv).2.2 hk, fun k hk => ⟨(h.kp k hk).1, (h.kp k hk).2.1, Nat.lt_of_lt_of_le (h.kp k hk).2.2 f.size⟩, h.ap, h.nm, h.nr, h.fr.step f fun i _ hi => .inr (ho i hi).1⟩
/-- One block more that is nobody's. -/
theorem Pd.more (h : Pd w0 w KB rb q s fv av F al sp) (o : Obj) : Pd w0 (w.alloc o) (fun k => KB k ∨ k = w.heap.size) rb q s fv av F al sp := by
  have h2 := h.still ((Fr.refl Nil w).alloc o)
  refine ⟨h2.hm, h2.hr, fun k hk => ?_, h2.ap, h2.nm, h2.nr, h2.fr⟩
  rcases hk with h1 | rfl
  · exact h2.kp k h1
  · exact ⟨fun hf => by have := h.hm.lt hf; omega, fun hf => by have := h.hr.lt hf; omega, by simp⟩
theorem Pd.less {KB' : Nat → Prop} (h : Pd w0 w KB rb q s fv av F al sp) (hk : ∀ k, KB' k → KB k) : Pd w0 w KB' rb q s fv av F al sp :=
  ⟨h.hm, h.hr, fun k h1 => h.kp k (hk k h1), h.ap, h.nm, h.nr, h.fr⟩
end
/-- Is it a core, a word? -/
theorem goodB_nat {n c : Nat} {core a : Int} (a0_ : 0 ≤ a) (h : goodB n c core a = true) : ∃ i k : Nat, core = (i : Int) ∧ a = 8 * (k : Int) ∧ i < c ∧ k < n := by
  unfold goodB at h
  simp only [Bool.and_eq_true, decide_eq_true_eq, beq_iff_eq] at h
  exact ⟨core.toNat, (a / 8).toNat, by omega, by omega, by omega, by omega⟩
theorem goodB_no {n c : Nat} {core a : Int} (h : goodB n c core a = false) : (core < 0 ∨ (c : Int) ≤ core) ∨ (a % 8 ≠ 0 ∨ (n : Int) ≤ a / 8) := by
  unfold goodB at h
  simp only [Bool.and_eq_false_iff, decide_eq_false_iff_not, beq_eq_false_iff_ne] at h
  omega
theorem goodB_zero {n c : Nat} (hn : 1 ≤ n) (core : Int) : goodB n c core 0 = (decide (0 ≤ core) && decide (core < (c : Int))) := by
  unfold goodB
  have h1 : decide ((0 : Int) / 8 < (n : Int)) = true := by simp; omega
  rw [h1]
  simp
/-- What stays true of both. -/
structure Pp (w0 w : World) (KB : Nat → Prop) (rb : Nat) (q : Bs) (s : St) (fv av : Value) (F : Nat → Int) (g : List G) : Prop where
  pd : Pd w0 w KB rb q s fv av F (als g s.st) s.od.length
  ok : Ok g F s
  n1 : 1 ≤ s.n ∧ s.n ≤ 8192
  c1 : 1 ≤ s.c ∧ s.c ≤ 8
  d1 : 1 ≤ s.d ∧ s.d ≤ 32
  len : g.length ≤ 200
  od : s.od.length ≤ 200
end Go.Proofs.Ytjbdbmahbcaniaa
