/- The two memories side by side: plain. -/
import Derived.Test.YtjbdbmahbcaniaaYv
set_option linter.unusedSimpArgs false
set_option linter.unusedVariables false
set_option linter.unusedSectionVars false
namespace Go.Proofs.Ytjbdbmahbcaniaa
open Go.RowKit

section
variable {g : List G} {F : Nat → Int} {s : St}
theorem Ok.loadV (h : Ok g F s) {i k : Nat} (hi : i < s.c) (hk : k < s.n) : loadV (als g s.st) F i k = s.load i k := by
  unfold Go.Proofs.Ytjbdbmahbcaniaa.loadV St.load
  rw [als_len]
  rcases h.load (k := k) hi with ⟨h1, h2⟩ | ⟨x, h1, h2⟩
  · rw [h1, h2]
    obtain ⟨h3, h4⟩ := h.peek hk
    rw [h3, h4]
  · rw [h1, h2]
theorem Ok.ordd (h : Ok g F s) : Ordd (als g s.st) s.od := by
  refine ⟨fun j t ht => ?_, fun t m ht hm => ?_⟩
  · obtain ⟨h1, h2⟩ := h.ord j t ht
    have hlt := h.stt h2
    have hg : g[t - 1]? = some (g[t - 1]'(by omega)) := List.getElem?_eq_getElem _
    obtain ⟨m, hm, he⟩ := h.at_ hg
    rw [show t - 1 + 1 = t by omega, h2] at hm
    obtain rfl := Option.some.inj hm
    exact ⟨h1, by rw [als_len]; omega, by rw [he]⟩
  · rw [als_len] at ht
    have hg : g[t]? = some (g[t]'ht) := List.getElem?_eq_getElem _
    obtain ⟨m2, hm2, he⟩ := h.at_ hg
    rw [he] at hm
    have hm' : m2 = m + 1 := hm
    subst hm'
    exact h.came (t + 1) m hm2
theorem Ok.told (h : Ok g F s) {i : Nat} (hi : i < s.c) : ∀ (j : Nat) (x : L), (s.H i)[j]? = some x → 1 ≤ x.t ∧ x.t ≤ (als g s.st).length ∧ x.a = 8 * (((als g s.st).getD (x.t - 1) a0).k : Int) ∧ x.v = ((als g s.st).getD (x.t - 1) a0).v := by
  intro j x hx
  obtain ⟨h1, h2, e, h3, h4, h5, h6⟩ := h.hold i hi x (List.mem_of_getElem? hx)
  obtain ⟨m, hm, he⟩ := h.at_ h3
  have hlt := (List.getElem?_eq_some_iff.1 h3).1
  rw [als_len, he]
  exact ⟨h1, by omega, h5, h6⟩
/-- One drained: both ways. -/
theorem Ok.drA (h : Ok g F s) {i : Nat} (hi : i < s.c) {x : L} {l : List L} (hx : s.H i = x :: l) : als g (s.drain1 i).st = drA (als g s.st) x.t s.od.length ∧ (s.drain1 i).od.length = s.od.length + 1 := by
  obtain ⟨h1, h2, e, h3, h4, h5, h6⟩ := h.hold i hi x (by rw [hx]; exact List.mem_cons_self)
  rw [drain1_cons hx]
  have e1 : ((s.pop i l).reach x x.k).st = s.st.set x.t (s.od.length + 1) := rfl
  have e2 : ((s.pop i l).reach x x.k).od = s.od ++ [x.t] := rfl
  rw [e1, e2]
  refine ⟨?_, by simp⟩
  unfold Go.Proofs.Ytjbdbmahbcaniaa.drA
  obtain ⟨m, hm, he⟩ := h.at_ h3
  rw [he]
  have := als_set (m := s.od.length + 1) h.len h3
  rw [show x.t - 1 + 1 = x.t by omega] at this
  exact this
theorem Ok.drsA (h : Ok g F s) {i : Nat} (hi : i < s.c) : ∀ j, j ≤ (s.H i).length → als g (s.drains i j).st = drsA (als g s.st) i s.od.length j ∧ (s.drains i j).od.length = s.od.length + j
  | 0, _ => ⟨rfl, rfl⟩
  | j + 1, hj => by
    obtain ⟨e1, e2⟩ := Ok.drsA h hi j (by omega)
    have hc : i < (s.drains i j).c := by rw [(drains_same s i j).2.1]; exact hi
    have hok := h.drains hi j
    have hH := (drains_same s i j).2.2.2.2.1
    cases hx : (s.drains i j).H i with
    | nil =>
      rw [hx] at hH
      have := congrArg List.length hH
      simp at this
      omega
    | cons x l =>
      obtain ⟨f1, f2⟩ := hok.drA hc hx
      have hheld := hok.held hc
      rw [hx] at hheld
      show als g ((s.drains i j).drain1 i).st = _ ∧ ((s.drains i j).drain1 i).od.length = _
      rw [f1, f2, e1, e2]
      refine ⟨?_, by omega⟩
      conv => rhs; unfold Go.Proofs.Ytjbdbmahbcaniaa.drsA
      rw [← e1, als_len, hheld]
      rfl
end
end Go.Proofs.Ytjbdbmahbcaniaa
