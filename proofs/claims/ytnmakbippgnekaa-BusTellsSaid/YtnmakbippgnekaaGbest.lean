/- The interrupt that a core would take. -/
import Derived.Test.YtnmakbippgnekaaGsend
import Derived.BigQuiet
import Derived.Deep.RegionHeld3
set_option linter.unusedSimpArgs false
set_option linter.unusedSectionVars false
namespace Go.Proofs.Ytnmakbippgnekaa
open Go.RowKit
set_option linter.unusedVariables false
set_option maxRecDepth 100000

def candB (s : GS) (c id : Nat) : Bool := (s.get c id).en && (s.get c id).pn && !(s.get c id).ac && (decide (id < 32) || (s.get c id).dst == (c : Int))
def one (s : GS) (c id : Nat) : Mo := ((s.get c id).rk, (id : Int))
def bestK (s : GS) (c : Nat) : Nat → Option Mo
  | 0 => none
  | k + 1 => if candB s c k = true then (match bestK s c k with | none => some (one s c k) | some m => if (s.get c k).rk < m.1 then some (one s c k) else some m) else bestK s c k
theorem lt_one (s : GS) (c i : Nat) (m : Mo) : ltM (one s c i) m = false ↔ m.1 < (s.get c i).rk ∨ (m.1 = (s.get c i).rk ∧ m.2 ≤ (i : Int)) := by
  unfold ltM one
  rw [decide_eq_false_iff_not]
  show ¬ ((s.get c i).rk < m.1 ∨ (s.get c i).rk = m.1 ∧ (i : Int) < m.2) ↔ _
  omega
theorem lt_ones (s : GS) (c i j : Nat) : ltM (one s c i) (one s c j) = false ↔ (s.get c j).rk < (s.get c i).rk ∨ ((s.get c j).rk = (s.get c i).rk ∧ j ≤ i) := by
  rw [lt_one]
  show _ ∨ ((s.get c j).rk = (s.get c i).rk ∧ (j : Int) ≤ (i : Int)) ↔ _
  rw [show (one s c j).1 = (s.get c j).rk from rfl]
  omega
theorem bestK_none {s : GS} {c : Nat} : ∀ {k : Nat}, bestK s c k = none ↔ ∀ id, id < k → candB s c id = false
  | 0 => ⟨fun _ id h => absurd h (by omega), fun _ => rfl⟩
  | k + 1 => by
    have ih := bestK_none (s := s) (c := c) (k := k)
    unfold bestK
    cases hc : candB s c k
    · rw [if_neg (by decide), ih]
      constructor
      · intro h id hid
        rcases Nat.lt_or_ge id k with h1 | h1
        · exact h id h1
        · obtain rfl : id = k := by omega
          exact hc
      · exact fun h id hid => h id (by omega)
    · rw [if_pos rfl]
      constructor
      · intro h
        split at h
        · cases h
        · split at h <;> cases h
      · intro h
        have := h k (by omega)
        rw [hc] at this
        cases this
theorem bestK_some {s : GS} {c : Nat} : ∀ {k : Nat} {m : Mo}, bestK s c k = some m → (∃ id, id < k ∧ candB s c id = true ∧ m = one s c id) ∧ ∀ id, id < k → candB s c id = true → ltM (one s c id) m = false
  | 0, m, h => by cases h
  | k + 1, m, h => by
    unfold bestK at h
    cases hc : candB s c k
    · rw [hc, if_neg (by decide)] at h
      obtain ⟨⟨id, h1, h2, h3⟩, h4⟩ := bestK_some h
      refine ⟨⟨id, by omega, h2, h3⟩, fun i hi hq => ?_⟩
      rcases Nat.lt_or_ge i k with h5 | h5
      · exact h4 i h5 hq
      · obtain rfl : i = k := by omega
        rw [hc] at hq
        cases hq
    · rw [hc, if_pos rfl] at h
      cases hb : bestK s c k with
      | none =>
        rw [hb] at h
        injection h with h
        subst h
        refine ⟨⟨k, by omega, hc, rfl⟩, fun i hi hq => ?_⟩
        rcases Nat.lt_or_ge i k with h5 | h5
        · rw [bestK_none.1 hb i h5] at hq
          cases hq
        · obtain rfl : i = k := by omega
          exact ordM.irr _
      | some m' =>
        rw [hb] at h
        obtain ⟨⟨id, h1, h2, h3⟩, h4⟩ := bestK_some hb
        by_cases hl : (s.get c k).rk < m'.1
        · simp only [hl, if_true] at h
          injection h with h
          subst h
          refine ⟨⟨k, by omega, hc, rfl⟩, fun i hi hq => ?_⟩
          rcases Nat.lt_or_ge i k with h5 | h5
          · have := h4 i h5 hq
            rw [lt_one] at this
            rw [lt_ones]
            omega
          · obtain rfl : i = k := by omega
            exact ordM.irr _
        · simp only [hl, if_false] at h
          injection h with h
          subst h
          refine ⟨⟨id, by omega, h2, h3⟩, fun i hi hq => ?_⟩
          rcases Nat.lt_or_ge i k with h5 | h5
          · exact h4 i h5 hq
          · obtain rfl : i = k := by omega
            subst h3
            rw [lt_ones]
            have hl' : ¬ (s.get c i).rk < (s.get c id).rk := hl
            omega
theorem bestK_eq {s : GS} {c k : Nat} {m : Mo} (h1 : ∃ id, id < k ∧ candB s c id = true ∧ m = one s c id) (h2 : ∀ id, id < k → candB s c id = true → ltM (one s c id) m = false) : bestK s c k = some m := by
  obtain ⟨id, i1, i2, rfl⟩ := h1
  cases hb : bestK s c k with
  | none => rw [bestK_none.1 hb id i1] at i2; cases i2
  | some m' =>
    obtain ⟨⟨j, j1, j2, rfl⟩, h4⟩ := bestK_some hb
    have a1 := h2 j j1 j2
    have a2 := h4 id i1 i2
    rw [lt_ones] at a1 a2
    congr 1
    have : j = id := by omega
    rw [this]
/-- What waits, of the first k. -/
structure Ws (s : GS) (c k n : Nat) (V : Nat → Mo) : Prop where
  fw : ∀ j, j < n → ∃ id, id < k ∧ candB s c id = true ∧ V j = one s c id
  bw : ∀ id, id < k → candB s c id = true → ∃ j, j < n ∧ V j = one s c id
  hp : Hp ltM V 0 n
  le : n ≤ k
theorem Ws.skip {s : GS} {c k n : Nat} {V : Nat → Mo} (h : Ws s c k n V) (hc : candB s c k = false) : Ws s c (k + 1) n V := by
  refine ⟨fun j hj => ?_, fun id hid hq => ?_, h.hp, by have := h.le; omega⟩
  · obtain ⟨id, a, b, e⟩ := h.fw j hj
    exact ⟨id, by omega, b, e⟩
  · rcases Nat.lt_or_ge id k with h5 | h5
    · exact h.bw id h5 hq
    · obtain rfl : id = k := by omega
      rw [hc] at hq
      cases hq
theorem Ws.add {s : GS} {c k n : Nat} {V V' : Nat → Mo} (h : Ws s c k n V) (hc : candB s c k = true) (hp : Hp ltM V' 0 (n + 1)) (pm : Perm (n + 1) (upd V n (one s c k)) V') : Ws s c (k + 1) (n + 1) V' := by
  refine ⟨fun j hj => ?_, fun id hid hq => ?_, hp, by have := h.le; omega⟩
  · obtain ⟨i, hi, e⟩ := pm.bw j hj
    by_cases hin : i = n
    · subst hin
      rw [upd_same] at e
      exact ⟨k, by omega, hc, e.symm⟩
    · rw [upd_other _ _ hin] at e
      obtain ⟨id, a, b, e2⟩ := h.fw i (by omega)
      exact ⟨id, by omega, b, e.symm.trans e2⟩
  · rcases Nat.lt_or_ge id k with h5 | h5
    · obtain ⟨j, hj, e⟩ := h.bw id h5 hq
      obtain ⟨i, hi, e2⟩ := pm.fw j (by omega)
      rw [upd_other _ _ (by omega)] at e2
      exact ⟨i, hi, e2.trans e⟩
    · obtain rfl : id = k := by omega
      obtain ⟨i, hi, e2⟩ := pm.fw n (by omega)
      rw [upd_same] at e2
      exact ⟨i, hi, e2⟩
theorem Ws.none {s : GS} {c k : Nat} {V : Nat → Mo} (h : Ws s c k 0 V) : bestK s c k = none := by
  rw [bestK_none]
  intro id hid
  cases hq : candB s c id
  · rfl
  · obtain ⟨j, hj, -⟩ := h.bw id hid hq
    omega
theorem Ws.some {s : GS} {c k n : Nat} {V : Nat → Mo} (h : Ws s c k (n + 1) V) : bestK s c k = some (V 0) := by
  refine bestK_eq ?_ fun id hid hq => ?_
  · obtain ⟨id, a, b, e⟩ := h.fw 0 (by omega)
    exact ⟨id, a, b, e⟩
  · obtain ⟨j, hj, e⟩ := h.bw id hid hq
    rw [← e]
    exact h.hp.least ordM j hj
def bestOf (s : GS) (c : Nat) (m : Option Mo) : Int × Bool := match m with | none => (0, false) | some m => if s.lim c ≤ m.1 ∨ runl (s.at_ c) ≤ m.1 then (0, false) else (m.2, true)
def GS.best (s : GS) (c : Int) : Int × Bool := if thereB s c = true then bestOf s c.toNat (bestK s c.toNat 64) else (0, false)
end Go.Proofs.Ytnmakbippgnekaa
