/- A slice of arrays of integers that came in. -/
import Derived.Test.YtpcpjmbfinpmlaaDoorLaw
import Derived.OpenShut
set_option linter.unusedSimpArgs false
set_option linter.unusedVariables false
set_option linter.unusedSectionVars false
namespace Go.Proofs.YtpcpjmbfinpmlaaDoor
open Go.ChangeShapes Go.WideShapes Go.ChangeAt Go.RowKit Go.Deep

/-- A slice of arrays of integers that came in: the j-th of the i-th. -/
def SlArr (k : IntKind) (n : Nat) (w : World) (a : Option Addr) (len : Nat) (V : Nat → Nat → Int) : Prop :=
  ∀ i, i < len → ∃ b off, a = some ⟨b, off, none⟩ ∧ b < w.heap.size ∧ ∀ j, j < n → w.cell? ⟨b, off + i * n + j, none⟩ = some (.int k (V i j)) ∧ (Lit.int k (V i j)).wf = true
section
variable {H : Type} {enc : TypeId × Value → H} {P : Program} {w : World} {base : Nat} {spare : Nat → Bool} {held : Bool}
theorem sl_arr {t e e2 : TypeId} {n fuel len cap : Nat} {k : IntKind} {a : Option Addr} {x : DataW H × List MemPlace} (ht : P.underlying t = some (.slice e)) (he : P.underlying e = some (.array n e2)) (he2 : P.underlying e2 = some (.int k)) (hc : P.cellsOf e = n) (hc2 : P.cellsOf e2 = 1)
    (hk0 : 0 < n)
    (h : DataW.trod enc P w base spare held fuel t [.slice a len cap] = some x) : len ≤ cap ∧ cap ≤ maxLen ∧ ∃ V, SlArr k n w a len V := by
  rcases open_slice ht h with ⟨h0, _⟩ | ⟨ad, len', cap', m, n', D, Pl, hcs, hb, hl, hm, hmm, rfl, hx⟩
  · simp at h0
    obtain ⟨rfl, rfl, rfl⟩ := h0
    exact ⟨Nat.le_refl _, by simp [maxLen], fun _ _ => 0, fun i hi => absurd hi (by omega)⟩
  · simp at hcs
    obtain ⟨rfl, rfl, rfl⟩ := hcs
    have hlm : len ≤ m := by rw [hmm]; split <;> omega
    refine ⟨hl, hm, ?_⟩
    have each : ∀ i, i < m → ∃ v : Nat → Int, ∀ j, j < n → w.cell? (ad.add (i * n + j)) = some (.int k (v j)) ∧ (Lit.int k (v j)).wf = true := by
      intro i hi
      obtain ⟨cs', h1, h2⟩ := hx i hi
      rw [hc] at h1
      obtain ⟨_, hlen, hcell⟩ := World.cells?_some h1
      obtain ⟨xs, n'', _, _, _, hxl, hfx⟩ := DataW.trod_array he h2
      have fld : ∀ j, j < n → ∃ z : Int, w.cell? (ad.add (i * n + j)) = some (.int k z) ∧ (Lit.int k z).wf = true := by
        intro j hj
        have g := hfx j hj
        rw [hc2, Nat.mul_one] at g
        have hxj : j < xs.length := by omega
        rw [List.getElem?_eq_getElem hxj] at g
        have hj' : j < cs'.length := by omega
        have e0 := hcell j hj
        rw [add_add, List.getElem?_eq_getElem hj'] at e0
        obtain ⟨z, hz, _, hw⟩ := DataW.trod_int he2 g
        rw [List.drop_eq_getElem_cons hj'] at hz
        have hz' := (List.cons.inj (show cs'[j] :: List.take 0 (List.drop (j + 1) cs') = [Value.int k z] from hz)).1
        exact ⟨z, by rw [← hz']; exact e0, hw⟩
      obtain ⟨v, hv⟩ := choose_lt fld
      exact ⟨v, hv⟩
    obtain ⟨V, hV⟩ := choose_lt each
    refine ⟨V, fun i hi => ?_⟩
    have h0 := (hV 0 (by omega) 0 hk0).1
    have hi' := hV i (by omega)
    obtain ⟨b, off, spot⟩ := ad
    have hspot : spot = none := by simpa [Addr.add] using World.cell?_spot h0
    subst hspot
    have hfin : ∀ j, j < n → w.cell? ⟨b, off + i * n + j, none⟩ = some (.int k (V i j)) ∧ (Lit.int k (V i j)).wf = true := by
      intro j hj
      have := hi' j hj
      rw [add_plain, ← Nat.add_assoc] at this
      exact this
    exact ⟨b, off, rfl, World.block_lt_of_cell? _ _ (hfin 0 hk0).1, hfin⟩
end
end Go.Proofs.YtpcpjmbfinpmlaaDoor
