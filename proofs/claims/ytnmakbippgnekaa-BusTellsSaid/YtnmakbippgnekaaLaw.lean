/- What a law is told of its arguments: integers, slices of integers, slices of structs of integers; each in the walk's own spelling. -/
import Derived.WalkKit
import Derived.ProofKit
import Derived.OpenShut
import Derived.ShutString
import Derived.ChangeOld
import Derived.Below
import Derived.ChangeArms
import Derived.Deep.Slices
set_option linter.unusedSimpArgs false
set_option linter.unusedVariables false
set_option linter.unusedSectionVars false
namespace Go.Proofs.Ytnmakbippgnekaa
open Go.ChangeShapes Go.WideShapes Go.ChangeAt Go.RowKit Go.Deep

/-- A slice of integers that came in. -/
def SlInts (k : IntKind) (w : World) (a : Option Addr) (len : Nat) (Z : Nat → Int) : Prop :=
  ∀ i, i < len → ∃ b off, a = some ⟨b, off, none⟩ ∧ b < w.heap.size ∧ w.cell? ⟨b, off + i, none⟩ = some (.int k (Z i)) ∧ (Lit.int k (Z i)).wf = true
/-- A slice of structs of integers that came in: the j-th field of the i-th element. -/
def SlRows (ks : List IntKind) (w : World) (a : Option Addr) (len : Nat) (V : Nat → Nat → Int) : Prop :=
  ∀ i, i < len → ∃ b off, a = some ⟨b, off, none⟩ ∧ b < w.heap.size ∧ ∀ j k, ks[j]? = some k → w.cell? ⟨b, off + i * ks.length + j, none⟩ = some (.int k (V i j)) ∧ (Lit.int k (V i j)).wf = true

def fieldsOk (P : Program) (fs : Array Field) (ks : List IntKind) : Bool :=
  (List.range ks.length).all fun j => match fs[j]?, ks[j]? with
    | some f, some k => f.offset == j && (P.cellsOf f.type == 1 && (match P.underlying f.type with | some (.int k') => k' == k | _ => false))
    | _, _ => false
theorem fieldsOk_at {P : Program} {fs : Array Field} {ks : List IntKind} (h : fieldsOk P fs ks = true) : ∀ (j : Nat) (k : IntKind), ks[j]? = some k → ∃ f : Field, fs[j]? = some f ∧ f.offset = j ∧ P.cellsOf f.type = 1 ∧ P.underlying f.type = some (.int k) := by
  intro j k hk
  have hj : j < ks.length := (List.getElem?_eq_some_iff.1 hk).1
  have := List.all_eq_true.1 h j (List.mem_range.2 hj)
  rw [hk] at this
  cases hf : fs[j]? with
  | none => simp [hf] at this
  | some f =>
    simp only [hf, Bool.and_eq_true, beq_iff_eq] at this
    obtain ⟨h1, h2, h3⟩ := this
    refine ⟨f, rfl, h1, h2, ?_⟩
    split at h3
    · rename_i k' hk'
      rw [hk']
      simp at h3
      rw [h3]
    · simp at h3

section
variable {H : Type} {enc : TypeId × Value → H} {P : Program} {w : World} {base : Nat} {spare : Nat → Bool} {held : Bool}
theorem sl_ints {t e : TypeId} {k : IntKind} {fuel len cap : Nat} {a : Option Addr} {x : DataW H × List MemPlace} (ht : P.underlying t = some (.slice e)) (he : P.underlying e = some (.int k)) (hc : P.cellsOf e = 1)
    (h : DataW.trod enc P w base spare held fuel t [.slice a len cap] = some x) : len ≤ cap ∧ cap ≤ maxLen ∧ ∃ Z, SlInts k w a len Z := by
  rcases open_slice ht h with ⟨h0, _⟩ | ⟨ad, len', cap', m, n, D, Pl, hcs, hb, hl, hm, hmm, rfl, hx⟩
  · simp at h0
    obtain ⟨rfl, rfl, rfl⟩ := h0
    exact ⟨Nat.le_refl _, by simp [maxLen], fun _ => 0, fun i hi => absurd hi (by omega)⟩
  · simp at hcs
    obtain ⟨rfl, rfl, rfl⟩ := hcs
    have hlm : len ≤ m := by rw [hmm]; split <;> omega
    refine ⟨hl, hm, ?_⟩
    have each : ∀ i, i < m → ∃ z : Int, w.cell? (ad.add i) = some (.int k z) ∧ (Lit.int k z).wf = true := by
      intro i hi
      obtain ⟨cs', h1, h2⟩ := hx i hi
      rw [hc] at h1
      obtain ⟨_, hlen, hcell⟩ := World.cells?_some h1
      obtain ⟨z, rfl, _, hz⟩ := DataW.trod_int he h2
      have e0 := hcell 0 (by omega)
      simp only [Nat.mul_one] at e0
      refine ⟨z, ?_, hz⟩
      simpa [Addr.add] using e0
    obtain ⟨Z, hZ⟩ := choose_lt each
    refine ⟨Z, fun i hi => ?_⟩
    have h0 := (hZ 0 (by omega)).1
    have hi' := hZ i (by omega)
    obtain ⟨b, off, spot⟩ := ad
    have hspot : spot = none := by simpa [Addr.add] using World.cell?_spot h0
    subst hspot
    rw [add_plain] at hi'
    exact ⟨b, off, rfl, World.block_lt_of_cell? _ _ hi'.1, hi'.1, hi'.2⟩

theorem sl_rows {t e : TypeId} {fs : Array Field} {ks : List IntKind} {fuel len cap : Nat} {a : Option Addr} {x : DataW H × List MemPlace} (ht : P.underlying t = some (.slice e)) (he : P.underlying e = some (.struct fs)) (hc : P.cellsOf e = ks.length)
    (hk0 : 0 < ks.length) (hf' : fieldsOk P fs ks = true)
    (h : DataW.trod enc P w base spare held fuel t [.slice a len cap] = some x) : len ≤ cap ∧ cap ≤ maxLen ∧ ∃ V, SlRows ks w a len V := by
  have hf := fieldsOk_at hf'
  rcases open_slice ht h with ⟨h0, _⟩ | ⟨ad, len', cap', m, n, D, Pl, hcs, hb, hl, hm, hmm, rfl, hx⟩
  · simp at h0
    obtain ⟨rfl, rfl, rfl⟩ := h0
    exact ⟨Nat.le_refl _, by simp [maxLen], fun _ _ => 0, fun i hi => absurd hi (by omega)⟩
  · simp at hcs
    obtain ⟨rfl, rfl, rfl⟩ := hcs
    have hlm : len ≤ m := by rw [hmm]; split <;> omega
    refine ⟨hl, hm, ?_⟩
    have each : ∀ i, i < m → ∃ v : Nat → Int, ∀ j k, ks[j]? = some k → w.cell? (ad.add (i * ks.length + j)) = some (.int k (v j)) ∧ (Lit.int k (v j)).wf = true := by
      intro i hi
      obtain ⟨cs', h1, h2⟩ := hx i hi
      rw [hc] at h1
      obtain ⟨_, hlen, hcell⟩ := World.cells?_some h1
      obtain ⟨xs, n', _, _, _, hxl, hfx⟩ := DataW.trod_struct he h2
      have fld : ∀ j, j < ks.length → ∃ z : Int, ∀ k, ks[j]? = some k → w.cell? (ad.add (i * ks.length + j)) = some (.int k z) ∧ (Lit.int k z).wf = true := by
        intro j hj
        obtain ⟨f, hfj, ho, hfc, hfu⟩ := hf j _ (List.getElem?_eq_getElem hj)
        have g := hfx j f hfj
        rw [ho, hfc] at g
        have hxj : j < xs.length := by
          have := (Array.getElem?_eq_some_iff.1 hfj).1
          omega
        rw [List.getElem?_eq_getElem hxj] at g
        obtain ⟨z, hz, _, hw⟩ := DataW.trod_int hfu g
        refine ⟨z, fun k hk => ?_⟩
        rw [List.getElem?_eq_getElem hj] at hk
        injection hk with hk
        subst hk
        refine ⟨?_, hw⟩
        have e0 := hcell j hj
        rw [add_add] at e0
        rw [e0]
        have hj' : j < cs'.length := by omega
        have hz' : cs'[j] = Value.int ks[j] z := by
          rw [List.drop_eq_getElem_cons hj'] at hz
          exact (List.cons.inj (show cs'[j] :: List.take 0 (List.drop (j + 1) cs') = [Value.int ks[j] z] from hz)).1
        rw [List.getElem?_eq_getElem hj', hz']
      obtain ⟨v, hv⟩ := choose_lt fld
      exact ⟨v, fun j k hk => hv j (List.getElem?_eq_some_iff.1 hk).1 k hk⟩
    obtain ⟨V, hV⟩ := choose_lt each
    refine ⟨V, fun i hi => ?_⟩
    have h0 := (hV 0 (by omega) 0 _ (List.getElem?_eq_getElem hk0)).1
    have hi' := hV i (by omega)
    obtain ⟨b, off, spot⟩ := ad
    have hspot : spot = none := by simpa [Addr.add] using World.cell?_spot h0
    subst hspot
    have hfin : ∀ j k, ks[j]? = some k → w.cell? ⟨b, off + i * ks.length + j, none⟩ = some (.int k (V i j)) ∧ (Lit.int k (V i j)).wf = true := by
      intro j k hk
      have := hi' j k hk
      rw [add_plain, ← Nat.add_assoc] at this
      exact this
    exact ⟨b, off, rfl, World.block_lt_of_cell? _ _ (hfin 0 _ (List.getElem?_eq_getElem hk0)).1, hfin⟩
end
end Go.Proofs.Ytnmakbippgnekaa
