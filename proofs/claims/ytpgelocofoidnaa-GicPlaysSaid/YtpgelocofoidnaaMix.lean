/- A slice of structs of integers and bools that came in. -/
import Derived.Test.YtpgelocofoidnaaLaw
set_option linter.unusedSimpArgs false
set_option linter.unusedVariables false
set_option linter.unusedSectionVars false
namespace Go.Proofs.Ytpgelocofoidnaa
open Go.ChangeShapes Go.WideShapes Go.ChangeAt Go.RowKit Go.Deep

/-- A field: an integer of a kind, or a bool. -/
def FkOk (k : Option IntKind) (v : Value) : Prop :=
  match k with
  | some k => ∃ z : Int, v = .int k z ∧ (Lit.int k z).wf = true
  | none => ∃ b : Bool, v = .bool b
/-- A slice of structs that came in: the j-th field of the i-th element. -/
def SlMix (ks : List (Option IntKind)) (w : World) (a : Option Addr) (len : Nat) (V : Nat → Nat → Value) : Prop :=
  ∀ i, i < len → ∃ b off, a = some ⟨b, off, none⟩ ∧ b < w.heap.size ∧ ∀ j k, ks[j]? = some k → w.cell? ⟨b, off + i * ks.length + j, none⟩ = some (V i j) ∧ FkOk k (V i j)
def mixOk (P : Program) (fs : Array Field) (ks : List (Option IntKind)) : Bool :=
  (List.range ks.length).all fun j => match fs[j]?, ks[j]? with
    | some f, some (some k) => f.offset == j && (P.cellsOf f.type == 1 && (match P.underlying f.type with | some (.int k') => k' == k | _ => false))
    | some f, some none => f.offset == j && (P.cellsOf f.type == 1 && (match P.underlying f.type with | some .bool => true | _ => false))
    | _, _ => false
def FkTy (P : Program) (t : TypeId) (k : Option IntKind) : Prop := match k with | some k => P.underlying t = some (.int k) | none => P.underlying t = some .bool
theorem mixOk_at {P : Program} {fs : Array Field} {ks : List (Option IntKind)} (h : mixOk P fs ks = true) : ∀ (j : Nat) (k : Option IntKind), ks[j]? = some k → ∃ f : Field, fs[j]? = some f ∧ f.offset = j ∧ P.cellsOf f.type = 1 ∧ FkTy P f.type k := by
  intro j k hk
  have hj : j < ks.length := (List.getElem?_eq_some_iff.1 hk).1
  have := List.all_eq_true.1 h j (List.mem_range.2 hj)
  rw [hk] at this
  cases hf : fs[j]? with
  | none => simp [hf] at this
  | some f =>
    cases k with
    | some k =>
      simp only [hf, Bool.and_eq_true, beq_iff_eq] at this
      obtain ⟨h1, h2, h3⟩ := this
      refine ⟨f, rfl, h1, h2, ?_⟩
      split at h3
      · rename_i k' hk'
        unfold FkTy
        simp only
        rw [hk']
        simp at h3
        rw [h3]
      · simp at h3
    | none =>
      simp only [hf, Bool.and_eq_true, beq_iff_eq] at this
      obtain ⟨h1, h2, h3⟩ := this
      refine ⟨f, rfl, h1, h2, ?_⟩
      split at h3
      · rename_i hk'
        exact hk'
      · simp at h3
section
variable {H : Type} {enc : TypeId × Value → H} {P : Program} {w : World} {base : Nat} {spare : Nat → Bool} {held : Bool}
theorem sl_mix {t e : TypeId} {fs : Array Field} {ks : List (Option IntKind)} {fuel len cap : Nat} {a : Option Addr} {x : DataW H × List MemPlace} (ht : P.underlying t = some (.slice e)) (he : P.underlying e = some (.struct fs)) (hc : P.cellsOf e = ks.length)
    (hk0 : 0 < ks.length) (hf' : mixOk P fs ks = true)
    (h : DataW.trod enc P w base spare held fuel t [.slice a len cap] = some x) : len ≤ cap ∧ cap ≤ maxLen ∧ ∃ V, SlMix ks w a len V := by
  have hf := mixOk_at hf'
  rcases open_slice ht h with ⟨h0, _⟩ | ⟨ad, len', cap', m, n, D, Pl, hcs, hb, hl, hm, hmm, rfl, hx⟩
  · simp at h0
    obtain ⟨rfl, rfl, rfl⟩ := h0
    exact ⟨Nat.le_refl _, by simp [maxLen], fun _ _ => undef, fun i hi => absurd hi (by omega)⟩
  · simp at hcs
    obtain ⟨rfl, rfl, rfl⟩ := hcs
    have hlm : len ≤ m := by rw [hmm]; split <;> omega
    refine ⟨hl, hm, ?_⟩
    have each : ∀ i, i < m → ∃ v : Nat → Value, ∀ j k, ks[j]? = some k → w.cell? (ad.add (i * ks.length + j)) = some (v j) ∧ FkOk k (v j) := by
      intro i hi
      obtain ⟨cs', h1, h2⟩ := hx i hi
      rw [hc] at h1
      obtain ⟨_, hlen, hcell⟩ := World.cells?_some h1
      obtain ⟨xs, n', _, _, _, hxl, hfx⟩ := DataW.trod_struct he h2
      have fld : ∀ j, j < ks.length → ∃ v : Value, ∀ k, ks[j]? = some k → w.cell? (ad.add (i * ks.length + j)) = some v ∧ FkOk k v := by
        intro j hj
        obtain ⟨f, hfj, ho, hfc, hfu⟩ := hf j _ (List.getElem?_eq_getElem hj)
        have g := hfx j f hfj
        rw [ho, hfc] at g
        have hxj : j < xs.length := by
          have := (Array.getElem?_eq_some_iff.1 hfj).1
          omega
        rw [List.getElem?_eq_getElem hxj] at g
        have hj' : j < cs'.length := by omega
        have e0 := hcell j hj
        rw [add_add, List.getElem?_eq_getElem hj'] at e0
        refine ⟨cs'[j], fun k hk => ⟨e0, ?_⟩⟩
        rw [List.getElem?_eq_getElem hj] at hk
        injection hk with hk
        rw [hk] at hfu
        cases k with
        | some k =>
          obtain ⟨z, hz, _, hw⟩ := DataW.trod_int hfu g
          refine ⟨z, ?_, hw⟩
          rw [List.drop_eq_getElem_cons hj'] at hz
          exact (List.cons.inj (show cs'[j] :: List.take 0 (List.drop (j + 1) cs') = [Value.int k z] from hz)).1
        | none =>
          obtain ⟨b, hz, _⟩ := DataW.trod_bool hfu g
          refine ⟨b, ?_⟩
          rw [List.drop_eq_getElem_cons hj'] at hz
          exact (List.cons.inj (show cs'[j] :: List.take 0 (List.drop (j + 1) cs') = [Value.bool b] from hz)).1
      obtain ⟨v, hv⟩ := choose_lt fld
      exact ⟨v, fun j k hk => hv j (List.getElem?_eq_some_iff.1 hk).1 k hk⟩
    obtain ⟨V, hV⟩ := choose_lt each
    refine ⟨V, fun i hi => ?_⟩
    have h0 := (hV 0 (by omega) 0 _ (List.getElem?_eq_getElem hk0)).1
    have hi' := hV i (by omega)
    obtain ⟨b, off, spot⟩ := ad
    have hspot : spot = none := by simpa [Addr.add] using World.cell?_spot h0
    subst hspot
    have hfin : ∀ j k, ks[j]? = some k → w.cell? ⟨b, off + i * ks.length + j, none⟩ = some (V i j) ∧ FkOk k (V i j) := by
      intro j k hk
      have := hi' j k hk
      rw [add_plain, ← Nat.add_assoc] at this
      exact this
    exact ⟨b, off, rfl, World.block_lt_of_cell? _ _ (hfin 0 _ (List.getElem?_eq_getElem hk0)).1, hfin⟩
end
end Go.Proofs.Ytpgelocofoidnaa
