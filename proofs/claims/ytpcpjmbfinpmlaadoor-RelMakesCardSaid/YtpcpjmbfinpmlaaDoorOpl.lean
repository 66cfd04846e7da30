/- Putting things in order: plain. -/
import Derived.Test.YtpcpjmbfinpmlaaDoorRof
import Derived.Test.YtpcpjmbfinpmlaaDoorPsh
set_option linter.unusedSimpArgs false
set_option linter.unusedVariables false
set_option linter.unusedSectionVars false
namespace Go.Proofs.YtpcpjmbfinpmlaaDoor
open Go.RowKit
set_option maxRecDepth 100000

theorem pig : ∀ (n m : Nat) (f : Nat → Nat), (∀ i, i < m → f i < n) → (∀ i j, i < m → j < m → f i = f j → i = j) → m ≤ n
  | 0, m, f, h, _ => by
    rcases Nat.eq_zero_or_pos m with e | e
    · omega
    · have := h 0 e
      omega
  | n + 1, m, f, h, hi => by
    by_cases hx : ∃ i, i < m ∧ f i = n
    · obtain ⟨i0, h0, e0⟩ := hx
      have := pig n (m - 1) (fun i => f (if i < i0 then i else i + 1)) (fun i hm => by
        show f (if i < i0 then i else i + 1) < n
        split
        · have h1 := h i (by omega)
          have h2 : f i ≠ n := fun e => by
            have := hi i i0 (by omega) h0 (e.trans e0.symm)
            omega
          omega
        · have h1 := h (i + 1) (by omega)
          have h2 : f (i + 1) ≠ n := fun e => by
            have := hi (i + 1) i0 (by omega) h0 (e.trans e0.symm)
            omega
          omega) (fun i j hi' hj' e => by
        have := hi _ _ (by split <;> omega) (by split <;> omega) e
        split at this <;> split at this <;> omega)
      omega
    · have := pig n m f (fun i hm => by
        have h1 := h i hm
        have h2 : f i ≠ n := fun e => hx ⟨i, hm, e⟩
        omega) hi
      omega
/-- How many must come ahead. -/
def cn (p : Nat → Bool) (k : Nat) : Nat := (List.range k).countP p
theorem cn_succ (p : Nat → Bool) (k : Nat) : cn p (k + 1) = cn p k + (if p k = true then 1 else 0) := by
  unfold cn
  rw [List.range_succ, List.countP_append]
  simp [List.countP_cons]
theorem cn_le (p : Nat → Bool) : ∀ k, cn p k ≤ k
  | 0 => Nat.le_refl _
  | k + 1 => by have := cn_le p k; rw [cn_succ]; split <;> omega
theorem cn_congr {p q : Nat → Bool} : ∀ {k : Nat}, (∀ i, i < k → p i = q i) → cn p k = cn q k
  | 0, _ => rfl
  | k + 1, h => by rw [cn_succ, cn_succ, cn_congr (k := k) fun i hi => h i (by omega), h k (by omega)]
theorem cn_drop {p q : Nat → Bool} {a : Nat} (h : ∀ i, p i = (q i && decide (i ≠ a))) : ∀ {k : Nat}, a < k → cn p k + (if q a = true then 1 else 0) = cn q k
  | 0, hk => absurd hk (by omega)
  | k + 1, hk => by
    rw [cn_succ, cn_succ]
    by_cases e : a = k
    · subst e
      have h1 : p a = false := by rw [h]; simp
      have h2 : cn p a = cn q a := cn_congr fun i hi => by
        rw [h]
        have : decide (i ≠ a) = true := by simp; omega
        rw [this, Bool.and_true]
      rw [h1, h2]
      simp
    · have ih := cn_drop h (k := k) (by omega)
      have h1 : p k = q k := by
        rw [h]
        have : decide (k ≠ a) = true := by simp; omega
        rw [this, Bool.and_true]
      rw [h1]
      omega
theorem cn_zero {p : Nat → Bool} : ∀ {k : Nat}, cn p k = 0 ↔ ∀ i, i < k → p i = false
  | 0 => ⟨fun _ i h => absurd h (by omega), fun _ => rfl⟩
  | k + 1 => by
    rw [cn_succ]
    constructor
    · intro h i hi
      by_cases e : i = k
      · subst e
        cases hp : p i
        · rfl
        · rw [hp] at h; simp at h
      · exact (cn_zero (k := k)).1 (by omega) i (by omega)
    · intro h
      rw [(cn_zero (k := k)).2 fun i hi => h i (by omega), h k (by omega)]
      rfl
def wts (r : Rn) (L : List Nat) (b : Nat) : Nat := cn (fun a => r a b && !(L.contains a)) 64
theorem wts_le (r : Rn) (L : List Nat) (b : Nat) : wts r L b ≤ 64 := cn_le _ _
theorem wts_zero {r : Rn} {L : List Nat} {b : Nat} : wts r L b = 0 ↔ ∀ a, a < 64 → r a b = true → a ∈ L := by
  unfold wts
  rw [cn_zero]
  constructor
  · intro h a ha hr
    have := h a ha
    rw [hr] at this
    simpa using this
  · intro h a ha
    cases hr : r a b
    · rfl
    · have := h a ha hr
      simp [this]
theorem wts_app {r : Rn} {L : List Nat} {a : Nat} (ha : a < 64) (hn : a ∉ L) (b : Nat) : wts r (L ++ [a]) b + (if r a b = true then 1 else 0) = wts r L b := by
  unfold wts
  have := cn_drop (p := fun x => r x b && !((L ++ [a]).contains x)) (q := fun x => r x b && !(L.contains x)) (a := a) (fun i => by
    by_cases e : i = a
    · subst e; simp
    · simp [e, Bool.and_assoc]) ha
  have e2 : (r a b && !(L.contains a)) = r a b := by
    have : L.contains a = false := by simpa using hn
    rw [this]; simp
  simp only [e2] at this
  exact this
theorem wts_first (r : Rn) {b : Nat} (hb : b < 64) : ((prs r).countP fun p => p.2 == b) = wts r [] b := by
  have e : ∀ k, (prsK r k).countP (fun p => p.2 == b) = cn (fun a => r a b && !(([] : List Nat).contains a)) k := by
    intro k
    induction k with
    | zero => rfl
    | succ k ih =>
      have h1 : prsK r (k + 1) = prsK r k ++ prow r k 64 := rfl
      rw [h1, List.countP_append, ih, cn_succ]
      congr 1
      have h2 : ∀ t, (prow r k t).countP (fun p => p.2 == b) = if b < t ∧ r k b = true then 1 else 0 := by
        intro t
        induction t with
        | zero => simp [prow, some_]
        | succ t iht =>
          cases hr : r k t
          · rw [prow_skip (r := r) (a := k) (t := t) (u := t + 1) (by omega) (fun i h1 h2 => by
              obtain rfl : i = t := by omega
              exact hr), iht]
            by_cases e : b = t
            · subst e; simp [hr]
            · have : (b < t + 1) = (b < t) := by apply propext; omega
              simp only [this]
          · rw [prow_take hr, List.countP_append, iht]
            by_cases e : b = t
            · subst e; simp [hr]
            · have h3 : (t == b) = false := by simp; omega
              have : (b < t + 1) = (b < t) := by apply propext; omega
              simp [this, h3]
      rw [h2 64]
      simp [hb]
  exact e 64
/-- What is free behind some. -/
def Free (r : Rn) (n : Nat) (L : List Nat) (b : Nat) : Prop := b < n ∧ b ∉ L ∧ wts r L b = 0
def Least (r : Rn) (n : Nat) (L : List Nat) (b : Nat) : Prop := Free r n L b ∧ ∀ c, Free r n L c → b ≤ c
inductive Ords (r : Rn) (n : Nat) : List Nat → Prop
  | nil : Ords r n []
  | snoc {L : List Nat} {b : Nat} (h : Ords r n L) (hl : Least r n L b) : Ords r n (L ++ [b])
def OrdF (r : Rn) (n : Nat) (L : List Nat) : Prop := Ords r n L ∧ ∀ b, ¬ Free r n L b
theorem Ords.lt {r : Rn} {n : Nat} {L : List Nat} (h : Ords r n L) : (∀ x, x ∈ L → x < n) ∧ L.Nodup ∧ ∀ x, x ∈ L → wts r L x = 0 := by
  induction h with
  | nil => exact ⟨fun x hx => (by cases hx), List.nodup_nil, fun x hx => (by cases hx)⟩
  | @snoc L b h hl ih =>
    obtain ⟨i1, i2, i3⟩ := ih
    refine ⟨fun x hx => ?_, ?_, fun x hx => ?_⟩
    · rcases List.mem_append.1 hx with h1 | h1
      · exact i1 x h1
      · obtain rfl := List.mem_singleton.1 h1
        exact hl.1.1
    · refine List.nodup_append.2 ⟨i2, by simp, fun a ha c hc => ?_⟩
      obtain rfl := List.mem_singleton.1 hc
      intro e
      subst e
      exact hl.1.2.1 ha
    · have h0 : wts r L x = 0 := by
        rcases List.mem_append.1 hx with h1 | h1
        · exact i3 x h1
        · obtain rfl := List.mem_singleton.1 h1
          exact hl.1.2.2
      rw [wts_zero] at h0 ⊢
      exact fun a ha hr => List.mem_append_left _ (h0 a ha hr)
theorem Ords.len {r : Rn} {n : Nat} {L : List Nat} (h : Ords r n L) : L.length ≤ n := by
  have hl := h.lt
  refine pig n L.length (fun i => L.getD i 0) (fun i hi => ?_) (fun i j hi hj e => ?_)
  · have e : L.getD i 0 = L[i] := by simp [List.getD_eq_getElem?_getD, hi]
    show L.getD i 0 < n
    rw [e]
    exact hl.1 _ (List.getElem_mem hi)
  · have e1 : L.getD i 0 = L[i] := by simp [List.getD_eq_getElem?_getD, hi]
    have e2 : L.getD j 0 = L[j] := by simp [List.getD_eq_getElem?_getD, hj]
    have e' : L[i] = L[j] := by
      rw [← e1, ← e2]; exact e
    exact (List.getElem_inj hl.2.1).1 e'
theorem Ords.same {r : Rn} {n : Nat} {L : List Nat} (h : Ords r n L) : ∀ {L' : List Nat}, Ords r n L' → L.length = L'.length → L = L' := by
  induction h with
  | nil =>
    intro L' h' e
    exact (List.length_eq_zero_iff.1 e.symm).symm
  | @snoc L b h hl ih =>
    intro L' h' e
    cases h' with
    | nil => simp at e
    | @snoc L2 b2 h2 hl2 =>
      obtain rfl := ih h2 (by simpa using e)
      have h3 := hl.2 _ hl2.1
      have h4 := hl2.2 _ hl.1
      obtain rfl : b = b2 := by omega
      rfl
theorem Ords.take {r : Rn} {n : Nat} {L : List Nat} (h : Ords r n L) : ∀ k, k < L.length → Ords r n (L.take k) ∧ ∃ b, Least r n (L.take k) b := by
  induction h with
  | nil => intro k hk; simp at hk
  | @snoc L b h hl ih =>
    intro k hk
    by_cases e : k = L.length
    · subst e
      rw [List.take_left]
      exact ⟨h, b, hl⟩
    · have : k < L.length := by simp at hk; omega
      rw [List.take_append_of_le_length (by omega)]
      exact ih k this
theorem OrdF.unique {r : Rn} {n : Nat} {L L' : List Nat} (h : OrdF r n L) (h' : OrdF r n L') : L = L' := by
  rcases Nat.lt_trichotomy L.length L'.length with e | e | e
  · obtain ⟨h1, b, h2⟩ := h'.1.take _ e
    have := h.1.same h1 (by rw [List.length_take]; omega)
    rw [← this] at h2
    exact absurd h2.1 (h.2 b)
  · exact h.1.same h'.1 e
  · obtain ⟨h1, b, h2⟩ := h.1.take _ e
    have := h'.1.same h1 (by rw [List.length_take]; omega)
    rw [← this] at h2
    exact absurd h2.1 (h'.2 b)
/-- The heap holds just some. -/
structure Fs (P : Nat → Prop) (m : Nat) (V : Nat → Int) : Prop where
  fw : ∀ j, j < m → ∃ b : Nat, P b ∧ V j = (b : Int)
  bw : ∀ b, P b → ∃ j, j < m ∧ V j = (b : Int)
  inj : ∀ i j, i < m → j < m → V i = V j → i = j
  hp : Hp ltM V 0 m
theorem Fs.first (V : Nat → Int) : Fs (fun _ => False) 0 V := ⟨fun j h => absurd h (by omega), fun b h => h.elim, fun i j h => absurd h (by omega), Hp.end (by omega)⟩
theorem Fs.congr {P Q : Nat → Prop} {m : Nat} {V : Nat → Int} (h : Fs P m V) (e : ∀ b, P b ↔ Q b) : Fs Q m V :=
  ⟨fun j hj => by obtain ⟨b, hb, h2⟩ := h.fw j hj; exact ⟨b, (e b).1 hb, h2⟩, fun b hb => h.bw b ((e b).2 hb), h.inj, h.hp⟩
theorem Fs.le {P : Nat → Prop} {m n : Nat} {V : Nat → Int} (h : Fs P m V) (hn : ∀ b, P b → b < n) : m ≤ n := by
  refine pig n m (fun i => (V i).toNat) (fun i hi => ?_) (fun i j hi hj e => ?_)
  · obtain ⟨b, hb, e⟩ := h.fw i hi
    show (V i).toNat < n
    rw [e]
    simpa using hn b hb
  · obtain ⟨b, hb, e1⟩ := h.fw i hi
    obtain ⟨c, hc, e2⟩ := h.fw j hj
    have e3 : (V i).toNat = (V j).toNat := e
    rw [e1, e2] at e3
    have e4 : b = c := by simpa using e3
    exact h.inj i j hi hj (by rw [e1, e2, e4])
theorem Fs.push {P : Nat → Prop} {m b : Nat} {V V' : Nat → Int} (h : Fs P m V) (hb : ¬ P b) (hp : Hp ltM V' 0 (m + 1)) (pm : Perm (m + 1) (upd V m (b : Int)) V') : Fs (fun x => P x ∨ x = b) (m + 1) V' := by
  refine ⟨fun j hj => ?_, fun c hc => ?_, ?_, hp⟩
  · obtain ⟨i, hi, e⟩ := pm.bw j hj
    rcases Nat.lt_or_ge i m with h1 | h1
    · obtain ⟨c, hc, e2⟩ := h.fw i h1
      rw [upd_other _ _ (by omega)] at e
      exact ⟨c, .inl hc, e.symm.trans e2⟩
    · obtain rfl : i = m := by omega
      rw [upd_same] at e
      exact ⟨b, .inr rfl, e.symm⟩
  · rcases hc with hc | rfl
    · obtain ⟨i, hi, e⟩ := h.bw c hc
      obtain ⟨j, hj, e2⟩ := pm.fw i (by omega)
      rw [upd_other _ _ (by omega)] at e2
      exact ⟨j, hj, e2.trans e⟩
    · obtain ⟨j, hj, e2⟩ := pm.fw m (by omega)
      rw [upd_same] at e2
      exact ⟨j, hj, e2⟩
  · refine pm.inj fun i j hi hj e => ?_
    by_cases h1 : i = m
    · by_cases h2 : j = m
      · omega
      · subst h1
        rw [upd_same, upd_other _ _ h2] at e
        obtain ⟨c, hc, e2⟩ := h.fw j (by omega)
        have : c = b := by omega
        exact absurd (this ▸ hc) hb
    · by_cases h2 : j = m
      · subst h2
        rw [upd_same, upd_other _ _ h1] at e
        obtain ⟨c, hc, e2⟩ := h.fw i (by omega)
        have : c = b := by omega
        exact absurd (this ▸ hc) hb
      · rw [upd_other _ _ h1, upd_other _ _ h2] at e
        exact h.inj i j (by omega) (by omega) e
theorem Fs.pop {P : Nat → Prop} {m : Nat} {V V' : Nat → Int} (h : Fs P (m + 1) V) (hp : Hp ltM V' 0 m) (pm : Perm m (swp V 0 m) V') : ∃ a : Nat, V 0 = (a : Int) ∧ P a ∧ (∀ c, P c → a ≤ c) ∧ Fs (fun x => P x ∧ x ≠ a) m V' := by
  obtain ⟨a, ha, e0⟩ := h.fw 0 (by omega)
  refine ⟨a, e0, ha, fun c hc => ?_, fun j hj => ?_, fun c hc => ?_, pm.inj fun i j hi hj e => ?_, hp⟩
  · obtain ⟨k, hk, e⟩ := h.bw c hc
    have := h.hp.least ordM k hk
    rw [e0, e] at this
    simp [ltM] at this
    omega
  · obtain ⟨i, hi, e⟩ := pm.bw j hj
    have hx : ∃ k, k < m + 1 ∧ k ≠ 0 ∧ swp V 0 m i = V k := by
      by_cases h0 : i = 0
      · subst h0; exact ⟨m, by omega, by omega, swp_i V 0 m⟩
      · exact ⟨i, by omega, h0, swp_o V h0 (by omega)⟩
    obtain ⟨k, hk, hk0, e2⟩ := hx
    obtain ⟨c, hc, e3⟩ := h.fw k hk
    refine ⟨c, ⟨hc, fun hca => ?_⟩, e.symm.trans (e2.trans e3)⟩
    subst hca
    exact hk0 (h.inj k 0 hk (by omega) (e3.trans e0.symm))
  · obtain ⟨k, hk, e⟩ := h.bw c hc.1
    have hk0 : k ≠ 0 := fun h0 => by
      subst h0
      rw [e0] at e
      exact hc.2 (by omega)
    have hx : ∃ i, i < m ∧ swp V 0 m i = V k := by
      by_cases h1 : k = m
      · subst h1; exact ⟨0, by omega, swp_i V 0 k⟩
      · exact ⟨k, by omega, swp_o V hk0 h1⟩
    obtain ⟨i, hi, e2⟩ := hx
    obtain ⟨j, hj, e3⟩ := pm.fw i hi
    exact ⟨j, hj, e3.trans (e2.trans e)⟩
  · have hx : ∀ i, i < m → ∃ k, k < m + 1 ∧ swp V 0 m i = V k ∧ ((i = 0 ∧ k = m) ∨ (i ≠ 0 ∧ k = i)) := fun i hi => by
      by_cases h0 : i = 0
      · subst h0; exact ⟨m, by omega, swp_i V 0 m, .inl ⟨rfl, rfl⟩⟩
      · exact ⟨i, by omega, swp_o V h0 (by omega), .inr ⟨h0, rfl⟩⟩
    obtain ⟨k, hk, e1, c1⟩ := hx i hi
    obtain ⟨l, hl, e2, c2⟩ := hx j hj
    rw [e1, e2] at e
    have := h.inj k l hk hl e
    omega
end Go.Proofs.YtpcpjmbfinpmlaaDoor
