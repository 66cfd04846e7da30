/- Heaps, in plain Lean: a function on the first n numbers; what sifting down and up does. -/
import Derived.Test.YtnmakbippgnekaaBase
set_option linter.unusedSimpArgs false
set_option linter.unusedSectionVars false
namespace Go.Proofs.Ytnmakbippgnekaa
set_option linter.unusedVariables false

section
variable {α : Type} (lt : α → α → Bool)
def swp (V : Nat → α) (i j : Nat) : Nat → α := fun k => if k = i then V j else if k = j then V i else V k
/-- What sifting down does: from i on, below n. -/
def downF : Nat → (Nat → α) → Nat → Nat → Nat → α
  | 0, V, _, _ => V
  | f + 1, V, i, n =>
    if 2 * i + 1 < n then
      let j := if 2 * i + 2 < n ∧ lt (V (2 * i + 2)) (V (2 * i + 1)) = true then 2 * i + 2 else 2 * i + 1
      if lt (V j) (V i) = true then downF f (swp V i j) j n else V
    else V
def upF : Nat → (Nat → α) → Nat → Nat → α
  | 0, V, _ => V
  | f + 1, V, j => if j = 0 then V else if lt (V j) (V ((j - 1) / 2)) = true then upF f (swp V ((j - 1) / 2) j) ((j - 1) / 2) else V
/-- The same things, each in one place still. -/
structure Perm (n : Nat) (V W : Nat → α) : Prop where
  fw : ∀ k, k < n → ∃ i, i < n ∧ W i = V k
  bw : ∀ k, k < n → ∃ i, i < n ∧ V i = W k
  inj : (∀ i j, i < n → j < n → V i = V j → i = j) → ∀ i j, i < n → j < n → W i = W j → i = j
  out : ∀ k, n ≤ k → W k = V k
variable {lt}
theorem downF_go {f : Nat} {V : Nat → α} {i j n : Nat} (h1 : 2 * i + 1 < n) (hj : (if 2 * i + 2 < n ∧ lt (V (2 * i + 2)) (V (2 * i + 1)) = true then 2 * i + 2 else 2 * i + 1) = j) (hl : lt (V j) (V i) = true) : downF lt (f + 1) V i n = downF lt f (swp V i j) j n := by
  subst hj
  simp only [downF]
  rw [if_pos h1, if_pos hl]
theorem downF_stay {f : Nat} {V : Nat → α} {i j n : Nat} (h1 : 2 * i + 1 < n) (hj : (if 2 * i + 2 < n ∧ lt (V (2 * i + 2)) (V (2 * i + 1)) = true then 2 * i + 2 else 2 * i + 1) = j) (hl : lt (V j) (V i) = false) : downF lt (f + 1) V i n = V := by
  subst hj
  simp only [downF]
  rw [if_pos h1, if_neg (by rw [hl]; simp)]
theorem downF_end {f : Nat} {V : Nat → α} {i n : Nat} (h1 : n ≤ 2 * i + 1) : downF lt f V i n = V := by
  cases f with
  | zero => rfl
  | succ f => simp only [downF]; rw [if_neg (by omega)]
theorem upF_go {f : Nat} {V : Nat → α} {j : Nat} (h0 : j ≠ 0) (hl : lt (V j) (V ((j - 1) / 2)) = true) : upF lt (f + 1) V j = upF lt f (swp V ((j - 1) / 2) j) ((j - 1) / 2) := by
  simp only [upF]
  rw [if_neg h0, if_pos hl]
theorem upF_stay {f : Nat} {V : Nat → α} {j : Nat} (hl : j = 0 ∨ lt (V j) (V ((j - 1) / 2)) = false) : upF lt (f + 1) V j = V := by
  simp only [upF]
  rcases hl with h | h
  · rw [if_pos h]
  · split
    · rfl
    · rw [if_neg (by rw [h]; simp)]
theorem Perm.refl (n : Nat) (V : Nat → α) : Perm n V V := ⟨fun k h => ⟨k, h, rfl⟩, fun k h => ⟨k, h, rfl⟩, fun h => h, fun _ _ => rfl⟩
theorem Perm.trans {n : Nat} {U V W : Nat → α} (h : Perm n U V) (k : Perm n V W) : Perm n U W :=
  ⟨fun i hi => by obtain ⟨j, hj, e⟩ := h.fw i hi; obtain ⟨l, hl, e2⟩ := k.fw j hj; exact ⟨l, hl, e2.trans e⟩,
    fun i hi => by obtain ⟨j, hj, e⟩ := k.bw i hi; obtain ⟨l, hl, e2⟩ := h.bw j hj; exact ⟨l, hl, e2.trans e⟩,
    fun hi => k.inj (h.inj hi), fun i hi => (k.out i hi).trans (h.out i hi)⟩
theorem Perm.mono {n m : Nat} {V W : Nat → α} (h : Perm n V W) (hm : n ≤ m) : Perm m V W := by
  refine ⟨fun k hk => ?_, fun k hk => ?_, fun hi i j hi' hj' e => ?_, fun k hk => h.out k (by omega)⟩
  · rcases Nat.lt_or_ge k n with hn | hn
    · obtain ⟨i, hi, e⟩ := h.fw k hn; exact ⟨i, by omega, e⟩
    · exact ⟨k, hk, h.out k hn⟩
  · rcases Nat.lt_or_ge k n with hn | hn
    · obtain ⟨i, hi, e⟩ := h.bw k hn; exact ⟨i, by omega, e⟩
    · exact ⟨k, hk, (h.out k hn).symm⟩
  · have hi2 : ∀ i j, i < n → j < n → V i = V j → i = j := fun i j a b => hi i j (by omega) (by omega)
    rcases Nat.lt_or_ge i n with a | a
    · rcases Nat.lt_or_ge j n with b | b
      · exact h.inj hi2 i j a b e
      · obtain ⟨l, hl, e2⟩ := h.bw i a
        rw [h.out j b, ← e2] at e
        have := hi l j (by omega) hj' e
        omega
    · rcases Nat.lt_or_ge j n with b | b
      · obtain ⟨l, hl, e2⟩ := h.bw j b
        rw [h.out i a, ← e2] at e
        have := hi i l hi' (by omega) e
        omega
      · rw [h.out i a, h.out j b] at e
        exact hi i j hi' hj' e
theorem swp_i (V : Nat → α) (i j : Nat) : swp V i j i = V j := by simp [swp]
theorem swp_j (V : Nat → α) (i j : Nat) : swp V i j j = V i := by unfold swp; split <;> simp_all
theorem swp_o (V : Nat → α) {i j k : Nat} (h1 : k ≠ i) (h2 : k ≠ j) : swp V i j k = V k := by simp [swp, h1, h2]
theorem swp_swp (V : Nat → α) (i j : Nat) : swp (swp V i j) i j = V := by
  funext k
  by_cases h1 : k = i
  · subst h1; rw [swp_i, swp_j]
  · by_cases h2 : k = j
    · subst h2; rw [swp_j, swp_i]
    · rw [swp_o _ h1 h2, swp_o _ h1 h2]
theorem Perm.swp {n i j : Nat} (V : Nat → α) (hi : i < n) (hj : j < n) : Perm n V (swp V i j) := by
  have key : ∀ (V : Nat → α) k, k < n → ∃ l, l < n ∧ _root_.Go.Proofs.Ytnmakbippgnekaa.swp V i j l = V k := by
    intro V k hk
    by_cases h1 : k = i
    · subst h1; exact ⟨j, hj, swp_j _ _ _⟩
    · by_cases h2 : k = j
      · subst h2; exact ⟨i, hi, swp_i _ _ _⟩
      · exact ⟨k, hk, swp_o _ h1 h2⟩
  refine ⟨key V, fun k hk => ?_, fun inj a b ha hb e => ?_, fun k hk => swp_o _ (by omega) (by omega)⟩
  · obtain ⟨l, hl, e⟩ := key (_root_.Go.Proofs.Ytnmakbippgnekaa.swp V i j) k hk
    rw [swp_swp] at e
    exact ⟨l, hl, e⟩
  · by_cases a1 : a = i
    · subst a1
      rw [swp_i] at e
      by_cases b1 : b = a
      · exact b1.symm
      · by_cases b2 : b = j
        · subst b2; rw [swp_j] at e; exact (inj _ _ hj hi e).symm
        · rw [swp_o _ b1 b2] at e; exact absurd (inj _ _ hj hb e).symm b2
    · by_cases a2 : a = j
      · subst a2
        rw [swp_j] at e
        by_cases b1 : b = i
        · subst b1; rw [swp_i] at e; exact (inj _ _ hi hj e).symm
        · by_cases b2 : b = a
          · exact b2.symm
          · rw [swp_o _ b1 b2] at e; exact absurd (inj _ _ hi hb e).symm b1
      · rw [swp_o _ a1 a2] at e
        by_cases b1 : b = i
        · subst b1; rw [swp_i] at e; exact absurd (inj _ _ ha hj e) a2
        · by_cases b2 : b = j
          · subst b2; rw [swp_j] at e; exact absurd (inj _ _ ha hi e) a1
          · rw [swp_o _ b1 b2] at e; exact inj _ _ ha hb e
/-- c stands below p in the tree. -/
def Chd (p c : Nat) : Prop := c = 2 * p + 1 ∨ c = 2 * p + 2
/-- From a on the order of a heap. -/
def Hp (lt : α → α → Bool) (V : Nat → α) (a n : Nat) : Prop := ∀ p c, a ≤ p → c < n → Chd p c → lt (V c) (V p) = false
/-- .. but below i. -/
def HpD (lt : α → α → Bool) (V : Nat → α) (a i n : Nat) : Prop :=
  (∀ p c, a ≤ p → p ≠ i → c < n → Chd p c → lt (V c) (V p) = false) ∧ (∀ p c, a ≤ p → c < n → Chd p i → Chd i c → lt (V c) (V p) = false)
/-- .. but above j. -/
def HpU (lt : α → α → Bool) (V : Nat → α) (j n : Nat) : Prop :=
  (∀ p c, c ≠ j → c < n → Chd p c → lt (V c) (V p) = false) ∧ (∀ p c, c < n → Chd p j → Chd j c → lt (V c) (V p) = false)
/-- A strict order whose other side is an order, too. -/
structure Ord (lt : α → α → Bool) : Prop where
  asym : ∀ a b, lt a b = true → lt b a = false
  tr : ∀ a b c, lt b a = false → lt c b = false → lt c a = false
theorem Ord.irr {lt : α → α → Bool} (h : Ord lt) (a : α) : lt a a = false := by
  cases e : lt a a with
  | false => rfl
  | true => have := h.asym a a e; rw [e] at this; exact this
theorem downF_hp (o : Ord lt) (a n : Nat) : ∀ (f : Nat) (V : Nat → α) (i : Nat), a ≤ i → n ≤ i + f → HpD lt V a i n → Hp lt (downF lt f V i n) a n := by
  intro f
  induction f with
  | zero =>
    intro V i hi hf h p c hp hc hpc
    exact h.1 p c hp (fun e => by subst e; rcases hpc with rfl | rfl <;> omega) hc hpc
  | succ f ih =>
    intro V i hi hf h
    unfold downF
    by_cases h1 : 2 * i + 1 < n
    · rw [if_pos h1]
      generalize hj : (if 2 * i + 2 < n ∧ lt (V (2 * i + 2)) (V (2 * i + 1)) = true then 2 * i + 2 else 2 * i + 1) = j
      have hjc : Chd i j ∧ j < n ∧ ∀ c, c < n → Chd i c → lt (V c) (V j) = false := by
        by_cases hh : 2 * i + 2 < n ∧ lt (V (2 * i + 2)) (V (2 * i + 1)) = true
        · rw [if_pos hh] at hj
          subst hj
          refine ⟨.inr rfl, hh.1, fun c hc hic => ?_⟩
          rcases hic with rfl | rfl
          · exact o.asym _ _ hh.2
          · exact o.irr _
        · rw [if_neg hh] at hj
          subst hj
          refine ⟨.inl rfl, h1, fun c hc hic => ?_⟩
          rcases hic with rfl | rfl
          · exact o.irr _
          · cases e : lt (V (2 * i + 2)) (V (2 * i + 1)) with
            | false => rfl
            | true => exact absurd ⟨hc, e⟩ hh
      obtain ⟨hij, hjn, hmin⟩ := hjc
      have hne : j ≠ i := by rcases hij with rfl | rfl <;> omega
      show Hp lt (if lt (V j) (V i) = true then downF lt f (swp V i j) j n else V) a n
      by_cases h2 : lt (V j) (V i) = true
      · rw [if_pos h2]
        refine ih _ j (by rcases hij with rfl | rfl <;> omega) (by rcases hij with rfl | rfl <;> omega) ⟨fun p c hp hpj hc hpc => ?_, fun p c hp hc hpj hjc => ?_⟩
        · by_cases hpi : p = i
          · subst hpi
            rw [swp_i]
            by_cases hcj : c = j
            · subst hcj; rw [swp_j]; exact o.asym _ _ h2
            · rw [swp_o _ (by rcases hpc with rfl | rfl <;> omega) hcj]; exact hmin c hc hpc
          · rw [swp_o _ hpi hpj]
            by_cases hci : c = i
            · subst hci
              rw [swp_i]
              exact h.2 p j hp hjn hpc hij
            · have hcj : c ≠ j := by
                rintro rfl
                rcases hij with rfl | rfl <;> rcases hpc with e | e <;> omega
              rw [swp_o _ hci hcj]
              exact h.1 p c hp hpi hc hpc
        · have hpi : p = i := by rcases hij with rfl | rfl <;> rcases hpj with e | e <;> omega
          subst hpi
          rw [swp_i, swp_o _ (by rcases hij with rfl | rfl <;> rcases hjc with rfl | rfl <;> omega) (by rcases hjc with rfl | rfl <;> omega)]
          exact h.1 j c (by rcases hij with rfl | rfl <;> omega) hne hc hjc
      · rw [if_neg h2]
        intro p c hp hc hpc
        by_cases hpi : p = i
        · subst hpi
          exact o.tr _ _ _ (by simpa using h2) (hmin c hc hpc)
        · exact h.1 p c hp hpi hc hpc
    · rw [if_neg h1]
      intro p c hp hc hpc
      exact h.1 p c hp (fun e => by subst e; rcases hpc with rfl | rfl <;> omega) hc hpc
theorem downF_perm (n : Nat) : ∀ (f : Nat) (V : Nat → α) (i : Nat), i < n → Perm n V (downF lt f V i n) := by
  intro f
  induction f with
  | zero => intro V i hi; exact Perm.refl _ _
  | succ f ih =>
    intro V i hi
    unfold downF
    by_cases h1 : 2 * i + 1 < n
    · rw [if_pos h1]
      generalize hj : (if 2 * i + 2 < n ∧ lt (V (2 * i + 2)) (V (2 * i + 1)) = true then 2 * i + 2 else 2 * i + 1) = j
      have hjn : j < n := by rw [← hj]; split <;> omega
      show Perm n V (if lt (V j) (V i) = true then downF lt f (swp V i j) j n else V)
      by_cases h2 : lt (V j) (V i) = true
      · rw [if_pos h2]; exact (Perm.swp V hi hjn).trans (ih _ j hjn)
      · rw [if_neg h2]; exact Perm.refl _ _
    · rw [if_neg h1]; exact Perm.refl _ _
theorem downF_perm' (n : Nat) (f : Nat) (V : Nat → α) (i : Nat) : Perm n V (downF lt f V i n) := by
  rcases Nat.lt_or_ge i n with h | h
  · exact downF_perm n f V i h
  · cases f with
    | zero => exact Perm.refl _ _
    | succ f => unfold downF; rw [if_neg (by omega)]; exact Perm.refl _ _
theorem upF_hp (o : Ord lt) (n : Nat) : ∀ (f : Nat) (V : Nat → α) (j : Nat), j < n → j < f → HpU lt V j n → Hp lt (upF lt f V j) 0 n := by
  intro f
  induction f with
  | zero => intro V j hj hf; omega
  | succ f ih =>
    intro V j hj hf h
    unfold upF
    by_cases h0 : j = 0
    · rw [if_pos h0]
      subst h0
      intro p c hp hc hpc
      exact h.1 p c (by rcases hpc with rfl | rfl <;> omega) hc hpc
    · rw [if_neg h0]
      have hpj : Chd ((j - 1) / 2) j := by unfold Chd; omega
      have hpl : (j - 1) / 2 < j := by omega
      generalize (j - 1) / 2 = i at *
      have uniq : ∀ p, Chd p j → p = i := by intro p hp; rcases hp with e | e <;> rcases hpj with e2 | e2 <;> omega
      by_cases h2 : lt (V j) (V i) = true
      · rw [if_pos h2]
        refine ih _ i (by omega) (by omega) ⟨fun p c hci hc hpc => ?_, fun p c hc hpi hic => ?_⟩
        · by_cases hpi : p = i
          · subst hpi
            rw [swp_i]
            by_cases hcj : c = j
            · subst hcj; rw [swp_j]; exact o.asym _ _ h2
            · rw [swp_o _ hci hcj]
              exact o.tr _ _ _ (o.asym _ _ h2) (h.1 p c hcj hc hpc)
          · by_cases hpj2 : p = j
            · subst hpj2
              rw [swp_j, swp_o _ hci (by rcases hpc with rfl | rfl <;> omega)]
              exact h.2 i c hc hpj hpc
            · have hcj : c ≠ j := fun e => hpi (uniq p (e ▸ hpc))
              rw [swp_o _ hpi hpj2, swp_o _ hci hcj]
              exact h.1 p c hcj hc hpc
        · have hpi2 : p ≠ i := by rintro rfl; rcases hpi with e | e <;> omega
          have hpj2 : p ≠ j := by rintro rfl; rcases hpi with e | e <;> omega
          rw [swp_o _ hpi2 hpj2]
          have hii : lt (V i) (V p) = false := h.1 p i (by omega) (by omega) hpi
          by_cases hcj : c = j
          · subst hcj; rw [swp_j]; exact hii
          · have hci2 : c ≠ i := by rintro rfl; rcases hic with e | e <;> omega
            rw [swp_o _ hci2 hcj]
            exact o.tr _ _ _ hii (h.1 i c hcj hc hic)
      · rw [if_neg h2]
        intro p c hp hc hpc
        by_cases hcj : c = j
        · subst hcj
          have := uniq p hpc
          subst this
          simpa using h2
        · exact h.1 p c hcj hc hpc
theorem upF_perm (n : Nat) : ∀ (f : Nat) (V : Nat → α) (j : Nat), j < n → Perm n V (upF lt f V j) := by
  intro f
  induction f with
  | zero => intro V j hj; exact Perm.refl _ _
  | succ f ih =>
    intro V j hj
    unfold upF
    by_cases h0 : j = 0
    · rw [if_pos h0]; exact Perm.refl _ _
    · rw [if_neg h0]
      split
      · exact (Perm.swp V (by omega) hj).trans (ih _ _ (by omega))
      · exact Perm.refl _ _
/-- The first of a heap is the least. -/
theorem Hp.least (o : Ord lt) {V : Nat → α} {n : Nat} (h : Hp lt V 0 n) : ∀ k, k < n → lt (V k) (V 0) = false := by
  intro k
  induction k using Nat.strongRecOn with
  | ind k ih =>
    intro hk
    rcases Nat.eq_zero_or_pos k with h0 | h0
    · subst h0; exact o.irr _
    · exact o.tr _ _ _ (ih ((k - 1) / 2) (by omega) (by omega)) (h ((k - 1) / 2) k (by omega) hk (by unfold Chd; omega))
theorem Hp.cut {V : Nat → α} {a n m : Nat} (h : Hp lt V a n) (hm : m ≤ n) : Hp lt V a m := fun p c hp hc => h p c hp (by omega)
/-- A new last one. -/
theorem Hp.snoc {V W : Nat → α} {n : Nat} (h : Hp lt V 0 n) (e : ∀ k, k < n → W k = V k) : HpU lt W n (n + 1) := by
  refine ⟨fun p c hcn hc hpc => ?_, fun p c hc hpn hnc => ?_⟩
  · have : c < n := by omega
    rw [e c this, e p (by rcases hpc with rfl | rfl <;> omega)]
    exact h p c (by omega) this hpc
  · rcases hnc with rfl | rfl <;> omega
/-- The first and the last have changed places: but below the first. -/
theorem Hp.swap {V : Nat → α} {n : Nat} (h : Hp lt V 0 (n + 1)) : HpD lt (swp V 0 n) 0 0 n := by
  refine ⟨fun p c hp hp0 hc hpc => ?_, fun p c hp hc hp0 h0c => ?_⟩
  · rw [swp_o _ hp0 (by rcases hpc with rfl | rfl <;> omega), swp_o _ (by rcases hpc with rfl | rfl <;> omega) (by omega)]
    exact h p c hp (by omega) hpc
  · rcases hp0 with e | e <;> omega
/-- A step of making a heap. -/
theorem Hp.init {V : Nat → α} {i n : Nat} (h : Hp lt V (i + 1) n) : HpD lt V i i n := by
  refine ⟨fun p c hp hpi hc hpc => h p c (by omega) hc hpc, fun p c hp hc hpi hic => ?_⟩
  rcases hpi with e | e <;> omega
theorem Hp.end {V : Nat → α} {n a : Nat} (h : n ≤ 2 * a + 1) : Hp lt V a n := fun p c hp hc hpc => by rcases hpc with e | e <;> omega
end
end Go.Proofs.Ytnmakbippgnekaa
