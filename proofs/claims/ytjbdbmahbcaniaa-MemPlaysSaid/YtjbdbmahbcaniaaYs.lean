/- The document's memory: plain. -/
import Derived.Test.YtjbdbmahbcaniaaPur
import Derived.Test.YtjbdbmahbcaniaaLoad
set_option linter.unusedSimpArgs false
set_option linter.unusedVariables false
set_option linter.unusedSectionVars false
namespace Go.Proofs.Ytjbdbmahbcaniaa
open Go.RowKit

/-- A store as the document keeps it. -/
structure A where
  i : Nat
  k : Nat
  v : Int
  sp : Nat
def a0 : A := ⟨0, 0, 0, 0⟩
def als (g : List G) (st : List Nat) : List A := (List.range g.length).map fun t => ⟨(g.getD t ⟨0, 0, 0⟩).i, (g.getD t ⟨0, 0, 0⟩).k, (g.getD t ⟨0, 0, 0⟩).v, st.getD (t + 1) 0⟩
theorem als_len (g : List G) (st : List Nat) : (als g st).length = g.length := by simp [als]
theorem als_get {g : List G} {st : List Nat} {t m : Nat} {e : G} (h : g[t]? = some e) (hs : st[t + 1]? = some m) : (als g st)[t]? = some ⟨e.i, e.k, e.v, m⟩ := by
  have ht := (List.getElem?_eq_some_iff.1 h).1
  have e1 : g.getD t ⟨0, 0, 0⟩ = e := by rw [List.getD_eq_getElem?_getD, h]; rfl
  have e2 : st.getD (t + 1) 0 = m := by rw [List.getD_eq_getElem?_getD, hs]; rfl
  unfold als
  rw [List.getElem?_map, List.getElem?_range ht, Option.map_some, e1, e2]
theorem als_push {g : List G} {st : List Nat} (h : st.length = g.length + 1) (e : G) (m : Nat) : als (g ++ [e]) (st ++ [m]) = als g st ++ [⟨e.i, e.k, e.v, m⟩] := by
  apply List.ext_getElem?
  intro t
  rcases Nat.lt_or_ge t g.length with ht | ht
  · rw [List.getElem?_append_left (by rw [als_len]; exact ht)]
    have h1 : g[t]? = some g[t] := List.getElem?_eq_getElem ht
    have h2 : st[t + 1]? = some (st[t + 1]'(by omega)) := List.getElem?_eq_getElem (by omega)
    rw [als_get (e := g[t]) (by rw [List.getElem?_append_left ht]; exact h1) (by rw [List.getElem?_append_left (by omega)]; exact h2), als_get h1 h2]
  · by_cases e1 : t = g.length
    · subst e1
      rw [List.getElem?_append_right (by rw [als_len]; exact Nat.le_refl _), als_len, Nat.sub_self]
      rw [als_get (e := e) (m := m) (by simp) (by rw [← h]; simp)]
      rfl
    · rw [List.getElem?_eq_none (by rw [als_len]; simp; omega), List.getElem?_eq_none (by simp [als_len]; omega)]
theorem als_set {g : List G} {st : List Nat} {t m : Nat} {e : G} (hl : st.length = g.length + 1) (h : g[t]? = some e) : als g (st.set (t + 1) m) = (als g st).set t ⟨e.i, e.k, e.v, m⟩ := by
  have ht := (List.getElem?_eq_some_iff.1 h).1
  apply List.ext_getElem?
  intro j
  rw [List.getElem?_set]
  by_cases e1 : t = j
  · subst e1
    rw [if_pos rfl, if_pos (by rw [als_len]; exact ht)]
    exact als_get h (by rw [List.getElem?_set, if_pos rfl, if_pos (by omega)])
  · rw [if_neg e1]
    rcases Nat.lt_or_ge j g.length with hj | hj
    · have h1 : g[j]? = some g[j] := List.getElem?_eq_getElem hj
      have h2 : st[j + 1]? = some (st[j + 1]'(by omega)) := List.getElem?_eq_getElem (by omega)
      rw [als_get h1 h2, als_get h1 (m := st[j + 1]'(by omega)) (by rw [List.getElem?_set, if_neg (by omega)]; exact h2)]
    · rw [List.getElem?_eq_none (by rw [als_len]; omega), List.getElem?_eq_none (by rw [als_len]; omega)]
/-! ### What the document's loops reckon -/
def waitB (x : A) (i : Nat) : Bool := x.i == i && x.sp == 0
def heldK (al : List A) (i : Nat) : Nat → List Nat
  | 0 => []
  | n + 1 => heldK al i n ++ (if waitB (al.getD n a0) i = true then [n + 1] else [])
def loadK (al : List A) (i k : Nat) : Nat → Option (Int × Nat)
  | 0 => none
  | n + 1 => if (waitB (al.getD n a0) i && (al.getD n a0).k == k) = true then some ((al.getD n a0).v, n + 1) else loadK al i k n
def peekK (al : List A) (F : Nat → Int) (k : Nat) : Nat → Int × Nat × Nat
  | 0 => (F k, 0, 0)
  | n + 1 => if ((al.getD n a0).k == k && decide ((peekK al F k n).2.2 < (al.getD n a0).sp)) = true then ((al.getD n a0).v, n + 1, (al.getD n a0).sp) else peekK al F k n
theorem heldK_mem (al : List A) (i : Nat) : ∀ (n t : Nat), t ∈ heldK al i n ↔ 1 ≤ t ∧ t ≤ n ∧ waitB (al.getD (t - 1) a0) i = true
  | 0, t => by simp [heldK]; omega
  | n + 1, t => by
    unfold heldK
    rw [List.mem_append, heldK_mem al i n t]
    by_cases h : waitB (al.getD n a0) i = true
    · rw [if_pos h, List.mem_singleton]
      constructor
      · rintro (⟨h1, h2, h3⟩ | rfl)
        · exact ⟨h1, by omega, h3⟩
        · exact ⟨by omega, by omega, h⟩
      · rintro ⟨h1, h2, h3⟩
        by_cases e : t = n + 1
        · exact .inr e
        · exact .inl ⟨h1, by omega, h3⟩
    · rw [if_neg h]
      constructor
      · rintro (⟨h1, h2, h3⟩ | h1)
        · exact ⟨h1, by omega, h3⟩
        · cases h1
      · rintro ⟨h1, h2, h3⟩
        refine .inl ⟨h1, ?_, h3⟩
        by_cases e : t = n + 1
        · subst e; exact absurd h3 h
        · omega
theorem heldK_up (al : List A) (i : Nat) : ∀ n, (heldK al i n).Pairwise (· < ·)
  | 0 => List.Pairwise.nil
  | n + 1 => by
    unfold heldK
    refine List.pairwise_append.2 ⟨heldK_up al i n, ?_, fun a ha b hb => ?_⟩
    · split
      · exact List.pairwise_singleton _ _
      · exact List.Pairwise.nil
    · split at hb
      · have := List.mem_singleton.1 hb
        have := ((heldK_mem al i n a).1 ha).2.1
        omega
      · cases hb
theorem sorted_eq {l m : List Nat} (hl : l.Pairwise (· < ·)) (hm : m.Pairwise (· < ·)) (h : ∀ x, x ∈ l ↔ x ∈ m) : l = m := by
  induction l generalizing m with
  | nil =>
    cases m with
    | nil => rfl
    | cons b m => exact absurd ((h b).2 List.mem_cons_self) (by simp)
  | cons a l ih =>
    cases m with
    | nil => exact absurd ((h a).1 List.mem_cons_self) (by simp)
    | cons b m =>
      rw [List.pairwise_cons] at hl hm
      have e : a = b := by
        rcases List.mem_cons.1 ((h a).1 List.mem_cons_self) with h1 | h1
        · exact h1
        · rcases List.mem_cons.1 ((h b).2 List.mem_cons_self) with h2 | h2
          · exact h2.symm
          · have := hm.1 a h1
            have := hl.1 b h2
            omega
      subst e
      congr 1
      refine ih hl.2 hm.2 fun x => ⟨fun hx => ?_, fun hx => ?_⟩
      · rcases List.mem_cons.1 ((h x).1 (List.mem_cons_of_mem _ hx)) with h1 | h1
        · have := hl.1 x hx
          omega
        · exact h1
      · rcases List.mem_cons.1 ((h x).2 (List.mem_cons_of_mem _ hx)) with h1 | h1
        · have := hm.1 x hx
          omega
        · exact h1
section
variable {g : List G} {F : Nat → Int} {s : St}
theorem Ok.at_ (h : Ok g F s) {t : Nat} {e : G} (ht : g[t]? = some e) : ∃ m, s.st[t + 1]? = some m ∧ (als g s.st).getD t a0 = ⟨e.i, e.k, e.v, m⟩ := by
  have hl := (List.getElem?_eq_some_iff.1 ht).1
  have h2 : s.st[t + 1]? = some (s.st[t + 1]'(by rw [h.len]; omega)) := List.getElem?_eq_getElem _
  exact ⟨_, h2, by rw [List.getD_eq_getElem?_getD, als_get ht h2]; rfl⟩
theorem Ok.held (h : Ok g F s) {i : Nat} (hi : i < s.c) : heldK (als g s.st) i g.length = (s.H i).map (·.t) := by
  refine sorted_eq (heldK_up _ _ _) (List.pairwise_map.2 (h.up i hi)) fun t => ?_
  rw [heldK_mem, List.mem_map]
  constructor
  · rintro ⟨h1, h2, h3⟩
    have hg : g[t - 1]? = some (g[t - 1]'(by omega)) := List.getElem?_eq_getElem _
    obtain ⟨m, hm, he⟩ := h.at_ hg
    rw [he] at h3
    simp only [waitB, Bool.and_eq_true, beq_iff_eq] at h3
    rw [show t - 1 + 1 = t by omega] at hm
    obtain ⟨x, hx, e⟩ := h.waits t _ h1 hg (by rw [hm, h3.2])
    exact ⟨x, by rw [h3.1] at hx; exact hx, e⟩
  · rintro ⟨x, hx, rfl⟩
    obtain ⟨h1, h2, e, h3, h4, h5, h6⟩ := h.hold i hi x hx
    have hlt := (List.getElem?_eq_some_iff.1 h3).1
    obtain ⟨m, hm, he⟩ := h.at_ h3
    rw [show x.t - 1 + 1 = x.t by omega, h2] at hm
    obtain rfl := Option.some.inj hm
    exact ⟨h1, by omega, by rw [he]; simp [waitB, h4]⟩
theorem loadK_spec (al : List A) (i k : Nat) : ∀ n, (loadK al i k n = none ∧ ∀ t, t < n → (waitB (al.getD t a0) i && (al.getD t a0).k == k) = false) ∨
    ∃ t, t < n ∧ loadK al i k n = some ((al.getD t a0).v, t + 1) ∧ (waitB (al.getD t a0) i && (al.getD t a0).k == k) = true ∧ ∀ u, t < u → u < n → (waitB (al.getD u a0) i && (al.getD u a0).k == k) = false
  | 0 => .inl ⟨rfl, fun t h => absurd h (by omega)⟩
  | n + 1 => by
    unfold loadK
    by_cases h : (waitB (al.getD n a0) i && (al.getD n a0).k == k) = true
    · rw [if_pos h]
      exact .inr ⟨n, by omega, rfl, h, fun u h1 h2 => absurd h1 (by omega)⟩
    · rw [if_neg h]
      rcases loadK_spec al i k n with ⟨h1, h2⟩ | ⟨t, h1, h2, h3, h4⟩
      · refine .inl ⟨h1, fun t ht => ?_⟩
        by_cases e : t = n
        · subst e; simpa using h
        · exact h2 t (by omega)
      · refine .inr ⟨t, by omega, h2, h3, fun u h5 h6 => ?_⟩
        by_cases e : u = n
        · subst e; simpa using h
        · exact h4 u h5 (by omega)
theorem yfindL_none {l : List L} {a : Int} (h : findL l a = none) : ∀ x, x ∈ l → x.a ≠ a := by
  intro x hx
  unfold findL at h
  rw [List.find?_eq_none] at h
  have := h x (List.mem_reverse.2 hx)
  simpa using this
theorem yfindL_cons (x : L) (l : List L) (a : Int) : findL (x :: l) a = (findL l a).or (if x.a == a then some x else none) := by
  unfold findL
  rw [List.reverse_cons, List.find?_append]
  congr 1
  rw [List.find?_cons]
  cases x.a == a <;> rfl
theorem findL_last {l : List L} {a : Int} {x : L} (hs : l.Pairwise (fun x y => x.t < y.t)) (h : findL l a = some x) : x ∈ l ∧ x.a = a ∧ ∀ y, y ∈ l → y.a = a → y.t ≤ x.t := by
  induction l generalizing x with
  | nil => simp [findL] at h
  | cons b l ih =>
    rw [List.pairwise_cons] at hs
    rw [yfindL_cons] at h
    cases hf : findL l a with
    | none =>
      rw [hf] at h
      have hn := yfindL_none hf
      by_cases e : (b.a == a) = true
      · rw [if_pos e] at h
        obtain rfl : b = x := by simpa using h
        refine ⟨List.mem_cons_self, by simpa using e, fun y hy hya => ?_⟩
        rcases List.mem_cons.1 hy with h1 | h1
        · rw [h1]; exact Nat.le_refl _
        · exact absurd hya (hn y h1)
      · rw [if_neg e] at h
        simp at h
    | some y =>
      rw [hf] at h
      obtain rfl : y = x := by simpa using h
      obtain ⟨h1, h2, h3⟩ := ih hs.2 hf
      refine ⟨List.mem_cons_of_mem _ h1, h2, fun z hz hza => ?_⟩
      rcases List.mem_cons.1 hz with h4 | h4
      · rw [h4]; exact Nat.le_of_lt (hs.1 _ h1)
      · exact h3 z h4 hza
theorem Ok.load (h : Ok g F s) {i k : Nat} (hi : i < s.c) : (loadK (als g s.st) i k g.length = none ∧ findL (s.H i) (8 * (k : Int)) = none) ∨ ∃ x, findL (s.H i) (8 * (k : Int)) = some x ∧ loadK (als g s.st) i k g.length = some (x.v, x.t) := by
  have key : ∀ x, x ∈ s.H i → x.a = 8 * (k : Int) → 1 ≤ x.t ∧ x.t - 1 < g.length ∧ (waitB ((als g s.st).getD (x.t - 1) a0) i && ((als g s.st).getD (x.t - 1) a0).k == k) = true ∧ ((als g s.st).getD (x.t - 1) a0).v = x.v := by
    intro x hx hxa
    obtain ⟨h1, h2, e, h3, h4, h5, h6⟩ := h.hold i hi x hx
    obtain ⟨m, hm, he⟩ := h.at_ h3
    rw [show x.t - 1 + 1 = x.t by omega, h2] at hm
    obtain rfl := Option.some.inj hm
    have hk : e.k = k := by omega
    exact ⟨h1, (List.getElem?_eq_some_iff.1 h3).1, by rw [he]; simp [waitB, h4, hk], by rw [he]; exact h6.symm⟩
  have back : ∀ t, t < g.length → (waitB ((als g s.st).getD t a0) i && ((als g s.st).getD t a0).k == k) = true → ∃ x, x ∈ s.H i ∧ x.t = t + 1 ∧ x.a = 8 * (k : Int) := by
    intro t ht hw
    have hg : g[t]? = some (g[t]'ht) := List.getElem?_eq_getElem _
    obtain ⟨m, hm, he⟩ := h.at_ hg
    rw [he] at hw
    simp only [waitB, Bool.and_eq_true, beq_iff_eq] at hw
    obtain ⟨x, hx, e⟩ := h.waits (t + 1) _ (by omega) hg (by rw [hm, hw.1.2])
    rw [hw.1.1] at hx
    obtain ⟨_, _, e2, h3, _, h5, _⟩ := h.hold i hi x hx
    rw [e, Nat.add_sub_cancel, hg] at h3
    obtain rfl := Option.some.inj h3
    exact ⟨x, hx, e, by rw [h5, hw.2]⟩
  cases hf : findL (s.H i) (8 * (k : Int)) with
  | none =>
    refine .inl ⟨?_, rfl⟩
    rcases loadK_spec (als g s.st) i k g.length with ⟨h1, _⟩ | ⟨t, h1, _, h3, _⟩
    · exact h1
    · obtain ⟨x, hx, _, hxa⟩ := back t h1 h3
      exact absurd hxa (yfindL_none hf x hx)
  | some x =>
    refine .inr ⟨x, rfl, ?_⟩
    obtain ⟨f1, f2, f3⟩ := findL_last (h.up i hi) hf
    obtain ⟨k1, k2, k3, k4⟩ := key x f1 f2
    rcases loadK_spec (als g s.st) i k g.length with ⟨_, h2⟩ | ⟨t, h1, h2, h3, h4⟩
    · rw [h2 _ k2] at k3; cases k3
    · obtain ⟨y, hy, hyt, hya⟩ := back t h1 h3
      have h5 := f3 y hy hya
      have h6 : ¬ t < x.t - 1 := fun hlt => by rw [h4 _ hlt k2] at k3; cases k3
      have e : t = x.t - 1 := by omega
      rw [h2, e, k4, show x.t - 1 + 1 = x.t by omega]
theorem peekK_spec (al : List A) (F : Nat → Int) (k : Nat) : ∀ n, (∀ t, t < n → (al.getD t a0).k = k → (al.getD t a0).sp ≤ (peekK al F k n).2.2) ∧
    ((peekK al F k n = (F k, 0, 0)) ∨ ∃ t, t < n ∧ (al.getD t a0).k = k ∧ 0 < (al.getD t a0).sp ∧ peekK al F k n = ((al.getD t a0).v, t + 1, (al.getD t a0).sp))
  | 0 => ⟨fun t h => absurd h (by omega), .inl rfl⟩
  | n + 1 => by
    obtain ⟨h1, h2⟩ := peekK_spec al F k n
    unfold peekK
    by_cases h : ((al.getD n a0).k == k && decide ((peekK al F k n).2.2 < (al.getD n a0).sp)) = true
    · rw [if_pos h]
      simp only [Bool.and_eq_true, beq_iff_eq, decide_eq_true_eq] at h
      refine ⟨fun t ht hk => ?_, .inr ⟨n, by omega, h.1, by omega, rfl⟩⟩
      by_cases e : t = n
      · subst e; exact Nat.le_refl _
      · have := h1 t (by omega) hk
        show (al.getD t a0).sp ≤ (al.getD n a0).sp
        omega
    · rw [if_neg h]
      simp only [Bool.and_eq_true, beq_iff_eq, decide_eq_true_eq] at h
      refine ⟨fun t ht hk => ?_, h2.imp id fun ⟨t, a1, a2⟩ => ⟨t, by omega, a2⟩⟩
      by_cases e : t = n
      · subst e
        have : ¬ (peekK al F k t).2.2 < (al.getD t a0).sp := fun hl => h ⟨hk, hl⟩
        omega
      · exact h1 t (by omega) hk
theorem Ok.peek (h : Ok g F s) {k : Nat} (hk : k < s.n) : (peekK (als g s.st) F k g.length).1 = s.V k ∧ (peekK (als g s.st) F k g.length).2.1 = s.T k := by
  obtain ⟨h1, h2⟩ := peekK_spec (als g s.st) F k g.length
  by_cases ht : s.T k = 0
  · obtain ⟨hv, hn⟩ := h.mem0 k hk ht
    rcases h2 with e | ⟨t, a1, a2, a3, e⟩
    · rw [e]; exact ⟨hv.symm, ht.symm⟩
    · have hg : g[t]? = some (g[t]'a1) := List.getElem?_eq_getElem _
      obtain ⟨m, hm, he⟩ := h.at_ hg
      rw [he] at a2 a3
      have := hn (t + 1) _ m (by omega) hg a2 hm
      have a4 : 0 < m := a3
      omega
  · obtain ⟨e, m, hg, hek, hev, hst, hall⟩ := h.mem1 k hk ht
    have hlt := (List.getElem?_eq_some_iff.1 hg).1
    obtain ⟨m2, hm2, he⟩ := h.at_ hg
    rw [show s.T k - 1 + 1 = s.T k by omega, hst] at hm2
    obtain rfl := Option.some.inj hm2
    have hge := h1 (s.T k - 1) hlt (by rw [he]; exact hek)
    rw [he] at hge
    rcases h2 with e2 | ⟨t, a1, a2, a3, e2⟩
    · rw [e2] at hge
      have : m + 1 ≤ 0 := hge
      omega
    · have hg2 : g[t]? = some (g[t]'a1) := List.getElem?_eq_getElem _
      obtain ⟨m3, hm3, he3⟩ := h.at_ hg2
      rw [e2, he3] at hge
      have hge2 : m + 1 ≤ m3 := hge
      rw [he3] at a2
      have hle := hall (t + 1) _ m3 (by omega) hg2 a2 hm3
      obtain rfl : m3 = m + 1 := by omega
      have c1 := h.came (s.T k) m hst
      have c2 := h.came (t + 1) m hm3
      rw [c1] at c2
      have e4 : s.T k = t + 1 := Option.some.inj c2
      rw [e2, he3]
      rw [e4, Nat.add_sub_cancel] at hg
      rw [hg2] at hg
      obtain rfl := Option.some.inj hg
      exact ⟨hev, e4.symm⟩
end
end Go.Proofs.Ytjbdbmahbcaniaa
