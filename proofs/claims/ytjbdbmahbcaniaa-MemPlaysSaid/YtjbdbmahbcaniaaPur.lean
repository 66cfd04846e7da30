/- What stays true of a memory of chapter 8, in plain Lean. -/
import Derived.Test.YtjbdbmahbcaniaaNew
set_option linter.unusedSimpArgs false
set_option linter.unusedSectionVars false
namespace Go.Proofs.Ytjbdbmahbcaniaa
open Go.RowKit
set_option linter.unusedVariables false

/-- A store as it was made. -/
structure G where
  i : Nat
  k : Nat
  v : Int
structure Ok (g : List G) (F : Nat → Int) (s : St) : Prop where
  len : s.st.length = g.length + 1
  st0 : s.st[0]? = some 0
  inb : ∀ (t : Nat) (e : G), g[t]? = some e → e.i < s.c ∧ e.k < s.n
  hold : ∀ i, i < s.c → ∀ x ∈ s.H i, 1 ≤ x.t ∧ s.st[x.t]? = some 0 ∧ ∃ e, g[x.t - 1]? = some e ∧ e.i = i ∧ x.a = 8 * (e.k : Int) ∧ x.v = e.v
  up : ∀ i, i < s.c → (s.H i).Pairwise (fun x y => x.t < y.t)
  waits : ∀ (t : Nat) (e : G), 1 ≤ t → g[t - 1]? = some e → s.st[t]? = some 0 → ∃ x ∈ s.H e.i, x.t = t
  ord : ∀ (j t : Nat), s.od[j]? = some t → 1 ≤ t ∧ s.st[t]? = some (j + 1)
  came : ∀ (t m : Nat), s.st[t]? = some (m + 1) → s.od[m]? = some t
  mem0 : ∀ k, k < s.n → s.T k = 0 → s.V k = F k ∧ ∀ (t : Nat) (e : G) (m : Nat), 1 ≤ t → g[t - 1]? = some e → e.k = k → s.st[t]? = some m → m = 0
  mem1 : ∀ k, k < s.n → s.T k ≠ 0 → ∃ e m, g[s.T k - 1]? = some e ∧ e.k = k ∧ e.v = s.V k ∧ s.st[s.T k]? = some (m + 1) ∧ ∀ (t' : Nat) (e' : G) (m' : Nat), 1 ≤ t' → g[t' - 1]? = some e' → e'.k = k → s.st[t']? = some m' → m' ≤ m + 1
  depth : ∀ i, i < s.c → (s.H i).length ≤ s.d

theorem Ok.fine {g : List G} {F : Nat → Int} {s : St} (h : Ok g F s) {i : Nat} (hi : i < s.c) : Fine s i := by
  intro x hx
  obtain ⟨h1, h2, e, h3, h4, h5, h6⟩ := h.hold i hi x hx
  have hk := (h.inb _ _ h3).2
  have e1 : x.k = e.k := by unfold L.k; omega
  exact ⟨by rw [e1]; exact hk, by rw [e1]; exact h5, (List.getElem?_eq_some_iff.1 h2).1⟩
theorem app_some {l : List Nat} {t m z : Nat} (h : (l ++ [z])[t]? = some m) : (t < l.length ∧ l[t]? = some m) ∨ (t = l.length ∧ m = z) := by
  rcases Nat.lt_or_ge t l.length with hl | hl
  · rw [List.getElem?_append_left hl] at h
    exact .inl ⟨hl, h⟩
  · rw [List.getElem?_append_right hl] at h
    have ht : t - l.length = 0 := by
      have := (List.getElem?_eq_some_iff.1 h).1
      simp at this
      omega
    rw [ht] at h
    simp at h
    exact .inr ⟨by omega, h.symm⟩
theorem app_left {α : Type} {l : List α} {t : Nat} {m z : α} (h : l[t]? = some m) : (l ++ [z])[t]? = some m := by
  rw [List.getElem?_append_left (List.getElem?_eq_some_iff.1 h).1]; exact h
theorem app_last {α : Type} (l : List α) (z : α) : (l ++ [z])[l.length]? = some z := by simp
theorem appG {l : List G} {t : Nat} {m z : G} (h : (l ++ [z])[t]? = some m) : (t < l.length ∧ l[t]? = some m) ∨ (t = l.length ∧ m = z) := by
  rcases Nat.lt_or_ge t l.length with hl | hl
  · rw [List.getElem?_append_left hl] at h
    exact .inl ⟨hl, h⟩
  · rw [List.getElem?_append_right hl] at h
    have ht : t - l.length = 0 := by
      have := (List.getElem?_eq_some_iff.1 h).1
      simp at this
      omega
    rw [ht] at h
    simp at h
    exact .inr ⟨by omega, h.symm⟩
theorem Ok.stt {g : List G} {F : Nat → Int} {s : St} (h : Ok g F s) {t m : Nat} (ht : s.st[t]? = some m) : t < g.length + 1 := by
  have := (List.getElem?_eq_some_iff.1 ht).1
  rw [h.len] at this
  exact this
theorem Ok.push {g : List G} {F : Nat → Int} {s : St} (h : Ok g F s) {i k : Nat} {x : L} (hi : i < s.c) (hk : k < s.n) (ha : x.a = 8 * (k : Int)) (ht : x.t = s.st.length) (hd : (s.H i).length < s.d) : Ok (g ++ [⟨i, k, x.v⟩]) F (s.hold i x) := by
  have hlen := h.len
  refine ⟨?_, ?_, ?_, ?_, ?_, ?_, ?_, ?_, ?_, ?_, ?_⟩
  · simp [St.hold, hlen]
  · exact app_left h.st0
  · intro t e he
    rcases appG he with ⟨_, he⟩ | ⟨_, rfl⟩
    · exact h.inb t e he
    · exact ⟨hi, hk⟩
  · intro j hj y hy
    have old : ∀ y ∈ s.H j, 1 ≤ y.t ∧ (s.st ++ [0])[y.t]? = some 0 ∧ ∃ e, (g ++ [(⟨i, k, x.v⟩ : G)])[y.t - 1]? = some e ∧ e.i = j ∧ y.a = 8 * (e.k : Int) ∧ y.v = e.v := by
      intro y hy
      obtain ⟨a1, a2, e, a3, a4⟩ := h.hold j hj y hy
      exact ⟨a1, app_left a2, e, app_left a3, a4⟩
    by_cases hji : j = i
    · subst hji
      simp only [St.hold, upd_same] at hy
      rcases List.mem_append.1 hy with hy | hy
      · exact old y hy
      · simp at hy
        subst hy
        refine ⟨by omega, ?_, ⟨j, k, y.v⟩, ?_, rfl, ha, rfl⟩
        · rw [ht]; exact app_last _ _
        · have : y.t - 1 = g.length := by omega
          rw [this]; exact app_last _ _
    · simp only [St.hold, upd_other _ _ hji] at hy
      exact old y hy
  · intro j hj
    by_cases hji : j = i
    · subst hji
      simp only [St.hold, upd_same]
      rw [List.pairwise_append]
      refine ⟨h.up j hj, by simp, fun y hy z hz => ?_⟩
      simp at hz
      subst hz
      have := h.stt (h.hold j hj y hy).2.1
      omega
    · simp only [St.hold, upd_other _ _ hji]
      exact h.up j hj
  · intro t e h1 he hs
    rcases appG he with ⟨hlt, he⟩ | ⟨heq, rfl⟩
    · rcases app_some hs with ⟨_, hs⟩ | ⟨hs, _⟩
      · obtain ⟨y, hy, hyt⟩ := h.waits t e h1 he hs
        refine ⟨y, ?_, hyt⟩
        by_cases hji : e.i = i
        · simp only [St.hold, hji, upd_same]
          rw [hji] at hy
          exact List.mem_append_left _ hy
        · simp only [St.hold, upd_other _ _ hji]
          exact hy
      · omega
    · refine ⟨x, ?_, by omega⟩
      simp [St.hold, upd_same]
  · intro j t hj
    obtain ⟨h1, h2⟩ := h.ord j t hj
    exact ⟨h1, app_left h2⟩
  · intro t m hs
    rcases app_some hs with ⟨_, hs⟩ | ⟨_, hs⟩
    · exact h.came t m hs
    · omega
  · intro k' hk' hT
    obtain ⟨h1, h2⟩ := h.mem0 k' hk' hT
    refine ⟨h1, fun t e m h3 he hek hs => ?_⟩
    rcases app_some hs with ⟨hl, hs⟩ | ⟨_, hs⟩
    · rcases appG he with ⟨_, he⟩ | ⟨heq, _⟩
      · exact h2 t e m h3 he hek hs
      · omega
    · exact hs
  · intro k' hk' hT
    obtain ⟨e, m, h1, h2, h3, h4, h5⟩ := h.mem1 k' hk' hT
    refine ⟨e, m, app_left h1, h2, h3, app_left h4, fun t' e' m' h6 he hek hs => ?_⟩
    rcases app_some hs with ⟨hl, hs⟩ | ⟨_, hs⟩
    · rcases appG he with ⟨_, he⟩ | ⟨heq, _⟩
      · exact h5 t' e' m' h6 he hek hs
      · omega
    · omega
  · intro j hj
    by_cases hji : j = i
    · subst hji
      simp only [St.hold, upd_same, List.length_append, List.length_singleton]
      omega
    · simp only [St.hold, upd_other _ _ hji]
      exact h.depth j hj
theorem set_some {l : List Nat} {a t m v : Nat} (h : (l.set a v)[t]? = some m) : (t = a ∧ m = v) ∨ (t ≠ a ∧ l[t]? = some m) := by
  rw [List.getElem?_set] at h
  split at h
  · rename_i e
    split at h
    · simp at h; exact .inl ⟨e.symm, h.symm⟩
    · cases h
  · rename_i e
    exact .inr ⟨fun e' => e e'.symm, h⟩
theorem set_other {l : List Nat} {a t m v : Nat} (ht : t ≠ a) (h : l[t]? = some m) : (l.set a v)[t]? = some m := by
  rw [List.getElem?_set, if_neg (Ne.symm ht)]; exact h
theorem set_this {l : List Nat} {a v : Nat} (h : a < l.length) : (l.set a v)[a]? = some v := by
  rw [List.getElem?_set, if_pos rfl, if_pos h]
theorem Ok.down {g : List G} {F : Nat → Int} {s : St} (h : Ok g F s) {i : Nat} {x : L} {l : List L} (hi : i < s.c) (hx : s.H i = x :: l) : Ok g F ((s.pop i l).reach x x.k) := by
  have hxm : x ∈ s.H i := by rw [hx]; simp
  obtain ⟨x1, x2, e0, x3, x4, x5, x6⟩ := h.hold i hi x hxm
  have hup := h.up i hi
  rw [hx, List.pairwise_cons] at hup
  have hxk : x.k = e0.k := by unfold L.k; omega
  have xlt := (List.getElem?_eq_some_iff.1 x2).1
  have sub : ∀ j, j < s.c → ∀ y, y ∈ (upd s.H i l) j → y ∈ s.H j ∧ y.t ≠ x.t := by
    intro j hj y hy
    by_cases hji : j = i
    · subst hji
      rw [upd_same] at hy
      refine ⟨by rw [hx]; exact List.mem_cons_of_mem _ hy, ?_⟩
      have := hup.1 y hy
      omega
    · rw [upd_other _ _ hji] at hy
      refine ⟨hy, fun e => ?_⟩
      obtain ⟨_, _, e1, y3, y4, _⟩ := h.hold j hj y hy
      rw [e, x3] at y3
      cases y3
      exact hji (y4.symm.trans x4)
  have bound : ∀ (t m : Nat), s.st[t]? = some m → m ≤ s.od.length := by
    intro t m hs
    cases m with
    | zero => omega
    | succ m =>
      have := (List.getElem?_eq_some_iff.1 (h.came t m hs)).1
      omega
  refine ⟨?_, ?_, h.inb, ?_, ?_, ?_, ?_, ?_, ?_, ?_, ?_⟩
  · show (s.st.set _ _).length = _
    rw [List.length_set]; exact h.len
  · exact set_other (by omega) h.st0
  · intro j hj y hy
    obtain ⟨hy1, hy2⟩ := sub j hj y hy
    obtain ⟨a1, a2, a3⟩ := h.hold j hj y hy1
    exact ⟨a1, set_other hy2 a2, a3⟩
  · intro j hj
    show ((upd s.H i l) j).Pairwise _
    by_cases hji : j = i
    · subst hji; rw [upd_same]; exact hup.2
    · rw [upd_other _ _ hji]; exact h.up j hj
  · intro t e h1 he hs
    rcases set_some hs with ⟨_, h0⟩ | ⟨hne, hs⟩
    · omega
    · obtain ⟨y, hy, hyt⟩ := h.waits t e h1 he hs
      refine ⟨y, ?_, hyt⟩
      show y ∈ (upd s.H i l) e.i
      by_cases hji : e.i = i
      · rw [hji, upd_same]
        rw [hji, hx] at hy
        rcases List.mem_cons.1 hy with rfl | hy
        · exact absurd hyt.symm hne
        · exact hy
      · rw [upd_other _ _ hji]; exact hy
  · intro j t hj
    rcases app_some hj with ⟨_, hj⟩ | ⟨rfl, rfl⟩
    · obtain ⟨h1, h2⟩ := h.ord j t hj
      refine ⟨h1, set_other (fun e => ?_) h2⟩
      rw [e, x2] at h2
      cases h2
    · exact ⟨x1, set_this xlt⟩
  · intro t m hs
    rcases set_some hs with ⟨rfl, h0⟩ | ⟨hne, hs⟩
    · obtain rfl : m = s.od.length := by have : m + 1 = s.od.length + 1 := h0; omega
      exact app_last _ _
    · exact app_left (h.came t m hs)
  · intro k' hk' hT
    have hne : k' ≠ x.k := by
      rintro rfl
      have : upd s.T x.k x.t x.k = 0 := hT
      rw [upd_same] at this
      omega
    have hT' : s.T k' = 0 := by have : upd s.T x.k x.t k' = 0 := hT; rwa [upd_other _ _ hne] at this
    obtain ⟨h1, h2⟩ := h.mem0 k' hk' hT'
    refine ⟨?_, fun t e m h3 he hek hs => ?_⟩
    · show upd s.V x.k x.v k' = _
      rw [upd_other _ _ hne]; exact h1
    · rcases set_some hs with ⟨rfl, _⟩ | ⟨_, hs⟩
      · rw [x3] at he
        cases he
        exact absurd (hek.symm.trans hxk.symm) hne
      · exact h2 t e m h3 he hek hs
  · intro k' hk' hT
    by_cases hkk : k' = x.k
    · subst hkk
      refine ⟨e0, s.od.length, ?_, hxk.symm, ?_, ?_, fun t' e' m' h3 he hek hs => ?_⟩
      · show g[upd s.T x.k x.t x.k - 1]? = _
        rw [upd_same]; exact x3
      · show e0.v = upd s.V x.k x.v x.k
        rw [upd_same]; exact x6.symm
      · show (s.st.set x.t (s.od.length + 1))[upd s.T x.k x.t x.k]? = _
        rw [upd_same]; exact set_this xlt
      · rcases set_some hs with ⟨_, h0⟩ | ⟨_, hs⟩
        · have h1 : m' = s.od.length + 1 := h0
          exact Nat.le_of_eq h1
        · have := bound t' m' hs; omega
    · have hT' : s.T k' ≠ 0 := by have : upd s.T x.k x.t k' ≠ 0 := hT; rwa [upd_other _ _ hkk] at this
      obtain ⟨e, m, h1, h2, h3, h4, h5⟩ := h.mem1 k' hk' hT'
      refine ⟨e, m, ?_, h2, ?_, ?_, fun t' e' m' h6 he hek hs => ?_⟩
      · show g[upd s.T x.k x.t k' - 1]? = _
        rw [upd_other _ _ hkk]; exact h1
      · show e.v = upd s.V x.k x.v k'
        rw [upd_other _ _ hkk]; exact h3
      · show (s.st.set x.t (s.od.length + 1))[upd s.T x.k x.t k']? = _
        rw [upd_other _ _ hkk]
        refine set_other (fun e => ?_) h4
        rw [e, x2] at h4
        cases h4
      · rcases set_some hs with ⟨rfl, _⟩ | ⟨_, hs⟩
        · rw [x3] at he
          cases he
          exact absurd (hek.symm.trans hxk.symm) hkk
        · exact h5 t' e' m' h6 he hek hs
  · intro j hj
    show ((upd s.H i l) j).length ≤ s.d
    have := h.depth j hj
    by_cases hji : j = i
    · subst hji; rw [upd_same]; rw [hx] at this; simp at this; omega
    · rw [upd_other _ _ hji]; exact this
theorem Ok.drain1 {g : List G} {F : Nat → Int} {s : St} (h : Ok g F s) {i : Nat} (hi : i < s.c) : Ok g F (s.drain1 i) := by
  cases hx : s.H i with
  | nil => unfold St.drain1; rw [hx]; exact h
  | cons x l => rw [drain1_cons hx]; exact h.down hi hx
theorem Ok.drains {g : List G} {F : Nat → Int} {s : St} (h : Ok g F s) {i : Nat} (hi : i < s.c) (n : Nat) : Ok g F (s.drains i n) := by
  induction n with
  | zero => exact h
  | succ n ih => exact ih.drain1 (by rw [(drains_same s i n).2.1]; exact hi)
theorem Ok.put {g : List G} {F : Nat → Int} {s : St} (h : Ok g F s) {i k : Nat} (v : Int) (hi : i < s.c) (hk : k < s.n) (hd : 1 ≤ s.d) : Ok (g ++ [⟨i, k, v⟩]) F (s.put i k v) := by
  obtain ⟨dn, dc, dd, dst, dH, _⟩ := drains_same s i (s.H i).length
  rw [List.drop_length] at dH
  have h1 := h.drains hi (s.H i).length
  have h2 := h1.push (i := i) (k := k) (x := ⟨8 * (k : Int), v, s.st.length⟩) (by rw [dc]; exact hi) (by rw [dn]; exact hk) rfl dst.symm (by rw [dH, dd]; exact hd)
  have h3 := h2.down (i := i) (x := ⟨8 * (k : Int), v, s.st.length⟩) (l := []) (by show i < (s.drains i (s.H i).length).c; rw [dc]; exact hi) (by simp [St.hold, upd_same, dH])
  have e : (((s.drains i (s.H i).length).hold i ⟨8 * (k : Int), v, s.st.length⟩).pop i []).reach ⟨8 * (k : Int), v, s.st.length⟩ (L.k ⟨8 * (k : Int), v, s.st.length⟩) = s.put i k v := by
    have ek : L.k ⟨8 * (k : Int), v, s.st.length⟩ = k := by unfold L.k; simp
    rw [ek]
    simp only [St.put, St.hold, St.pop, St.reach, St.tick]
    have : upd (upd (s.drains i (s.H i).length).H i ((s.drains i (s.H i).length).H i ++ [⟨8 * (k : Int), v, s.st.length⟩])) i [] = (s.drains i (s.H i).length).H := by
      funext j
      by_cases hj : j = i
      · subst hj; rw [upd_same, dH]
      · rw [upd_other _ _ hj, upd_other _ _ hj]
    rw [this]
  rw [← e]
  exact h3
theorem Ok.start (n c d : Nat) : Ok [] (fun _ => 0) (St0 n c d) := by
  refine ⟨rfl, rfl, ?_, ?_, ?_, ?_, ?_, (fun t m h => by cases t <;> simp [St0] at h), ?_, ?_, ?_⟩ <;> intros <;> simp_all [St0]
theorem Ok.poke {F : Nat → Int} {s : St} (h : Ok [] F s) (k : Nat) (v : Int) : Ok [] (upd F k v) { s with V := upd s.V k v } := by
  refine ⟨h.len, h.st0, h.inb, h.hold, h.up, h.waits, h.ord, h.came, fun k' hk' hT => ⟨?_, (h.mem0 k' hk' hT).2⟩, fun k' hk' hT => ?_, h.depth⟩
  · show upd s.V k v k' = upd F k v k'
    by_cases hk : k' = k
    · subst hk; rw [upd_same, upd_same]
    · rw [upd_other _ _ hk, upd_other _ _ hk]; exact (h.mem0 k' hk' hT).1
  · obtain ⟨e, m, h1, _⟩ := h.mem1 k' hk' hT
    simp at h1
end Go.Proofs.Ytjbdbmahbcaniaa
