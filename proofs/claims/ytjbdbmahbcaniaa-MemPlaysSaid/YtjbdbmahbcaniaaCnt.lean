/- How many stores wait, how many have come; in plain Lean. -/
import Derived.Test.YtjbdbmahbcaniaaPur
set_option linter.unusedSimpArgs false
set_option linter.unusedSectionVars false
namespace Go.Proofs.Ytjbdbmahbcaniaa
open Go.RowKit
set_option linter.unusedVariables false

/-- How many wait, over all cores. -/
def tot (H : Nat → List L) : Nat → Nat
  | 0 => 0
  | c + 1 => tot H c + (H c).length
theorem tot_upd (H : Nat → List L) (i : Nat) (l : List L) (c : Nat) : tot (upd H i l) c + (if i < c then (H i).length else 0) = tot H c + (if i < c then l.length else 0) := by
  induction c with
  | zero => simp [tot]
  | succ c ih =>
    simp only [tot]
    by_cases h : i = c
    · subst h
      rw [upd_same, if_pos (by omega), if_pos (by omega)]
      rw [if_neg (by omega), if_neg (by omega)] at ih
      omega
    · rw [upd_other _ _ (Ne.symm h)]
      by_cases h2 : i < c
      · rw [if_pos (by omega), if_pos (by omega)]
        rw [if_pos h2, if_pos h2] at ih
        omega
      · rw [if_neg (by omega), if_neg (by omega)]
        rw [if_neg h2, if_neg h2] at ih
        omega
structure Cnt (g : List G) (s : St) : Prop where
  all : s.od.length + tot s.H s.c = g.length
  zero : s.st.count 0 = tot s.H s.c + 1
theorem Cnt.push {g : List G} {s : St} (h : Cnt g s) {i : Nat} {x : L} (e : G) (hi : i < s.c) : Cnt (g ++ [e]) (s.hold i x) := by
  have ht := tot_upd s.H i (s.H i ++ [x]) s.c
  rw [if_pos hi, if_pos hi, List.length_append, List.length_singleton] at ht
  have h1 := h.all
  have h2 := h.zero
  refine ⟨?_, ?_⟩
  · show s.od.length + tot (upd s.H i (s.H i ++ [x])) s.c = _
    rw [List.length_append, List.length_singleton]; omega
  · show (s.st ++ [0]).count 0 = tot (upd s.H i (s.H i ++ [x])) s.c + 1
    rw [List.count_append]
    have : List.count 0 [0] = 1 := rfl
    omega
theorem count_set {l : List Nat} {a v : Nat} (h : l[a]? = some 0) (hv : v ≠ 0) : (l.set a v).count 0 + 1 = l.count 0 := by
  induction l generalizing a with
  | nil => simp at h
  | cons y l ih =>
    cases a with
    | zero =>
      simp at h
      subst h
      simp [List.count_cons, hv]
    | succ a =>
      simp at h
      have := ih h
      simp only [List.set_cons_succ, List.count_cons]
      omega
theorem Cnt.down {g : List G} {F : Nat → Int} {s : St} (h : Cnt g s) (ho : Ok g F s) {i : Nat} {x : L} {l : List L} (hi : i < s.c) (hx : s.H i = x :: l) : Cnt g ((s.pop i l).reach x x.k) := by
  have ht := tot_upd s.H i l s.c
  rw [if_pos hi, if_pos hi, hx, List.length_cons] at ht
  have hc := count_set (v := s.od.length + 1) (ho.hold i hi x (by rw [hx]; simp)).2.1 (by omega)
  have h1 := h.all
  have h2 := h.zero
  refine ⟨?_, ?_⟩
  · show (s.od ++ [x.t]).length + tot (upd s.H i l) s.c = _
    rw [List.length_append, List.length_singleton]; omega
  · show (s.st.set x.t (s.od.length + 1)).count 0 = tot (upd s.H i l) s.c + 1
    omega
theorem Cnt.drain1 {g : List G} {F : Nat → Int} {s : St} (h : Cnt g s) (ho : Ok g F s) {i : Nat} (hi : i < s.c) : Cnt g (s.drain1 i) := by
  cases hx : s.H i with
  | nil => unfold St.drain1; rw [hx]; exact h
  | cons x l => rw [drain1_cons hx]; exact h.down ho hi hx
theorem Cnt.drains {g : List G} {F : Nat → Int} {s : St} (h : Cnt g s) (ho : Ok g F s) {i : Nat} (hi : i < s.c) (n : Nat) : Cnt g (s.drains i n) := by
  induction n with
  | zero => exact h
  | succ n ih => exact ih.drain1 (ho.drains hi n) (by rw [(drains_same s i n).2.1]; exact hi)
theorem Cnt.start (n c d : Nat) : Cnt [] (St0 n c d) := by
  have : ∀ c, tot (fun _ => []) c = 0 := by intro c; induction c with
    | zero => rfl
    | succ c ih => simp [tot, ih]
  refine ⟨?_, ?_⟩
  · show 0 + tot (fun _ => []) c = 0
    rw [this]
  · show List.count 0 [0] = tot (fun _ => []) c + 1
    rw [this]; rfl
theorem put_hold {s : St} {i k : Nat} {v : Int} : (((s.drains i (s.H i).length).hold i ⟨8 * (k : Int), v, s.st.length⟩).pop i []).reach ⟨8 * (k : Int), v, s.st.length⟩ (L.k ⟨8 * (k : Int), v, s.st.length⟩) = s.put i k v := by
  have dH := (drains_same s i (s.H i).length).2.2.2.2.1
  rw [List.drop_length] at dH
  have ek : L.k ⟨8 * (k : Int), v, s.st.length⟩ = k := by unfold L.k; simp
  rw [ek]
  simp only [St.put, St.hold, St.pop, St.reach, St.tick]
  have : upd (upd (s.drains i (s.H i).length).H i ((s.drains i (s.H i).length).H i ++ [⟨8 * (k : Int), v, s.st.length⟩])) i [] = (s.drains i (s.H i).length).H := by
    funext j
    by_cases hj : j = i
    · subst hj; rw [upd_same, dH]
    · rw [upd_other _ _ hj, upd_other _ _ hj]
  rw [this]
theorem Cnt.put {g : List G} {F : Nat → Int} {s : St} (h : Cnt g s) (ho : Ok g F s) {i k : Nat} (v : Int) (hi : i < s.c) (hk : k < s.n) (hd : 1 ≤ s.d) : Cnt (g ++ [⟨i, k, v⟩]) (s.put i k v) := by
  obtain ⟨dn, dc, dd, dst, dH, _⟩ := drains_same s i (s.H i).length
  rw [List.drop_length] at dH
  have o1 := ho.drains hi (s.H i).length
  have o2 := o1.push (i := i) (k := k) (x := ⟨8 * (k : Int), v, s.st.length⟩) (by rw [dc]; exact hi) (by rw [dn]; exact hk) rfl dst.symm (by rw [dH, dd]; exact hd)
  have h2 := (h.drains ho hi (s.H i).length).push (x := ⟨8 * (k : Int), v, s.st.length⟩) ⟨i, k, v⟩ (i := i) (by rw [dc]; exact hi)
  rw [← put_hold]
  exact h2.down o2 (by show i < (s.drains i (s.H i).length).c; rw [dc]; exact hi) (by simp [St.hold, upd_same, dH])
/-- What is known of a memory behind so many calls. -/
structure Good (s : St) (n c d m : Nat) : Prop where
  ok : ∃ g F, Ok g F s ∧ Cnt g s ∧ g.length ≤ m
  n : s.n = n
  c : s.c = c
  d : s.d = d
theorem Good.st {s : St} {n c d m : Nat} (h : Good s n c d m) : s.st.length ≤ m + 1 := by
  obtain ⟨g, F, h1, h2, h3⟩ := h.ok
  have := h1.len
  omega
theorem Good.od {s : St} {n c d m : Nat} (h : Good s n c d m) : s.od.length ≤ m := by
  obtain ⟨g, F, h1, h2, h3⟩ := h.ok
  have := h2.all
  omega
theorem Good.held {s : St} {n c d m i : Nat} (h : Good s n c d m) (hi : i < c) : (s.H i).length ≤ d := by
  obtain ⟨g, F, h1, h2, h3⟩ := h.ok
  have := h1.depth i (by rw [h.c]; exact hi)
  rwa [h.d] at this
theorem Good.fine {s : St} {n c d m i : Nat} (h : Good s n c d m) (hi : i < c) : Fine s i := by
  obtain ⟨g, F, h1, h2, h3⟩ := h.ok
  exact h1.fine (by rw [h.c]; exact hi)
theorem Good.up {s : St} {n c d m m' : Nat} (h : Good s n c d m) (hm : m ≤ m') : Good s n c d m' := by
  obtain ⟨g, F, h1, h2, h3⟩ := h.ok
  exact ⟨⟨g, F, h1, h2, by omega⟩, h.n, h.c, h.d⟩
theorem Good.drain1 {s : St} {n c d m i : Nat} (h : Good s n c d m) (hi : i < c) : Good (s.drain1 i) n c d m := by
  obtain ⟨g, F, h1, h2, h3⟩ := h.ok
  have hi' : i < s.c := by rw [h.c]; exact hi
  obtain ⟨a, b, e, _⟩ := drain1_same s i
  exact ⟨⟨g, F, h1.drain1 hi', h2.drain1 h1 hi', h3⟩, a.trans h.n, b.trans h.c, e.trans h.d⟩
theorem Good.drains {s : St} {n c d m i : Nat} (h : Good s n c d m) (hi : i < c) (j : Nat) : Good (s.drains i j) n c d m := by
  obtain ⟨g, F, h1, h2, h3⟩ := h.ok
  have hi' : i < s.c := by rw [h.c]; exact hi
  obtain ⟨a, b, e, _⟩ := drains_same s i j
  exact ⟨⟨g, F, h1.drains hi' j, h2.drains h1 hi' j, h3⟩, a.trans h.n, b.trans h.c, e.trans h.d⟩
theorem Good.hold {s : St} {n c d m i k : Nat} {x : L} (h : Good s n c d m) (hi : i < c) (hk : k < n) (ha : x.a = 8 * (k : Int)) (ht : x.t = s.st.length) (hd : (s.H i).length < d) : Good (s.hold i x) n c d (m + 1) := by
  obtain ⟨g, F, h1, h2, h3⟩ := h.ok
  have hi' : i < s.c := by rw [h.c]; exact hi
  exact ⟨⟨_, F, h1.push hi' (by rw [h.n]; exact hk) ha ht (by rw [h.d]; exact hd), h2.push _ hi', by simpa using h3⟩, h.n, h.c, h.d⟩
theorem Good.put {s : St} {n c d m i k : Nat} (h : Good s n c d m) (v : Int) (hi : i < c) (hk : k < n) (hd : 1 ≤ d) : Good (s.put i k v) n c d (m + 1) := by
  obtain ⟨g, F, h1, h2, h3⟩ := h.ok
  have hi' : i < s.c := by rw [h.c]; exact hi
  obtain ⟨a, b, e, _⟩ := drains_same s i (s.H i).length
  exact ⟨⟨_, F, h1.put v hi' (by rw [h.n]; exact hk) (by rw [h.d]; exact hd), h2.put h1 v hi' (by rw [h.n]; exact hk) (by rw [h.d]; exact hd), by simpa using h3⟩, a.trans h.n, b.trans h.c, e.trans h.d⟩
theorem Good.start (n c d : Nat) : Good (St0 n c d) n c d 0 := ⟨⟨[], _, Ok.start n c d, Cnt.start n c d, Nat.le_refl _⟩, rfl, rfl, rfl⟩
end Go.Proofs.Ytjbdbmahbcaniaa
