/- Ways: plain. -/
import Derived.Test.YtpcpjmbfinpmlaaDoorRxp
set_option linter.unusedSimpArgs false
set_option linter.unusedVariables false
set_option linter.unusedSectionVars false
namespace Go.Proofs.YtpcpjmbfinpmlaaDoor
open Go.RowKit
set_option maxRecDepth 100000

inductive Way (r : Rn) : Nat → Nat → Prop
  | one {a b : Nat} (h : r a b = true) : Way r a b
  | step {a c b : Nat} (h : Way r a c) (h2 : r c b = true) : Way r a b
theorem Way.trans {r : Rn} {a c b : Nat} (h : Way r a c) (k : Way r c b) : Way r a b := by
  induction k with
  | one h2 => exact .step h h2
  | step _ h2 ih => exact .step ih h2
theorem clK_way {n : Nat} {r : Rn} : ∀ k a c, clK n r k a c = true → Way r a c
  | 0, a, c, h => .one h
  | k + 1, a, c, h => by
    rw [clK_eq] at h
    simp only [Bool.or_eq_true, Bool.and_eq_true, decide_eq_true_eq] at h
    rcases h with h | ⟨⟨_, h1⟩, h2⟩
    · exact clK_way k a c h
    · exact (clK_way k a k h1).trans (clK_way k k c h2)
theorem clK_trans {n : Nat} {r : Rn} (hok : ∀ a c, r a c = true → a < n ∧ c < n) : ∀ k a m c, m < k → clK n r k a m = true → clK n r k m c = true → clK n r k a c = true
  | 0, a, m, c, h, _, _ => absurd h (by omega)
  | k + 1, a, m, c, h, h1, h2 => by
    have ih := clK_trans hok k
    rw [clK_eq] at h1 h2 ⊢
    simp only [Bool.or_eq_true, Bool.and_eq_true, decide_eq_true_eq] at h1 h2 ⊢
    have hlt : ∀ x y, clK n r k x y = true → x < n := fun x y hq => (clK_ok hok k x y hq).1
    by_cases e : m = k
    · subst e
      have h3 : clK n r m a m = true := by
        rcases h1 with h | ⟨⟨_, h⟩, _⟩ <;> exact h
      have h4 : clK n r m m c = true := by
        rcases h2 with h | ⟨⟨_, _⟩, h⟩ <;> exact h
      exact .inr ⟨⟨hlt _ _ h3, h3⟩, h4⟩
    · have hm : m < k := by omega
      rcases h1 with h1 | ⟨⟨_, h1⟩, h1'⟩
      · rcases h2 with h2 | ⟨⟨_, h2⟩, h2'⟩
        · exact .inl (ih a m c hm h1 h2)
        · have := ih a m k hm h1 h2
          exact .inr ⟨⟨hlt _ _ this, this⟩, h2'⟩
      · rcases h2 with h2 | ⟨⟨_, h2⟩, h2'⟩
        · exact .inr ⟨⟨hlt _ _ h1, h1⟩, ih k m c hm h1' h2⟩
        · exact .inr ⟨⟨hlt _ _ h1, h1⟩, h2'⟩
theorem clK_base {n : Nat} {r : Rn} {a c : Nat} (h : r a c = true) : ∀ k, clK n r k a c = true
  | 0 => h
  | k + 1 => by rw [clK_eq, clK_base h k]; rfl
theorem clo_way {n : Nat} {r : Rn} (hok : ∀ a c, r a c = true → a < n ∧ c < n) {a c : Nat} : clo n r a c = true ↔ Way r a c := by
  constructor
  · exact clK_way n a c
  · intro h
    induction h with
    | one h => exact clK_base h n
    | step h h2 ih => exact clK_trans hok n _ _ _ (hok _ _ h2).1 ih (clK_base h2 n)
/-- What a search has seen, and what is still to do; of a, the first c have been looked at. -/
structure Wy (r : Rn) (f : Nat) (T : List Nat) (S : Nat → Bool) (a c : Nat) : Prop where
  s1 : ∀ b, S b = true → Way r f b
  t1 : ∀ x, x ∈ T → x = f ∨ S x = true
  ax : a = f ∨ S a = true
  c1 : ∀ x, (x = f ∨ S x = true) → x ∈ T ∨ (∀ b, r x b = true → S b = true) ∨ (x = a ∧ ∀ b, b < c → r a b = true → S b = true)
structure Wo (r : Rn) (f : Nat) (T : List Nat) (S : Nat → Bool) : Prop where
  s1 : ∀ b, S b = true → Way r f b
  t1 : ∀ x, x ∈ T → x = f ∨ S x = true
  c1 : ∀ x, (x = f ∨ S x = true) → x ∈ T ∨ (∀ b, r x b = true → S b = true)
theorem Wo.first (r : Rn) (f : Nat) : Wo r f [f] fun _ => false :=
  ⟨fun b h => (by cases h), fun x hx => .inl (List.mem_singleton.1 hx), fun x hx => by
    rcases hx with rfl | h
    · exact .inl (by simp)
    · cases h⟩
theorem Wo.pop {r : Rn} {f a : Nat} {T : List Nat} {S : Nat → Bool} (h : Wo r f (T ++ [a]) S) : Wy r f T S a 0 :=
  ⟨h.s1, fun x hx => h.t1 x (by simp [hx]), h.t1 a (by simp), fun x hx => by
    rcases h.c1 x hx with h1 | h1
    · rcases List.mem_append.1 h1 with h2 | h2
      · exact .inl h2
      · exact .inr (.inr ⟨List.mem_singleton.1 h2, fun b hb => absurd hb (by omega)⟩)
    · exact .inr (.inl h1)⟩
theorem Wy.skip {r : Rn} {f a c : Nat} {T : List Nat} {S : Nat → Bool} (h : Wy r f T S a c) (hc : r a c = true → S c = true) : Wy r f T S a (c + 1) :=
  ⟨h.s1, h.t1, h.ax, fun x hx => by
    rcases h.c1 x hx with h1 | h1 | ⟨h1, h2⟩
    · exact .inl h1
    · exact .inr (.inl h1)
    · exact .inr (.inr ⟨h1, fun b hb hr => by
        by_cases e : b = c
        · subst e; exact hc hr
        · exact h2 b (by omega) hr⟩)⟩
theorem Wy.add {r : Rn} {f a c : Nat} {T : List Nat} {S : Nat → Bool} (h : Wy r f T S a c) (hr : r a c = true) : Wy r f (T ++ [c]) (upd S c true) a (c + 1) := by
  have hs : ∀ b, S b = true → upd S c true b = true := fun b hb => by
    by_cases e : b = c
    · subst e; exact upd_same _ _ _
    · rw [upd_other _ _ e]; exact hb
  have hw : Way r f c := by
    rcases h.ax with e | e
    · subst e; exact .one hr
    · exact .step (h.s1 a e) hr
  refine ⟨fun b hb => ?_, fun x hx => ?_, ?_, fun x hx => ?_⟩
  · by_cases e : b = c
    · subst e; exact hw
    · rw [upd_other _ _ e] at hb; exact h.s1 b hb
  · rcases List.mem_append.1 hx with h1 | h1
    · rcases h.t1 x h1 with e | e
      · exact .inl e
      · exact .inr (hs x e)
    · obtain rfl := List.mem_singleton.1 h1
      exact .inr (upd_same _ _ _)
  · rcases h.ax with e | e
    · exact .inl e
    · exact .inr (hs a e)
  · by_cases e : x = c
    · subst e; exact .inl (by simp)
    · have hx' : x = f ∨ S x = true := by
        rcases hx with h1 | h1
        · exact .inl h1
        · rw [upd_other _ _ e] at h1; exact .inr h1
      rcases h.c1 x hx' with h1 | h1 | ⟨h1, h2⟩
      · exact .inl (by simp [h1])
      · exact .inr (.inl fun b hb => hs b (h1 b hb))
      · exact .inr (.inr ⟨h1, fun b hb hr => by
          by_cases e : b = c
          · subst e; exact upd_same _ _ _
          · exact hs b (h2 b (by omega) hr)⟩)
theorem Wy.done {r : Rn} {n f a : Nat} {T : List Nat} {S : Nat → Bool} (hok : ∀ a c, r a c = true → a < n ∧ c < n) (h : Wy r f T S a n) : Wo r f T S :=
  ⟨h.s1, h.t1, fun x hx => by
    rcases h.c1 x hx with h1 | h1 | ⟨h1, h2⟩
    · exact .inl h1
    · exact .inr h1
    · subst h1
      exact .inr fun b hb => h2 b (hok _ _ hb).2 hb⟩
theorem Wo.end {r : Rn} {n f : Nat} {S : Nat → Bool} (hok : ∀ a c, r a c = true → a < n ∧ c < n) (h : Wo r f [] S) (b : Nat) : clo n r f b = S b := by
  have hcl : ∀ x, (x = f ∨ S x = true) → ∀ b, r x b = true → S b = true := fun x hx b hb => by
    rcases h.c1 x hx with h1 | h1
    · cases h1
    · exact h1 b hb
  have hall : ∀ b, Way r f b → S b = true := fun b hw => by
    generalize hf : f = a at hw
    induction hw with
    | one h1 => subst hf; exact hcl _ (.inl rfl) _ h1
    | step _ h2 ih => exact hcl _ (.inr ih) _ h2
  cases hs : S b
  · cases hq : clo n r f b
    · rfl
    · have := hall b ((clo_way hok).1 hq)
      rw [hs] at this
      cases this
  · exact (clo_way hok).2 (h.s1 b hs)
/-- How many have not been seen. -/
def unS (S : Nat → Bool) (n : Nat) : Nat := cn (fun j => !S j) n
theorem unS_add {S : Nat → Bool} {c n : Nat} (hc : c < n) (hs : S c = false) : unS (upd S c true) n + 1 = unS S n := by
  have := cn_drop (p := fun j => !upd S c true j) (q := fun j => !S j) (a := c) (fun i => by
    by_cases e : i = c
    · subst e; simp [upd_same]
    · rw [upd_other _ _ e]; simp [e]) hc
  simp only [hs, Bool.not_false, if_true] at this
  exact this
theorem unS_le (S : Nat → Bool) (n : Nat) : unS S n ≤ n := cn_le _ _
end Go.Proofs.YtpcpjmbfinpmlaaDoor
