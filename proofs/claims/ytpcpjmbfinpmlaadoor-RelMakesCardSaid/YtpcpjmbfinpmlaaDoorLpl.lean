/- The laws of relations: plain. -/
import Derived.Test.YtpcpjmbfinpmlaaDoorTrn
import Derived.Test.YtpcpjmbfinpmlaaDoorWpl
set_option linter.unusedSimpArgs false
set_option linter.unusedVariables false
set_option linter.unusedSectionVars false
namespace Go.Proofs.YtpcpjmbfinpmlaaDoor
open Go.RowKit
set_option maxRecDepth 100000

theorem nodup_len {n : Nat} {L : List Nat} (hd : L.Nodup) (hl : ∀ x, x ∈ L → x < n) : L.length ≤ n := by
  refine pig n L.length (fun i => L.getD i 0) (fun i hi => ?_) (fun i j hi hj e => ?_)
  · have e : L.getD i 0 = L[i] := by simp [List.getD_eq_getElem?_getD, hi]
    show L.getD i 0 < n
    rw [e]
    exact hl _ (List.getElem_mem hi)
  · have e1 : L.getD i 0 = L[i] := by simp [List.getD_eq_getElem?_getD, hi]
    have e2 : L.getD j 0 = L[j] := by simp [List.getD_eq_getElem?_getD, hj]
    have e' : L[i] = L[j] := by
      rw [← e1, ← e2]; exact e
    exact (List.getElem_inj hd).1 e'
theorem nodup_all {n : Nat} {L : List Nat} (hd : L.Nodup) (hl : ∀ x, x ∈ L → x < n) (he : L.length = n) {b : Nat} (hb : b < n) : b ∈ L := by
  by_cases hm : b ∈ L
  · exact hm
  · have := nodup_len (n := n) (L := b :: L) (List.nodup_cons.2 ⟨hm, hd⟩) (fun x hx => by
      rcases List.mem_cons.1 hx with rfl | h
      · exact hb
      · exact hl x h)
    simp at this
    omega
theorem Ords.before {r : Rn} {n : Nat} {L : List Nat} (h : Ords r n L) : ∀ (j : Nat) (hj : j < L.length) (a : Nat), a < 64 → r a L[j] = true → ∃ (i : Nat) (hi : i < L.length), i < j ∧ L[i] = a := by
  induction h with
  | nil => intro j hj; simp at hj
  | @snoc L b h hl ih =>
    intro j hj a ha hr
    by_cases e : j = L.length
    · subst e
      have e2 : (L ++ [b])[L.length] = b := by simp
      rw [e2] at hr
      have h0 := wts_zero.1 hl.1.2.2 a ha hr
      obtain ⟨i, hi, hx⟩ := List.getElem_of_mem h0
      exact ⟨i, by simp; omega, hi, by rw [List.getElem_append_left hi]; exact hx⟩
    · have hj' : j < L.length := by simp at hj; omega
      rw [List.getElem_append_left hj'] at hr
      obtain ⟨i, hi, h1, h2⟩ := ih j hj' a ha hr
      exact ⟨i, by simp; omega, h1, by rw [List.getElem_append_left hi]; exact h2⟩
def posL (L : List Nat) : Nat → Nat → Int
  | 0 => fun _ => -1
  | k + 1 => upd (posL L k) (L.getD k 0) (k : Int)
theorem posL_at {L : List Nat} (hd : L.Nodup) {i : Nat} (hi : i < L.length) : ∀ k, k ≤ L.length → posL L k L[i] = if i < k then (i : Int) else -1
  | 0, _ => rfl
  | k + 1, hk => by
    have e1 : L.getD k 0 = L[k] := by simp [List.getD_eq_getElem?_getD, show k < L.length by omega]
    unfold posL
    rw [e1]
    by_cases e : i = k
    · subst e
      rw [upd_same, if_pos (by omega)]
    · rw [upd_other _ _ (fun h => e ((List.getElem_inj hd).1 h)), posL_at hd hi k (by omega)]
      have : (i < k + 1) = (i < k) := by apply propext; omega
      simp only [this]
theorem thenR_assoc (r s t : Rn) : thenR (thenR r s) t = thenR r (thenR s t) := by
  funext a c
  have e : ∀ (x y : Rn) (a c : Nat), thenR x y a c = true ↔ ∃ b, b < 64 ∧ x a b = true ∧ y b c = true := fun x y a c => acc_true
  rw [Bool.eq_iff_iff, e, e]
  constructor
  · rintro ⟨b, hb, h1, h2⟩
    obtain ⟨d, hd, h3, h4⟩ := (e _ _ _ _).1 h1
    exact ⟨d, hd, h3, (e _ _ _ _).2 ⟨b, hb, h4, h2⟩⟩
  · rintro ⟨d, hd, h3, h4⟩
    obtain ⟨b, hb, h1, h2⟩ := (e _ _ _ _).1 h4
    exact ⟨b, hb, (e _ _ _ _).2 ⟨d, hd, h3, h1⟩, h2⟩
theorem clo_ok {n : Nat} {r : Rn} (hok : ∀ a c, r a c = true → a < n ∧ c < n) (a c : Nat) (h : clo n r a c = true) : a < n ∧ c < n := clK_ok hok n a c h
theorem clo_idem {n : Nat} {r : Rn} (hok : ∀ a c, r a c = true → a < n ∧ c < n) : clo n (clo n r) = clo n r := by
  funext a c
  rw [Bool.eq_iff_iff, clo_way (clo_ok hok)]
  constructor
  · intro h
    rw [clo_way hok]
    induction h with
    | one h => exact (clo_way hok).1 h
    | step h h2 ih => exact ih.trans ((clo_way hok).1 h2)
  · exact Way.one
theorem Way.lt {n : Nat} {r : Rn} (hok : ∀ a c, r a c = true → a < n ∧ c < n) {a c : Nat} (h : Way r a c) : a < n ∧ c < n := by
  induction h with
  | one h => exact hok _ _ h
  | step h h2 ih => exact ⟨ih.1, (hok _ _ h2).2⟩
theorem Way.before {r : Rn} {n : Nat} {L : List Nat} (hok : ∀ a c, r a c = true → a < n ∧ c < n) (h64 : n ≤ 64) (h : Ords r n L) {a c : Nat} (hw : Way r a c) : ∀ (j : Nat) (hj : j < L.length), L[j] = c → ∃ (i : Nat) (hi : i < L.length), i < j ∧ L[i] = a := by
  induction hw with
  | one hr =>
    intro j hj e
    exact h.before j hj _ (Nat.lt_of_lt_of_le (hok _ _ hr).1 h64) (by rw [e]; exact hr)
  | step hw hr ih =>
    intro j hj e
    obtain ⟨i, hi, h1, h2⟩ := h.before j hj _ (Nat.lt_of_lt_of_le (hok _ _ hr).1 h64) (by rw [e]; exact hr)
    obtain ⟨i2, hi2, h3, h4⟩ := ih i hi h2
    exact ⟨i2, hi2, by omega, h4⟩
theorem order_noloop {r : Rn} {n : Nat} {L : List Nat} (hok : ∀ a c, r a c = true → a < n ∧ c < n) (h64 : n ≤ 64) (h : Ords r n L) (he : L.length = n) (a : Nat) : clo n r a a = false := by
  cases hc : clo n r a a
  · rfl
  · have hw := (clo_way hok).1 hc
    have hd := h.lt
    obtain ⟨j, hj, e⟩ := List.getElem_of_mem (nodup_all hd.2.1 hd.1 he (hw.lt hok).1)
    obtain ⟨i, hi, h1, h2⟩ := hw.before hok h64 h j hj e
    have := (List.getElem_inj hd.2.1).1 (h2.trans e.symm)
    omega
theorem noorder_loop {r : Rn} {n : Nat} {L : List Nat} (hok : ∀ a c, r a c = true → a < n ∧ c < n) (h64 : n ≤ 64) (h : OrdF r n L) (he : L.length < n) : ∃ a, a < n ∧ clo n r a a = true := by
  have hb : ∃ b, b < n ∧ b ∉ L := by
    refine Classical.byContradiction fun hn => ?_
    have hall : ∀ b, b < n → b ∈ L := fun b hb => Classical.byContradiction fun hm => hn ⟨b, hb, hm⟩
    have := pig L.length n (fun b => L.idxOf b) (fun i hi => List.idxOf_lt_length_of_mem (hall i hi)) (fun i j hi hj e => by
      have h1 := List.getElem_idxOf (List.idxOf_lt_length_of_mem (hall i hi))
      have h2 := List.getElem_idxOf (List.idxOf_lt_length_of_mem (hall j hj))
      have e' : L.idxOf i = L.idxOf j := e
      rw [← h1, ← h2]
      simp only [e'])
    omega
  obtain ⟨b0, hb0, hm0⟩ := hb
  have hp : ∀ b, ∃ a, (b < n ∧ b ∉ L) → (a < n ∧ a ∉ L) ∧ r a b = true := fun b => by
    by_cases hc : b < n ∧ b ∉ L
    · have h1 : ¬ wts r L b = 0 := fun e => h.2 b ⟨hc.1, hc.2, e⟩
      rw [wts_zero] at h1
      obtain ⟨a, ha⟩ := Classical.not_forall.1 h1
      have h2 : a < 64 ∧ r a b = true ∧ a ∉ L := by
        refine ⟨?_, ?_, ?_⟩
        · exact Classical.byContradiction fun hx => ha fun h => absurd h hx
        · exact Classical.byContradiction fun hx => ha fun _ h => absurd h hx
        · exact fun hx => ha fun _ _ => hx
      exact ⟨a, fun _ => ⟨⟨(hok a b h2.2.1).1, h2.2.2⟩, h2.2.1⟩⟩
    · exact ⟨0, fun h => absurd h hc⟩
  obtain ⟨pre, hpre⟩ := Classical.axiomOfChoice hp
  let f : Nat → Nat := fun i => Nat.rec b0 (fun _ x => pre x) i
  have f0 : f 0 = b0 := rfl
  have fs : ∀ i, f (i + 1) = pre (f i) := fun i => rfl
  have hf : ∀ i, f i < n ∧ f i ∉ L := by
    intro i
    induction i with
    | zero => exact ⟨hb0, hm0⟩
    | succ i ih => rw [fs]; exact (hpre _ ih).1
  have hw : ∀ i d, Way r (f (i + (d + 1))) (f i) := by
    intro i d
    induction d with
    | zero => exact .one (by rw [Nat.zero_add, fs]; exact (hpre _ (hf i)).2)
    | succ d ih =>
      refine Way.trans (c := f (i + (d + 1))) (.one ?_) ih
      rw [← Nat.add_assoc, fs]
      exact (hpre _ (hf (i + (d + 1)))).2
  refine Classical.byContradiction fun hn => ?_
  have := pig n (n + 1) f (fun i _ => (hf i).1) (fun i j _ _ e => by
    rcases Nat.lt_trichotomy i j with h1 | h1 | h1
    · have h2 := hw i (j - i - 1)
      rw [show i + (j - i - 1 + 1) = j by omega, ← e] at h2
      exact absurd ⟨f i, (hf i).1, (clo_way hok).2 h2⟩ hn
    · exact h1
    · have h2 := hw j (i - j - 1)
      rw [show j + (i - j - 1 + 1) = i by omega, e] at h2
      exact absurd ⟨f j, (hf j).1, (clo_way hok).2 h2⟩ hn)
  omega
end Go.Proofs.YtpcpjmbfinpmlaaDoor
