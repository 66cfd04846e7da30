/- What turns in a memory of chapter 8. -/
import Derived.Test.YtjbdbmahbcaniaaClone
set_option linter.unusedSimpArgs false
set_option linter.unusedSectionVars false
namespace Go.Proofs.Ytjbdbmahbcaniaa
open Go.RowKit
set_option linter.unusedVariables false

theorem Upd.trans {w w1 w2 : World} {q : Bs} {s s1 s2 : St} (h : Upd w q s s1 w1) (k : ∀ q1, q1.b = q.b → MemAt w1 q1 s1 → Upd w1 q1 s1 s2 w2) : Upd w q s s2 w2 := by
  obtain ⟨q1, e1, m1, f1, t1⟩ := h
  obtain ⟨q2, e2, m2, f2, t2⟩ := k q1 e1 m1
  refine ⟨q2, e2.trans e1, m2, f1.step f2 fun i hi hs => t1 i hs, fun i hi => ?_⟩
  rcases t2 i hi with h | h
  · exact t1 i h
  · exact .inr (Nat.le_trans f1.size h)
theorem Upd.chain {w w1 w2 : World} {q q1 : Bs} {s s1 s2 : St} (e1 : q1.b = q.b) (f1 : Fr (Foot q s) w w1) (t1 : ∀ k, Foot q1 s1 k → Foot q s k ∨ w.heap.size ≤ k) (h : Upd w1 q1 s1 s2 w2) : Upd w q s s2 w2 := by
  obtain ⟨q2, e2, m2, f2, t2⟩ := h
  refine ⟨q2, e2.trans e1, m2, f1.step f2 fun i hi hs => t1 i hs, fun i hi => ?_⟩
  rcases t2 i hi with h | h
  · exact t1 i h
  · exact .inr (Nat.le_trans f1.size h)
theorem Upd.refl {w : World} {q : Bs} {s : St} (h : MemAt w q s) : Upd w q s s w := ⟨q, rfl, h, Fr.refl _ _, fun _ hk => .inl hk⟩
/-- What comes behind it and turns new blocks alone. -/
theorem Upd.after {w w1 w2 : World} {q : Bs} {s s1 : St} {S : Nat → Prop} (h : Upd w q s s1 w1) (hf : Fr S w1 w2) (hs : ∀ k, S k → w.heap.size ≤ k ∧ ∀ q', MemAt w1 q' s1 → (∀ k, Foot q' s1 k → Foot q s k ∨ w.heap.size ≤ k) → ¬ Foot q' s1 k) : Upd w q s s1 w2 := by
  obtain ⟨q1, e1, m1, f1, t1⟩ := h
  exact ⟨q1, e1, m1.fr hf fun k hk hS => (hs k hS).2 q1 m1 t1 hk, f1.step hf fun i _ hS => .inr (hs i hS).1, t1⟩
theorem Upd.fr0 {w w1 w2 : World} {q : Bs} {s s1 : St} (h : Upd w q s s1 w1) (hf : Fr Nil w1 w2) : Upd w q s s1 w2 := h.after hf fun _ hk => hk.elim
theorem Upd.before {w0 w w1 : World} {q : Bs} {s s1 : St} (hf : Fr Nil w0 w) (hm : MemAt w0 q s) (h : Upd w q s s1 w1) : Upd w0 q s s1 w1 := by
  obtain ⟨q1, e1, m1, f1, t1⟩ := h
  exact ⟨q1, e1, m1, hf.nil.trans f1, fun k hk => (t1 k hk).imp id (Nat.le_trans hf.size)⟩

section
variable {w w1 : World} {q : Bs} {s : St}
theorem MemAt.b_bw (h : MemAt w q s) : q.b ≠ q.bw := h.top.ne_ h.words (by decide)
theorem MemAt.b_bh (h : MemAt w q s) : q.b ≠ q.bh := h.top.ne_ h.held (by decide)
theorem MemAt.bw_bh (h : MemAt w q s) : q.bw ≠ q.bh := h.words.ne_ h.held (by decide)
theorem MemAt.sv_new (hm : MemAt w q s) {v' : Value} {n' : Nat} {xs : List Value} {w1 : World} (hw : Win w1 3 1 v' n' xs) (hat : ∀ k, v'.ownBlock = some k → q.sv.ownBlock = some k ∨ w.heap.size ≤ k) {k : Nat} (hk : v'.ownBlock = some k) : k ≠ q.b ∧ k ≠ q.bw ∧ k ≠ q.bh ∧ (∀ i, i < s.c → (q.hv i).ownBlock ≠ some k) ∧ q.ov.ownBlock ≠ some k := by
  have l1 := hm.top.lt
  have l2 := hm.words.lt
  have l3 := hm.held.lt
  rcases hat k hk with h | h
  · refine ⟨?_, ?_, ?_, fun i hi e => ?_, hm.apart2 k h⟩
    · rintro rfl; exact hm.stamp.ne hm.top (by decide) h
    · rintro rfl; exact hm.stamp.ne hm.words (by decide) h
    · rintro rfl; exact hm.stamp.ne hm.held (by decide) h
    · exact hm.stamp.ne2 (hm.own i hi) (by decide) h e
  · refine ⟨by omega, by omega, by omega, fun i hi e => ?_, fun e => ?_⟩
    · have := (hm.own i hi).lt e; omega
    · have := hm.order.lt e; omega
theorem MemAt.setSv (hm : MemAt w q s) {st' : List Nat} {v' : Value} (hf : Fr (fun k => q.sv.ownBlock = some k) w w1) (hw : Win w1 3 1 v' st'.length (its st')) (hat : ∀ k, v'.ownBlock = some k → q.sv.ownBlock = some k ∨ w.heap.size ≤ k) :
    Upd w q s { s with st := st' } (w1.setCell ⟨q.b, 3, none⟩ v') := by
  have n1 : q.sv.ownBlock ≠ some q.b := hm.stamp.ne hm.top (by decide)
  have n2 : q.sv.ownBlock ≠ some q.bw := hm.stamp.ne hm.words (by decide)
  have n3 : q.sv.ownBlock ≠ some q.bh := hm.stamp.ne hm.held (by decide)
  have nv : v'.ownBlock ≠ some q.b := fun e => (hm.sv_new hw hat e).1 rfl
  refine ⟨{ q with sv := v' }, rfl, ⟨?_, ?_, ?_, fun i hi => ?_, ?_, ?_, hm.apart, fun k hk => (hm.sv_new hw hat hk).2.2.2.2⟩, ?_, fun k hk => ?_⟩
  · exact ((hm.top.fr hf n1).set_ 3 v').cast rfl
  · exact (hm.words.fr hf n2).farc (Ne.symm hm.b_bw) _
  · exact (hm.held.fr hf n3).farc (Ne.symm hm.b_bh) _
  · exact ((hm.own i hi).fr hf fun k hk hs => hm.stamp.ne2 (hm.own i hi) (by decide) hs hk).far ((hm.own i hi).ne hm.top (by decide)) _
  · exact hw.far nv _
  · exact (hm.order.fr hf fun k hk hs => hm.apart2 k hs hk).far (hm.order.ne hm.top (by decide)) _
  · exact (hf.mono (S' := Foot q s) fun k _ hk => .inr (.inr (.inr (.inr (.inl hk))))).setCell (p := ⟨q.b, 3, none⟩) (.inl (.inl rfl)) _
  · rcases hk with h | h | h | h | h | h
    · exact .inl (.inl h)
    · exact .inl (.inr (.inl h))
    · exact .inl (.inr (.inr (.inl h)))
    · exact .inl (.inr (.inr (.inr (.inl h))))
    · exact (hat k h).imp (fun h => .inr (.inr (.inr (.inr (.inl h))))) id
    · exact .inl (.inr (.inr (.inr (.inr (.inr h)))))
theorem MemAt.ov_new (hm : MemAt w q s) {v' : Value} (hat : ∀ k, v'.ownBlock = some k → q.ov.ownBlock = some k ∨ w.heap.size ≤ k) {k : Nat} (hk : v'.ownBlock = some k) : k ≠ q.b ∧ k ≠ q.bw ∧ k ≠ q.bh ∧ (∀ i, i < s.c → (q.hv i).ownBlock ≠ some k) ∧ q.sv.ownBlock ≠ some k := by
  have l1 := hm.top.lt
  have l2 := hm.words.lt
  have l3 := hm.held.lt
  rcases hat k hk with h | h
  · refine ⟨?_, ?_, ?_, fun i hi e => ?_, fun e => hm.apart2 k e h⟩
    · rintro rfl; exact hm.order.ne hm.top (by decide) h
    · rintro rfl; exact hm.order.ne hm.words (by decide) h
    · rintro rfl; exact hm.order.ne hm.held (by decide) h
    · exact hm.order.ne2 (hm.own i hi) (by decide) h e
  · refine ⟨by omega, by omega, by omega, fun i hi e => ?_, fun e => ?_⟩
    · have := (hm.own i hi).lt e; omega
    · have := hm.stamp.lt e; omega
theorem MemAt.setOv (hm : MemAt w q s) {od' : List Nat} {v' : Value} (hf : Fr (fun k => q.ov.ownBlock = some k) w w1) (hw : Win w1 3 1 v' od'.length (its od')) (hat : ∀ k, v'.ownBlock = some k → q.ov.ownBlock = some k ∨ w.heap.size ≤ k) :
    Upd w q s { s with od := od' } (w1.setCell ⟨q.b, 4, none⟩ v') := by
  have n1 : q.ov.ownBlock ≠ some q.b := hm.order.ne hm.top (by decide)
  have n2 : q.ov.ownBlock ≠ some q.bw := hm.order.ne hm.words (by decide)
  have n3 : q.ov.ownBlock ≠ some q.bh := hm.order.ne hm.held (by decide)
  have nv : v'.ownBlock ≠ some q.b := fun e => (hm.ov_new hat e).1 rfl
  refine ⟨{ q with ov := v' }, rfl, ⟨?_, ?_, ?_, fun i hi => ?_, ?_, ?_, hm.apart, fun k hk e => (hm.ov_new hat e).2.2.2.2 hk⟩, ?_, fun k hk => ?_⟩
  · exact ((hm.top.fr hf n1).set_ 4 v').cast rfl
  · exact (hm.words.fr hf n2).farc (Ne.symm hm.b_bw) _
  · exact (hm.held.fr hf n3).farc (Ne.symm hm.b_bh) _
  · exact ((hm.own i hi).fr hf fun k hk hs => hm.order.ne2 (hm.own i hi) (by decide) hs hk).far ((hm.own i hi).ne hm.top (by decide)) _
  · exact (hm.stamp.fr hf fun k hk hs => hm.apart2 k hk hs).far (hm.stamp.ne hm.top (by decide)) _
  · exact hw.far nv _
  · exact (hf.mono (S' := Foot q s) fun k _ hk => .inr (.inr (.inr (.inr (.inr hk))))).setCell (p := ⟨q.b, 4, none⟩) (.inl (.inl rfl)) _
  · rcases hk with h | h | h | h | h | h
    · exact .inl (.inl h)
    · exact .inl (.inr (.inl h))
    · exact .inl (.inr (.inr (.inl h)))
    · exact .inl (.inr (.inr (.inr (.inl h))))
    · exact .inl (.inr (.inr (.inr (.inr (.inl h)))))
    · exact (hat k h).imp (fun h => .inr (.inr (.inr (.inr (.inr h))))) id
theorem MemAt.setHv (hm : MemAt w q s) {i : Nat} (hi : i < s.c) {l : List L} {v' : Value} (hf : Fr (fun k => (q.hv i).ownBlock = some k) w w1) (hw : Win w1 47 3 v' l.length (lcs l)) (hat : ∀ k, v'.ownBlock = some k → (q.hv i).ownBlock = some k ∨ w.heap.size ≤ k) :
    Upd w q s { s with H := upd s.H i l } (w1.setCell ⟨q.bh, i, none⟩ v') := by
  have oi := hm.own i hi
  have n1 : (q.hv i).ownBlock ≠ some q.b := oi.ne hm.top (by decide)
  have n2 : (q.hv i).ownBlock ≠ some q.bw := oi.ne hm.words (by decide)
  have n3 : (q.hv i).ownBlock ≠ some q.bh := oi.ne hm.held (by decide)
  have l3 := hm.held.lt
  have nv : v'.ownBlock ≠ some q.bh := fun e => by
    rcases hat _ e with h | h
    · exact n3 h
    · omega
  have no : ∀ j, j < s.c → j ≠ i → ∀ k, v'.ownBlock = some k → (q.hv j).ownBlock ≠ some k := fun j hj hne k hk e => by
    rcases hat _ hk with h | h
    · exact hm.apart i j k hi hj (Ne.symm hne) h e
    · have := (hm.own j hj).lt e; omega
  refine ⟨{ q with hv := upd q.hv i v' }, rfl, ⟨?_, ?_, ?_, fun j hj => ?_, ?_, ?_, fun j j' k hj hj' hne h1 h2 => ?_, hm.apart2⟩, ?_, fun k hk => ?_⟩
  · exact (hm.top.fr hf n1).farc hm.b_bh _
  · exact (hm.words.fr hf n2).farc hm.bw_bh _
  · exact ((hm.held.fr hf n3).set_ i v').cast (hvs_set i v')
  · by_cases hji : j = i
    · subst hji
      simp only [upd_same]
      exact hw.far nv _
    · simp only [upd_other _ _ hji]
      exact ((hm.own j hj).fr hf fun k hk hs => hm.apart i j k hi hj (Ne.symm hji) hs hk).far ((hm.own j hj).ne hm.held (by decide)) _
  · exact (hm.stamp.fr hf fun k hk hs => oi.ne2 hm.stamp (by decide) hs hk).far (hm.stamp.ne hm.held (by decide)) _
  · exact (hm.order.fr hf fun k hk hs => oi.ne2 hm.order (by decide) hs hk).far (hm.order.ne hm.held (by decide)) _
  · by_cases a : j = i
    · subst a
      simp only [upd_same, upd_other _ _ (Ne.symm hne)] at h1 h2
      exact no j' hj' (Ne.symm hne) k h1 h2
    · by_cases a' : j' = i
      · subst a'
        simp only [upd_same, upd_other _ _ hne] at h1 h2
        exact no j hj hne k h2 h1
      · simp only [upd_other _ _ a, upd_other _ _ a'] at h1 h2
        exact hm.apart j j' k hj hj' hne h1 h2
  · exact (hf.mono (S' := Foot q s) fun k _ hk => .inr (.inr (.inr (.inl ⟨i, hi, hk⟩)))).setCell (p := ⟨q.bh, i, none⟩) (.inl (.inr (.inr (.inl rfl)))) _
  · rcases hk with h | h | h | ⟨j, hj, h⟩ | h | h
    · exact .inl (.inl h)
    · exact .inl (.inr (.inl h))
    · exact .inl (.inr (.inr (.inl h)))
    · by_cases hji : j = i
      · subst hji
        simp only [upd_same] at h
        exact (hat k h).imp (fun h => .inr (.inr (.inr (.inl ⟨j, hj, h⟩)))) id
      · simp only [upd_other _ _ hji] at h
        exact .inl (.inr (.inr (.inr (.inl ⟨j, hj, h⟩))))
    · exact .inl (.inr (.inr (.inr (.inr (.inl h)))))
    · exact .inl (.inr (.inr (.inr (.inr (.inr h)))))
theorem MemAt.setStamp (hm : MemAt w q s) {g off cap t x : Nat} (he : q.sv = .slice (some ⟨g, off, none⟩) s.st.length cap) : Upd w q s { s with st := s.st.set t x } (w.setCell ⟨g, off + t, none⟩ (.int .i64 (x : Int))) := by
  have hg : q.sv.ownBlock = some g := by rw [he]; rfl
  have hs := hm.stamp
  have hw : Win (w.setCell ⟨g, off + t, none⟩ (.int .i64 (x : Int))) 3 1 q.sv (s.st.set t x).length (its (s.st.set t x)) := by
    rw [he] at hs ⊢
    have := hs.set_ t (.int .i64 (x : Int))
    rw [List.length_set]
    have e : its (s.st.set t x) = (its s.st).set t (.int .i64 (x : Int)) := by simp [its, List.map_set]
    rw [e]
    exact this
  refine ⟨q, rfl, ⟨?_, ?_, ?_, fun i hi => ?_, hw, ?_, hm.apart, hm.apart2⟩, ?_, fun k hk => .inl hk⟩
  · exact hm.top.farc (fun e => hs.ne hm.top (by decide) (by rw [e]; exact hg)) _
  · exact hm.words.farc (fun e => hs.ne hm.words (by decide) (by rw [e]; exact hg)) _
  · exact hm.held.farc (fun e => hs.ne hm.held (by decide) (by rw [e]; exact hg)) _
  · exact (hm.own i hi).far (fun e => hs.ne2 (hm.own i hi) (by decide) hg e) _
  · exact hm.order.far (fun e => hm.apart2 g hg e) _
  · exact (Fr.refl _ _).setCell (p := ⟨g, off + t, none⟩) (.inl (.inr (.inr (.inr (.inr (.inl hg)))))) _
/-- Behind a turn of the words' block alone. -/
theorem MemAt.setWords (hm : MemAt w q s) {V : Nat → Int} {T : Nat → Nat} (hf : Fr (One q.bw) w w1) (hw : Blk w1 q.bw 79 (wcs V T s.n)) : Upd w q s { s with V := V, T := T } w1 := by
  refine ⟨q, rfl, ⟨?_, hw, ?_, fun i hi => ?_, ?_, ?_, hm.apart, hm.apart2⟩, ?_, fun k hk => .inl hk⟩
  · exact hm.top.fr1 hf hm.b_bw
  · exact hm.held.fr1 hf (Ne.symm hm.bw_bh)
  · exact (hm.own i hi).fr hf fun k hk hs => by cases hs; exact (hm.own i hi).ne hm.words (by decide) hk
  · exact hm.stamp.fr hf fun k hk hs => by cases hs; exact hm.stamp.ne hm.words (by decide) hk
  · exact hm.order.fr hf fun k hk hs => by cases hs; exact hm.order.ne hm.words (by decide) hk
  · exact hf.mono fun k _ hk => .inr (.inl hk)
end
end Go.Proofs.Ytjbdbmahbcaniaa
