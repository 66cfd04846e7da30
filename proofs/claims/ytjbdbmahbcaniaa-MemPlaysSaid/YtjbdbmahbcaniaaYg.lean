/- Both memories: each call on one of the two. -/
import Derived.Test.YtjbdbmahbcaniaaYe
set_option linter.unusedSimpArgs false
set_option linter.unusedVariables false
set_option linter.unusedSectionVars false
namespace Go.Proofs.Ytjbdbmahbcaniaa
open Go.RowKit
set_option maxRecDepth 100000

section
variable {w0 w : World} {KB : Nat → Prop} {rb m : Nat} {q q' : Bs} {s s' : St} {fv av : Value} {F : Nat → Int} {g : List G} {i k : Nat} {a v : Int}
theorem Pq.pstore (h : Pq w0 w KB rb q s fv av F g m) (hi : i < s.c) (hk : k < s.n) (ha : a = 8 * (k : Int)) (hd : (s.H i).length < s.d) (hm : m ≤ 200) :
    Calls Try.prog 14 #[.pointer (some ⟨q.b, 0, none⟩), .int .i64 (i : Int), .int .u64 a, .int .u64 v] w fun e w' => e = .returned (.tuple #[.int .i64 (s.st.length : Int), .int .i64 0]) ∧
      ∃ q', q'.b = q.b ∧ Pd w0 w' KB rb q' (s.hold i ⟨8 * (k : Int), v, s.st.length⟩) fv av F (als g s.st) s.od.length ∧ Fr (Non KB) w w' := by
  subst ha
  have hl := h.len
  have hs := h.stl
  refine (store_ok q s i ⟨8 * (k : Int), v, s.st.length⟩ k w h.pd.hm hi hk h.n1.2 rfl rfl hd h.d1.2 (by omega)).mono ?_
  rintro e w' ⟨rfl, q2, hb, hm2, f, t⟩
  obtain ⟨p, f2⟩ := h.pd.prog hm2 f t rfl rfl rfl
  exact ⟨rfl, q2, hb, p, f2⟩
theorem Pq.pdrain (h : Pq w0 w KB rb q s fv av F g m) (hi : i < s.c) {x : L} {l : List L} (hx : s.H i = x :: l) (hm : m ≤ 200) :
    Calls Try.prog 24 #[.pointer (some ⟨q.b, 0, none⟩), .int .i64 (i : Int)] w fun e w' => e = .returned (.tuple #[.agg #[.int .u64 x.a, .int .u64 x.v, .int .i64 (x.t : Int)], .int .i64 0]) ∧
      ∃ q', q'.b = q.b ∧ Pd w0 w' KB rb q' (s.drain1 i) fv av F (als g s.st) s.od.length ∧ Fr (Non KB) w w' := by
  have hl := h.len
  have hs := h.stl
  have ho := h.odl
  obtain ⟨f1, f2, f3⟩ := h.ok.fine hi x (by rw [hx]; exact List.mem_cons_self)
  refine (drain_ok q s i x l x.k w h.pd.hm hi hx f1 h.n1.2 f2 f3 (by omega) (by omega)).mono ?_
  rintro e w' ⟨rfl, u⟩
  rw [← drain1_cons hx] at u
  obtain ⟨q2, hb, hm2, f, t⟩ := u
  obtain ⟨en, ec, ed, _⟩ := drain1_same s i
  obtain ⟨p, f2⟩ := h.pd.prog hm2 f t en ec ed
  exact ⟨rfl, q2, hb, p, f2⟩
theorem Pq.pflush (h : Pq w0 w KB rb q s fv av F g m) (hi : i < s.c) (hm : m ≤ 200) :
    Calls Try.prog 16 #[.pointer (some ⟨q.b, 0, none⟩), .int .i64 (i : Int)] w fun e w' => ∃ aa cap q', e = .returned (.tuple #[.slice aa (s.H i).length cap, .int .i64 0]) ∧ q'.b = q.b ∧ Pd w0 w' KB rb q' (s.drains i (s.H i).length) fv av F (als g s.st) s.od.length ∧ Fr (Non KB) w w' ∧
      Win w' 47 3 (.slice aa (s.H i).length cap) (s.H i).length (lcs (s.H i)) ∧ ∀ k, (Value.slice aa (s.H i).length cap).ownBlock = some k → w.heap.size ≤ k ∧ ¬ Foot q' (s.drains i (s.H i).length) k := by
  have hl := h.len
  have hs := h.stl
  have ho := h.odl
  have hh := h.Hl hi
  refine (flush_ok q s i w h.pd.hm hi h.n1.2 (h.ok.fine hi) (by omega) (by omega) (by omega)).mono ?_
  rintro e w' ⟨lv, q2, rfl, u⟩
  obtain ⟨en, ec, ed, _⟩ := drains_same s i (s.H i).length
  obtain ⟨p, f2⟩ := h.pd.prog u.mem u.fr u.foot en ec ed
  obtain ⟨aa, cap, hv, _⟩ := u.win.shape
  have hw := u.win
  have hown := u.own
  rw [hv] at hw hown ⊢
  exact ⟨aa, cap, q2, rfl, u.b, p, f2, hw, hown⟩
theorem Pq.pput (h : Pq w0 w KB rb q s fv av F g m) (hi : i < s.c) (hk : k < s.n) (ha : a = 8 * (k : Int)) (hm : m ≤ 200) :
    Calls Try.prog 25 #[.pointer (some ⟨q.b, 0, none⟩), .int .i64 (i : Int), .int .u64 a, .int .u64 v] w fun e w' => ∃ aa cap q', e = .returned (.tuple #[.int .i64 (s.st.length : Int), .slice aa (s.H i).length cap, .int .i64 0]) ∧ q'.b = q.b ∧ Pd w0 w' KB rb q' (s.put i k v) fv av F (als g s.st) s.od.length ∧ Fr (Non KB) w w' ∧
      Win w' 47 3 (.slice aa (s.H i).length cap) (s.H i).length (lcs (s.H i)) ∧ ∀ k', (Value.slice aa (s.H i).length cap).ownBlock = some k' → w.heap.size ≤ k' ∧ ¬ Foot q' (s.put i k v) k' := by
  have hl := h.len
  have hs := h.stl
  have ho := h.odl
  have hh := h.Hl hi
  refine (put_ok q s i a v k w h.pd.hm hi hk h.n1.2 ha (h.ok.fine hi) (by omega) (by omega) (by omega)).mono ?_
  rintro e w' ⟨lv, q2, rfl, u⟩
  obtain ⟨en, ec, ed, _⟩ := drains_same s i (s.H i).length
  obtain ⟨p, f2⟩ := h.pd.prog u.mem u.fr u.foot (show (s.put i k v).n = s.n from en) (show (s.put i k v).c = s.c from ec) (show (s.put i k v).d = s.d from ed)
  obtain ⟨aa, cap, hv, _⟩ := u.win.shape
  have hw := u.win
  have hown := u.own
  rw [hv] at hw hown ⊢
  exact ⟨aa, cap, q2, rfl, u.b, p, f2, hw, hown⟩
theorem Pq.pheld (h : Pq w0 w KB rb q s fv av F g m) (hi : i < s.c) (hm : m ≤ 200) :
    Calls Try.prog 29 #[.pointer (some ⟨q.b, 0, none⟩), .int .i64 (i : Int)] w fun e w' => ∃ aa cap, e = .returned (.slice aa (s.H i).length cap) ∧ Fr Nil w w' ∧
      Win w' 47 3 (.slice aa (s.H i).length cap) (s.H i).length (lcs (s.H i)) ∧ ∀ k, (Value.slice aa (s.H i).length cap).ownBlock = some k → w.heap.size ≤ k := by
  have hl := h.len
  have hh := h.Hl hi
  refine (held_ok q s i w h.pd.hm hi (by omega)).mono ?_
  rintro e w' ⟨lv, rfl, hw, f, ho⟩
  obtain ⟨aa, cap, hv, _⟩ := hw.shape
  rw [hv] at hw ho ⊢
  exact ⟨aa, cap, rfl, f, hw, ho⟩
/-- The document's half. -/
theorem Pd.rstoreF (D : Pd w0 w KB rb q' s' fv av F (als g s.st) s.od.length) (ok : Ok g F s) (hi : i < s.c) (ha : a = 8 * (k : Int)) (hd : s'.d ≤ (s.H i).length) (hd2 : s'.d ≤ 32) (hl : g.length ≤ 200) :
    Calls Try.prog 43 #[.pointer (some ⟨rb, 0, none⟩), .int .i64 (i : Int), .int .u64 a, .int .u64 v] w fun e w' => e = .returned (.tuple #[.int .i64 0, .int .i64 30]) ∧ Fr Nil w w' := by
  have h := rstore_ok rb fv av s'.n s'.c s'.d F (als g s.st) s.od.length i k (i : Int) a v w D.hr rfl ha hd2 (by rw [als_len]; omega)
  have e1 : s'.d ≤ (heldK (als g s.st) i (als g s.st).length).length := by rw [als_len, ok.held hi, List.length_map]; exact hd
  simp only [if_pos e1] at h
  exact h
theorem Pd.rstoreO (D : Pd w0 w KB rb q' s' fv av F (als g s.st) s.od.length) (ok : Ok g F s) (hi : i < s.c) (ha : a = 8 * (k : Int)) (hd : (s.H i).length < s'.d) (hd2 : s'.d ≤ 32) (hl : g.length ≤ 200) :
    Calls Try.prog 43 #[.pointer (some ⟨rb, 0, none⟩), .int .i64 (i : Int), .int .u64 a, .int .u64 v] w fun e w' => e = .returned (.tuple #[.int .i64 (s.st.length : Int), .int .i64 0]) ∧
      ∃ av', Pd w0 w' KB rb q' s' fv av' F (als g s.st ++ [⟨i, k, v, 0⟩]) s.od.length ∧ Fr (Non KB) w w' := by
  have h := rstore_ok rb fv av s'.n s'.c s'.d F (als g s.st) s.od.length i k (i : Int) a v w D.hr rfl ha hd2 (by rw [als_len]; omega)
  have e1 : ¬ s'.d ≤ (heldK (als g s.st) i (als g s.st).length).length := by rw [als_len, ok.held hi, List.length_map]; omega
  simp only [if_neg e1] at h
  refine h.mono ?_
  rintro e w' ⟨rfl, av', hr, f, t⟩
  obtain ⟨p, f2⟩ := D.ref hr f t
  refine ⟨?_, av', p, f2⟩
  rw [als_len, ok.len]
  rfl
theorem Pd.rdrainN (D : Pd w0 w KB rb q' s' fv av F (als g s.st) s.od.length) (ok : Ok g F s) (hi : i < s.c) (hx : s.H i = []) (hl : g.length ≤ 200) :
    Calls Try.prog 44 #[.pointer (some ⟨rb, 0, none⟩), .int .i64 (i : Int)] w fun e w' => e = .returned (.tuple #[.int .i64 0, .int .i64 31]) ∧ Fr Nil w w' := by
  have h := rdrain_ok rb fv av s'.n s'.c s'.d F (als g s.st) s.od.length i (i : Int) w D.hr rfl (by rw [als_len]; omega) (by have := ok.odl; omega)
  rw [als_len, ok.held hi, hx] at h
  exact h
theorem Pd.rdrainC (D : Pd w0 w KB rb q' s' fv av F (als g s.st) s.od.length) (ok : Ok g F s) (hi : i < s.c) {x : L} {l : List L} (hx : s.H i = x :: l) (hl : g.length ≤ 200) :
    Calls Try.prog 44 #[.pointer (some ⟨rb, 0, none⟩), .int .i64 (i : Int)] w fun e w' => e = .returned (.tuple #[.int .i64 (x.t : Int), .int .i64 0]) ∧
      Pd w0 w' KB rb q' s' fv av F (drA (als g s.st) x.t s.od.length) (s.od.length + 1) ∧ Fr (Non KB) w w' := by
  have h := rdrain_ok rb fv av s'.n s'.c s'.d F (als g s.st) s.od.length i (i : Int) w D.hr rfl (by rw [als_len]; omega) (by have := ok.odl; omega)
  rw [als_len, ok.held hi, hx] at h
  refine h.mono ?_
  rintro e w' ⟨rfl, hr, f⟩
  exact ⟨rfl, D.ref hr f fun b hb => .inl hb⟩
theorem Pd.rflushP (D : Pd w0 w KB rb q' s' fv av F (als g s.st) s.od.length) (ok : Ok g F s) (hi : i < s.c) (hl : g.length ≤ 200) :
    Calls Try.prog 46 #[.pointer (some ⟨rb, 0, none⟩), .int .i64 (i : Int)] w fun e w' => ∃ aa cap, e = .returned (.slice aa (s.H i).length cap) ∧ Win w' 3 1 (.slice aa (s.H i).length cap) (s.H i).length (its ((s.H i).map (·.t))) ∧
      Pd w0 w' KB rb q' s' fv av F (drsA (als g s.st) i s.od.length (s.H i).length) (s.od.length + (s.H i).length) ∧ Fr (Non KB) w w' := by
  have h := rflush_ok rb fv av s'.n s'.c s'.d F (als g s.st) s.od.length i (i : Int) w D.hr rfl (by rw [als_len]; omega) (by have := ok.odl; omega)
  rw [als_len, ok.held hi, List.length_map] at h
  refine h.mono ?_
  rintro e w' ⟨aa, cap, rfl, hw, hr, f, _⟩
  exact ⟨aa, cap, rfl, hw, D.ref hr f fun b hb => .inl hb⟩
theorem Pd.rputP (D : Pd w0 w KB rb q' s' fv av F (als g s.st) s.od.length) (ok : Ok g F s) (hi : i < s.c) (ha : a = 8 * (k : Int)) (hl : g.length ≤ 200) :
    Calls Try.prog 48 #[.pointer (some ⟨rb, 0, none⟩), .int .i64 (i : Int), .int .u64 a, .int .u64 v] w fun e w' => ∃ aa cap av', e = .returned (.tuple #[.int .i64 (s.st.length : Int), .slice aa (s.H i).length cap]) ∧ Win w' 3 1 (.slice aa (s.H i).length cap) (s.H i).length (its ((s.H i).map (·.t))) ∧
      Pd w0 w' KB rb q' s' fv av' F (drsA (als g s.st) i s.od.length (s.H i).length ++ [⟨i, k, v, s.od.length + (s.H i).length + 1⟩]) (s.od.length + (s.H i).length + 1) ∧ Fr (Non KB) w w' := by
  have h := rput_ok rb fv av s'.n s'.c s'.d F (als g s.st) s.od.length i k (i : Int) a v w D.hr rfl ha (by rw [als_len]; omega) (by have := ok.odl; omega)
  unfold RPutTo at h
  rw [als_len, ok.held hi, List.length_map] at h
  refine h.mono ?_
  rintro e w' ⟨aa, cap, av', rfl, hw, hr, f, _, t⟩
  refine ⟨aa, cap, av', ?_, hw, D.ref hr f t⟩
  rw [ok.len]
  rfl
theorem Pd.rheldP (D : Pd w0 w KB rb q' s' fv av F (als g s.st) s.od.length) (ok : Ok g F s) (hi : i < s.c) (hl : g.length ≤ 200) :
    Calls Try.prog 51 #[.pointer (some ⟨rb, 0, none⟩), .int .i64 (i : Int)] w fun e w' => ∃ aa cap, e = .returned (.slice aa (s.H i).length cap) ∧ Win w' 3 1 (.slice aa (s.H i).length cap) (s.H i).length (its ((s.H i).map (·.t))) ∧ Fr Nil w w' := by
  have h := rheld_ok rb fv av s'.n s'.c s'.d F (als g s.st) s.od.length i (i : Int) w D.hr rfl (by rw [als_len]; omega)
  unfold RHeldTo at h
  rw [als_len, ok.held hi, List.length_map] at h
  refine h.mono ?_
  rintro e w' ⟨aa, cap, rfl, hw, f, _⟩
  exact ⟨aa, cap, rfl, hw, f⟩
end
theorem als_kv (g : List G) (st : List Nat) {t : Nat} {e : G} (h : g[t]? = some e) : ((als g st).getD t a0).k = e.k ∧ ((als g st).getD t a0).v = e.v := by
  have hl : t < g.length := (List.getElem?_eq_some_iff.1 h).1
  have : (als g st)[t]? = some ⟨(g.getD t ⟨0, 0, 0⟩).i, (g.getD t ⟨0, 0, 0⟩).k, (g.getD t ⟨0, 0, 0⟩).v, st.getD (t + 1) 0⟩ := by
    unfold als
    rw [List.getElem?_map, List.getElem?_range hl]
    rfl
  rw [List.getD_eq_getElem?_getD (l := als g st), this]
  rw [List.getD_eq_getElem?_getD, h]
  exact ⟨rfl, rfl⟩
theorem Ok.toldX {g : List G} {F : Nat → Int} {s : St} (h : Ok g F s) {i : Nat} (hi : i < s.c) (r : List G) (st : List Nat) : Told (als (g ++ r) st) (s.H i) := by
  intro j x hx
  obtain ⟨h1, h2, e, h3, h4, h5, h6⟩ := h.hold i hi x (List.mem_of_getElem? hx)
  have hlt := (List.getElem?_eq_some_iff.1 h3).1
  have h3' : (g ++ r)[x.t - 1]? = some e := by rw [List.getElem?_append_left hlt]; exact h3
  obtain ⟨k1, k2⟩ := als_kv (g ++ r) st h3'
  rw [als_len, k1, k2, List.length_append]
  exact ⟨h1, by omega, h5, h6⟩
theorem lates_q {w0 w : World} {KB : Nat → Prop} {rb sp xb wb : Nat} {q : Bs} {s : St} {fv av lv tv : Value} {F : Nat → Int} {al : List A} {Ls : List L} {kd core a v : Int} {qb : Nat} (D : Pd w0 w KB rb q s fv av F al sp) (C : CeP KB xb wb qb rb kd core a v w) (ht : Told al Ls)
    (h1 : Win w 47 3 lv Ls.length (lcs Ls)) (h2 : Win w 3 1 tv Ls.length (its (Ls.map (·.t)))) (ho : ∀ k, lv.ownBlock = some k → w0.heap.size ≤ k ∧ ¬ Foot q s k ∧ ¬ KB k) (hl : al.length ≤ 500) (hm : Ls.length ≤ 500) :
    Calls Try.prog 47 #[.pointer (some ⟨wb, 0, none⟩), lv, tv] w fun e w' => e = .returned (.bool true) ∧ Pd w0 w' KB rb q s fv av F al sp ∧ Fr (Non KB) w w' := by
  refine (rlates_ok wb qb rb fv av lv tv s.n s.c s.d F al sp Ls w D.hr C.b (by omega) h1 h2 ht (by omega)).mono ?_
  rintro e w' ⟨rfl, f⟩
  refine ⟨rfl, D.own f fun k hk => ⟨(ho k hk).1, (ho k hk).2.1, fun hr => ?_⟩, f.mono fun k _ hk hn => (ho k hk).2.2 hn⟩
  rcases hr with h3 | h3 | h3
  · subst h3
    exact h1.ne D.hr.top (by decide) hk
  · exact h1.ne2 D.hr.fst (by decide) hk h3
  · exact h1.ne2 D.hr.all (by decide) hk h3
end Go.Proofs.Ytjbdbmahbcaniaa
