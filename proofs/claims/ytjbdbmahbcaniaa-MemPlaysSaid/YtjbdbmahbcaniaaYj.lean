/- Both memories: calls one behind the other (what was told stays). -/
import Derived.Test.YtjbdbmahbcaniaaYg
set_option linter.unusedSimpArgs false
set_option linter.unusedVariables false
set_option linter.unusedSectionVars false
namespace Go.Proofs.Ytjbdbmahbcaniaa
open Go.RowKit
set_option maxRecDepth 100000

/-- A list of the law's own. -/
def OwnL (w0 : World) (KB : Nat → Prop) (rb : Nat) (q : Bs) (s : St) (fv av lv : Value) : Prop := ∀ k, lv.ownBlock = some k → w0.heap.size ≤ k ∧ ¬ Foot q s k ∧ ¬ KB k ∧ ¬ RFt rb fv av k
def KO (KB : Nat → Prop) (lv : Value) : Nat → Prop := fun k => KB k ∨ lv.ownBlock = some k
/-- A list of the law's own, as it stands. -/
structure Lst (w0 w : World) (KB : Nat → Prop) (rb : Nat) (q : Bs) (s : St) (fv av lv : Value) (Ls : List L) : Prop where
  win : Win w 47 3 lv Ls.length (lcs Ls)
  own : OwnL w0 KB rb q s fv av lv
theorem Calls.frNil {n : Nat} {args : Array Value} {w : World} {x : Ending} (h : Calls Try.prog n args w fun e w' => e = x ∧ w = w') : Calls Try.prog n args w fun e w' => e = x ∧ Fr Nil w w' := by
  refine h.mono ?_
  rintro e w' ⟨rfl, rfl⟩
  exact ⟨rfl, Fr.refl _ _⟩
theorem Fr.set3 (w : World) (b : Nat) (x y z : Value) : Fr (One b) w (((w.setCell ⟨b, 0, none⟩ x).setCell ⟨b, 1, none⟩ y).setCell ⟨b, 2, none⟩ z) := (((Fr.refl _ w).set1 x).set1 y).set1 z
theorem Blk.set3 {w : World} {b : Nat} {t : TypeId} {u0 u1 u2 : Value} (h : Blk w b t #[u0, u1, u2]) (x y z : Value) : Blk (((w.setCell ⟨b, 0, none⟩ x).setCell ⟨b, 1, none⟩ y).setCell ⟨b, 2, none⟩ z) b t #[x, y, z] := (((h.set_ 0 x).set_ 1 y).set_ 2 z).cast rfl
theorem Fr.nonW {K : Nat → Prop} {sb : Nat} {w w' : World} (f : Fr (Non (Kx K sb)) w w') : Fr (Non K) w w' := f.mono fun k _ hn hk => hn (.inl hk)
theorem CeP.wide {KB : Nat → Prop} {xb wb qb rb sb : Nat} {kd core a v : Int} {w : World} (h : CeP KB xb wb qb rb kd core a v w) : CeP (Kx KB sb) xb wb qb rb kd core a v w := ⟨h.x, h.b, .inl h.kx, .inl h.kb⟩
section
variable {w0 w w' : World} {KB : Nat → Prop} {rb m sp : Nat} {q q' : Bs} {s s' : St} {fv av av' lv tv : Value} {F : Nat → Int} {g : List G} {al : List A} {i k : Nat} {a v : Int} {Ls : List L}
theorem Pd.listed (h : Pd w0 w KB rb q s fv av F al sp) (hw : Win w 47 3 lv Ls.length (lcs Ls)) (ho : OwnL w0 KB rb q s fv av lv) : Pd w0 w (KO KB lv) rb q s fv av F al sp :=
  ⟨h.hm, h.hr, fun k hk => by
    rcases hk with h1 | h1
    · exact h.kp k h1
    · exact ⟨(ho k h1).2.1, (ho k h1).2.2.2, hw.lt h1⟩, h.ap, h.nm, h.nr, h.fr⟩
/-- From the program's own world: it is new. -/
theorem Pq.told (h : Pq w0 w KB rb q s fv av F g m) (hw : Win w' 47 3 lv Ls.length (lcs Ls)) (ho : ∀ k, lv.ownBlock = some k → w.heap.size ≤ k ∧ ¬ Foot q' s' k) : Lst w0 w' KB rb q' s' fv av lv Ls :=
  ⟨hw, fun k hk => ⟨Nat.le_trans h.pd.fr.size (ho k hk).1, (ho k hk).2, fun hK => by have := (h.pd.kp k hK).2.2; have := (ho k hk).1; omega, fun hr => by have := h.pd.hr.lt hr; have := (ho k hk).1; omega⟩⟩
theorem Lst.still (l : Lst w0 w KB rb q s fv av lv Ls) (f : Fr Nil w w') : Lst w0 w' KB rb q s fv av lv Ls := ⟨l.win.fr f fun _ _ => id, l.own⟩
theorem Lst.fr (l : Lst w0 w KB rb q s fv av lv Ls) (f : Fr (Non (KO KB lv)) w w') (t : ∀ b, av'.ownBlock = some b → av.ownBlock = some b ∨ w.heap.size ≤ b) : Lst w0 w' KB rb q s fv av' lv Ls :=
  ⟨l.win.fr f fun k hk hn => hn (.inr hk), fun k hk => ⟨(l.own k hk).1, (l.own k hk).2.1, (l.own k hk).2.2.1, fun hr => by
    rcases hr with h1 | h1 | h1
    · exact (l.own k hk).2.2.2 (.inl h1)
    · exact (l.own k hk).2.2.2 (.inr (.inl h1))
    · rcases t k h1 with h2 | h2
      · exact (l.own k hk).2.2.2 (.inr (.inr h2))
      · have := l.win.lt hk; omega⟩⟩
theorem nonKO (f : Fr (Non (KO KB lv)) w w') : Fr (Non KB) w w' := f.mono fun k _ hn hk => hn (.inl hk)
theorem Pd.unlist (h : Pd w0 w (KO KB lv) rb q s fv av F al sp) : Pd w0 w KB rb q s fv av F al sp := h.less fun k hk => .inl hk
theorem Pq.rflushL (D : Pd w0 w KB rb q' s' fv av F (als g s.st) s.od.length) (l : Lst w0 w KB rb q' s' fv av lv Ls) (ok : Ok g F s) (hi : i < s.c) (hl : g.length ≤ 200) :
    Calls Try.prog 46 #[.pointer (some ⟨rb, 0, none⟩), .int .i64 (i : Int)] w fun e w' => ∃ aa cap, e = .returned (.slice aa (s.H i).length cap) ∧ Win w' 3 1 (.slice aa (s.H i).length cap) (s.H i).length (its ((s.H i).map (·.t))) ∧
      Pd w0 w' KB rb q' s' fv av F (drsA (als g s.st) i s.od.length (s.H i).length) (s.od.length + (s.H i).length) ∧ Fr (Non KB) w w' ∧ Lst w0 w' KB rb q' s' fv av lv Ls := by
  refine ((D.listed l.win l.own).rflushP ok hi hl).mono ?_
  rintro e w' ⟨aa, cap, rfl, hw, hp, f⟩
  exact ⟨aa, cap, rfl, hw, hp.unlist, nonKO f, l.fr f fun b hb => .inl hb⟩
theorem rputP2 (D : Pd w0 w KB rb q' s' fv av F (als g s.st) s.od.length) (ok : Ok g F s) (hi : i < s.c) (ha : a = 8 * (k : Int)) (hl : g.length ≤ 200) :
    Calls Try.prog 48 #[.pointer (some ⟨rb, 0, none⟩), .int .i64 (i : Int), .int .u64 a, .int .u64 v] w fun e w' => ∃ aa cap av', e = .returned (.tuple #[.int .i64 (s.st.length : Int), .slice aa (s.H i).length cap]) ∧ Win w' 3 1 (.slice aa (s.H i).length cap) (s.H i).length (its ((s.H i).map (·.t))) ∧
      Pd w0 w' KB rb q' s' fv av' F (drsA (als g s.st) i s.od.length (s.H i).length ++ [⟨i, k, v, s.od.length + (s.H i).length + 1⟩]) (s.od.length + (s.H i).length + 1) ∧ Fr (Non KB) w w' ∧ (∀ b, av'.ownBlock = some b → av.ownBlock = some b ∨ w.heap.size ≤ b) := by
  have h := rput_ok rb fv av s'.n s'.c s'.d F (als g s.st) s.od.length i k (i : Int) a v w D.hr rfl ha (by rw [als_len]; omega) (by have := ok.odl; omega)
  unfold RPutTo at h
  rw [als_len, ok.held hi, List.length_map] at h
  refine h.mono ?_
  rintro e w' ⟨aa, cap, av', rfl, hw, hr, f, _, t⟩
  obtain ⟨p, f2⟩ := D.ref hr f t
  refine ⟨aa, cap, av', ?_, hw, p, f2, t⟩
  rw [ok.len]
  rfl
theorem Pq.rputL (D : Pd w0 w KB rb q' s' fv av F (als g s.st) s.od.length) (l : Lst w0 w KB rb q' s' fv av lv Ls) (ok : Ok g F s) (hi : i < s.c) (ha : a = 8 * (k : Int)) (hl : g.length ≤ 200) :
    Calls Try.prog 48 #[.pointer (some ⟨rb, 0, none⟩), .int .i64 (i : Int), .int .u64 a, .int .u64 v] w fun e w' => ∃ aa cap av', e = .returned (.tuple #[.int .i64 (s.st.length : Int), .slice aa (s.H i).length cap]) ∧ Win w' 3 1 (.slice aa (s.H i).length cap) (s.H i).length (its ((s.H i).map (·.t))) ∧
      Pd w0 w' KB rb q' s' fv av' F (drsA (als g s.st) i s.od.length (s.H i).length ++ [⟨i, k, v, s.od.length + (s.H i).length + 1⟩]) (s.od.length + (s.H i).length + 1) ∧ Fr (Non KB) w w' ∧ Lst w0 w' KB rb q' s' fv av' lv Ls := by
  refine (rputP2 (D.listed l.win l.own) ok hi ha hl).mono ?_
  rintro e w' ⟨aa, cap, av', rfl, hw, hp, f, t⟩
  exact ⟨aa, cap, av', rfl, hw, hp.unlist, nonKO f, l.fr f t⟩
theorem lates_l {xb wb qb : Nat} {kd core a v : Int} (D : Pd w0 w KB rb q s fv av F al sp) (l : Lst w0 w KB rb q s fv av lv Ls) (C : CeP KB xb wb qb rb kd core a v w) (ht : Told al Ls) (h2 : Win w 3 1 tv Ls.length (its (Ls.map (·.t)))) (hl : al.length ≤ 500) (hm : Ls.length ≤ 500) :
    Calls Try.prog 47 #[.pointer (some ⟨wb, 0, none⟩), lv, tv] w fun e w' => e = .returned (.bool true) ∧ Pd w0 w' KB rb q s fv av F al sp ∧ Fr (Non KB) w w' :=
  lates_q D C ht l.win h2 (fun k hk => ⟨(l.own k hk).1, (l.own k hk).2.1, (l.own k hk).2.2.1⟩) hl hm
/-- What each call tells, with its list. -/
theorem Pq.pflushL (h : Pq w0 w KB rb q s fv av F g m) (hi : i < s.c) (hm : m ≤ 200) :
    Calls Try.prog 16 #[.pointer (some ⟨q.b, 0, none⟩), .int .i64 (i : Int)] w fun e w' => ∃ aa cap q', e = .returned (.tuple #[.slice aa (s.H i).length cap, .int .i64 0]) ∧ q'.b = q.b ∧ Pd w0 w' KB rb q' (s.drains i (s.H i).length) fv av F (als g s.st) s.od.length ∧ Fr (Non KB) w w' ∧
      Lst w0 w' KB rb q' (s.drains i (s.H i).length) fv av (.slice aa (s.H i).length cap) (s.H i) := by
  refine (h.pflush hi hm).mono ?_
  rintro e w' ⟨aa, cap, q2, rfl, hb, p, f, hw, ho⟩
  exact ⟨aa, cap, q2, rfl, hb, p, f, h.told hw ho⟩
theorem Pq.pputL (h : Pq w0 w KB rb q s fv av F g m) (hi : i < s.c) (hk : k < s.n) (ha : a = 8 * (k : Int)) (hm : m ≤ 200) :
    Calls Try.prog 25 #[.pointer (some ⟨q.b, 0, none⟩), .int .i64 (i : Int), .int .u64 a, .int .u64 v] w fun e w' => ∃ aa cap q', e = .returned (.tuple #[.int .i64 (s.st.length : Int), .slice aa (s.H i).length cap, .int .i64 0]) ∧ q'.b = q.b ∧ Pd w0 w' KB rb q' (s.put i k v) fv av F (als g s.st) s.od.length ∧ Fr (Non KB) w w' ∧
      Lst w0 w' KB rb q' (s.put i k v) fv av (.slice aa (s.H i).length cap) (s.H i) := by
  refine (h.pput hi hk ha hm).mono ?_
  rintro e w' ⟨aa, cap, q2, rfl, hb, p, f, hw, ho⟩
  exact ⟨aa, cap, q2, rfl, hb, p, f, h.told hw ho⟩
theorem Pq.pheldL (h : Pq w0 w KB rb q s fv av F g m) (hi : i < s.c) (hm : m ≤ 200) :
    Calls Try.prog 29 #[.pointer (some ⟨q.b, 0, none⟩), .int .i64 (i : Int)] w fun e w' => ∃ aa cap, e = .returned (.slice aa (s.H i).length cap) ∧ Fr Nil w w' ∧ Lst w0 w' KB rb q s fv av (.slice aa (s.H i).length cap) (s.H i) := by
  refine (h.pheld hi hm).mono ?_
  rintro e w' ⟨aa, cap, rfl, f, hw, ho⟩
  exact ⟨aa, cap, rfl, f, h.told hw fun k hk => ⟨ho k hk, fun hf => by have := h.pd.hm.lt hf; have := ho k hk; omega⟩⟩
theorem Pq.toldF (h : Pq w0 w KB rb q s fv av F g m) (hi : i < s.c) : Told (drsA (als g s.st) i s.od.length (s.H i).length) (s.H i) := by
  rw [← (h.ok.drsA hi _ (Nat.le_refl _)).1]
  have := h.ok.toldX hi [] (s.drains i (s.H i).length).st
  rwa [List.append_nil] at this
theorem Pq.lenF (h : Pq w0 w KB rb q s fv av F g m) (hi : i < s.c) : (drsA (als g s.st) i s.od.length (s.H i).length).length = g.length := by
  rw [← (h.ok.drsA hi _ (Nat.le_refl _)).1, als_len]
theorem Pq.toldP (h : Pq w0 w KB rb q s fv av F g m) (hi : i < s.c) (e : G) (x : Nat) : Told (drsA (als g s.st) i s.od.length (s.H i).length ++ [⟨e.i, e.k, e.v, x⟩]) (s.H i) := by
  rw [← (h.ok.drsA hi _ (Nat.le_refl _)).1, ← als_push (((drains_same s i (s.H i).length).2.2.2.1).trans h.stl)]
  exact h.ok.toldX hi [e] _
/-- The first bytes. -/
theorem Pq.pset {w1 : World} {KB1 : Nat → Prop} (h : Pq w0 w1 KB1 rb q s fv av F [] m) (hk : k < s.n) (ha : a = 8 * (k : Int)) (D : Pd w0 w KB rb q s fv av' (upd F k v) (als [] s.st) s.od.length) :
    Calls Try.prog 13 #[.pointer (some ⟨q.b, 0, none⟩), .int .u64 a, .int .u64 v] w fun e w' => e = .returned (.int .i64 0) ∧ ∃ q', q'.b = q.b ∧ Pd w0 w' KB rb q' { s with V := upd s.V k v } fv av' (upd F k v) (als [] s.st) s.od.length ∧ Fr (Non KB) w w' := by
  refine (set_ok q s a v k w D.hm hk h.n1.2 ha h.stl).mono ?_
  rintro e w' ⟨rfl, q2, hb, hm2, f, t⟩
  obtain ⟨p, f2⟩ := D.prog hm2 f t rfl rfl rfl
  exact ⟨rfl, q2, hb, p, f2⟩
theorem Pq.rset (h : Pq w0 w KB rb q s fv av F [] m) (hk : k < s.n) (ha : a = 8 * (k : Int)) (a0_ : 0 ≤ a) (a1_ : a ≤ 18446744073709551615) :
    Calls Try.prog 52 #[.pointer (some ⟨rb, 0, none⟩), .int .u64 a, .int .u64 v] w fun e w' => e = .returned (.int .i64 0) ∧ ∃ av', Pd w0 w' KB rb q s fv av' (upd F k v) (als [] s.st) s.od.length ∧ Fr (Non KB) w w' := by
  have hg : goodB s.n s.c 0 a = true := by
    unfold goodB
    have := h.c1
    simp
    omega
  have hu := rset_ok rb fv av s.n s.c s.d F (als [] s.st) s.od.length a v w h.pd.hr h.n1.2 h.c1 a0_ a1_ (Nat.zero_le _)
  simp only [if_pos hg, if_pos (show als [] s.st = [] from rfl)] at hu
  rw [show (a / 8).toNat = k by omega] at hu
  refine hu.mono ?_
  rintro e w' ⟨rfl, av', hr, f, t⟩
  exact ⟨rfl, av', h.pd.ref hr f t⟩
theorem Pq.rsetN (h : Pq w0 w KB rb q s fv av F g m) (hm : m ≤ 200) (hne : g ≠ []) (hk : k < s.n) (ha : a = 8 * (k : Int)) (a0_ : 0 ≤ a) (a1_ : a ≤ 18446744073709551615) :
    Calls Try.prog 52 #[.pointer (some ⟨rb, 0, none⟩), .int .u64 a, .int .u64 v] w fun e w' => e = .returned (.int .i64 7) ∧ w = w' := by
  have hg : goodB s.n s.c 0 a = true := by
    unfold goodB
    have := h.c1
    simp
    omega
  have hu := rset_ok rb fv av s.n s.c s.d F (als g s.st) s.od.length a v w h.pd.hr h.n1.2 h.c1 a0_ a1_ (by rw [als_len]; have := h.len; omega)
  have hz : als g s.st ≠ [] := fun e => hne (by
    have := congrArg List.length e
    rw [als_len] at this
    exact List.length_eq_zero_iff.1 this)
  simp only [if_pos hg, if_neg hz] at hu
  exact hu
theorem Pq.rsetB (h : Pq w0 w KB rb q s fv av F g m) (hm : m ≤ 200) (hb : a % 8 ≠ 0 ∨ (s.n : Int) ≤ a / 8) (a0_ : 0 ≤ a) (a1_ : a ≤ 18446744073709551615) :
    Calls Try.prog 52 #[.pointer (some ⟨rb, 0, none⟩), .int .u64 a, .int .u64 v] w fun e w' => e = .returned (.int .i64 1) ∧ w = w' := by
  have hg : ¬ goodB s.n s.c 0 a = true := by
    unfold goodB
    simp
    omega
  have hu := rset_ok rb fv av s.n s.c s.d F (als g s.st) s.od.length a v w h.pd.hr h.n1.2 h.c1 a0_ a1_ (by rw [als_len]; have := h.len; omega)
  simp only [if_neg hg] at hu
  exact hu
theorem Pq.rpeek (h : Pq w0 w KB rb q s fv av F g m) (hk : k < s.n) (ha : a = 8 * (k : Int)) (hm : m ≤ 200) (f : Fr Nil w w') :
    Calls Try.prog 50 #[.pointer (some ⟨rb, 0, none⟩), .int .u64 a] w' fun e w2 => e = .returned (.tuple #[.int .u64 (s.V k), .int .i64 (s.T k : Int)]) ∧ Fr Nil w' w2 := by
  have hu := rpeek_ok rb fv av s.n s.c s.d F (als g s.st) s.od.length k a w' (h.pd.hr.fr0 f) ha hk h.n1.2 (by rw [als_len]; have := h.len; omega)
  rw [als_len, (h.ok.peek hk).1, (h.ok.peek hk).2] at hu
  exact hu
theorem late_q {xb wb qb : Nat} {kd core a v : Int} {x : L} {l : List L} (D : Pd w0 w KB rb q s fv av F al sp) (C : CeP KB xb wb qb rb kd core a v w) (ht : Told al (x :: l)) (hl : al.length ≤ 500) :
    Calls Try.prog 45 #[.pointer (some ⟨wb, 0, none⟩), .agg #[.int .u64 x.a, .int .u64 x.v, .int .i64 (x.t : Int)], .int .i64 (x.t : Int)] w fun e w' => e = .returned (.bool true) ∧ Fr Nil w w' := by
  obtain ⟨t1, t2, t3, t4⟩ := ht 0 x rfl
  obtain ⟨u, hu⟩ : ∃ u : Nat, u = x.t - 1 := ⟨_, rfl⟩
  have h := rlate_ok wb qb rb fv av s.n s.c s.d F al sp u w D.hr C.b (by omega) (by omega) (x := al.getD u a0) rfl
  rw [hu, ← t3, ← t4, show (((x.t - 1 : Nat) : Int) + 1) = (x.t : Int) by omega] at h
  exact h
theorem Pd.setKB (h : Pd w0 w KB rb q s fv av F al sp) {b : Nat} (hb : KB b) (h0 : w0.heap.size ≤ b) (f : Fr (One b) w w') : Pd w0 w' KB rb q s fv av F al sp :=
  ⟨h.hm.fr f fun k hk e => (h.kp b hb).1 (by have e' : k = b := e; rwa [← e']), h.hr.fr f fun k hk e => (h.kp b hb).2.1 (by have e' : k = b := e; rwa [← e']), fun k hk => ⟨(h.kp k hk).1, (h.kp k hk).2.1, Nat.lt_of_lt_of_le (h.kp k hk).2.2 f.size⟩, h.ap, h.nm, h.nr, h.fr.step f fun i _ hi => .inr (by have e' : i = b := hi; rwa [e'])⟩
theorem Pq.setKB (h : Pq w0 w KB rb q s fv av F g m) {b : Nat} (hb : KB b) (h0 : w0.heap.size ≤ b) (f : Fr (One b) w w') : Pq w0 w' KB rb q s fv av F g m :=
  ⟨h.pd.setKB hb h0 f, h.ok, h.n1, h.c1, h.d1, h.len, h.rg, h.rf⟩
theorem FEH (hm : MemAt w q s) (f : Fr Nil w w') (hk : k < s.n) (hn : s.n ≤ 8192) (hV : U64 (s.V k)) (hz : a - a % 8 = 8 * (k : Int)) (h8 : a % 8 = 4) :
    Calls Try.prog 49 #[.pointer (some ⟨q.b, 0, none⟩), .int .u64 a] w' fun e w2 => e = .returned (.tuple #[.int .u32 (s.V k / 4294967296), .int .i64 0]) ∧ w' = w2 := by
  have := fetch_ok q s a k w' (hm.fr0 f) hk hn hV.1 hV.2 (by omega)
  rwa [if_pos h8] at this
theorem FEL (hm : MemAt w q s) (f : Fr Nil w w') (hk : k < s.n) (hn : s.n ≤ 8192) (hV : U64 (s.V k)) (hz : a - a % 8 = 8 * (k : Int)) (h8 : a % 8 = 0) :
    Calls Try.prog 49 #[.pointer (some ⟨q.b, 0, none⟩), .int .u64 a] w' fun e w2 => e = .returned (.tuple #[.int .u32 (s.V k % 4294967296), .int .i64 0]) ∧ w' = w2 := by
  have := fetch_ok q s a k w' (hm.fr0 f) hk hn hV.1 hV.2 (by omega)
  rwa [if_neg (by omega)] at this
end
end Go.Proofs.Ytjbdbmahbcaniaa
