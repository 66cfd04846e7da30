/- Both memories, call by call: what stays. -/
import Derived.Test.YtjbdbmahbcaniaaYf
set_option linter.unusedSimpArgs false
set_option linter.unusedVariables false
set_option linter.unusedSectionVars false
namespace Go.Proofs.Ytjbdbmahbcaniaa
open Go.RowKit
set_option maxRecDepth 100000

theorem pig : ∀ (n m : Nat) (f : Nat → Nat), (∀ i, i < m → f i < n) → (∀ i j, i < m → j < m → f i = f j → i = j) → m ≤ n
  | 0, m, f, h, _ => by
    rcases Nat.eq_zero_or_pos m with e | e
    · omega
    · have := h 0 e
      omega
  | n + 1, m, f, h, hi => by
    by_cases hx : ∃ i, i < m ∧ f i = n
    · obtain ⟨i0, h0, e0⟩ := hx
      have := pig n (m - 1) (fun i => f (if i < i0 then i else i + 1)) (fun i hm => by
        show f (if i < i0 then i else i + 1) < n
        split
        · have h1 := h i (by omega)
          have h2 : f i ≠ n := fun e => by
            have := hi i i0 (by omega) h0 (e.trans e0.symm)
            omega
          omega
        · have h1 := h (i + 1) (by omega)
          have h2 : f (i + 1) ≠ n := fun e => by
            have := hi (i + 1) i0 (by omega) h0 (e.trans e0.symm)
            omega
          omega) (fun i j hi' hj' e => by
        have := hi _ _ (by split <;> omega) (by split <;> omega) e
        split at this <;> split at this <;> omega)
      omega
    · have := pig n m f (fun i hm => by
        have h1 := h i hm
        have h2 : f i ≠ n := fun e => hx ⟨i, hm, e⟩
        omega) hi
      omega
theorem Ok.odl {g : List G} {F : Nat → Int} {s : St} (h : Ok g F s) : s.od.length ≤ g.length := by
  refine pig g.length s.od.length (fun j => s.od.getD j 0 - 1) (fun j hj => ?_) (fun i j hi hj e => ?_)
  · have e1 : s.od[j]? = some (s.od.getD j 0) := by rw [List.getD_eq_getElem?_getD, List.getElem?_eq_getElem hj]; rfl
    obtain ⟨h1, h2⟩ := h.ord j _ e1
    have := h.stt h2
    show s.od.getD j 0 - 1 < g.length
    omega
  · have e1 : s.od[i]? = some (s.od.getD i 0) := by rw [List.getD_eq_getElem?_getD, List.getElem?_eq_getElem hi]; rfl
    have e2 : s.od[j]? = some (s.od.getD j 0) := by rw [List.getD_eq_getElem?_getD, List.getElem?_eq_getElem hj]; rfl
    obtain ⟨h1, h2⟩ := h.ord i _ e1
    obtain ⟨h3, h4⟩ := h.ord j _ e2
    have e3 : s.od.getD i 0 = s.od.getD j 0 := by
      have e' : s.od.getD i 0 - 1 = s.od.getD j 0 - 1 := e
      omega
    rw [e3, h4] at h2
    have := Option.some.inj h2
    omega
theorem Ok.Hl {g : List G} {F : Nat → Int} {s : St} (h : Ok g F s) {i : Nat} (hi : i < s.c) : (s.H i).length ≤ g.length := by
  have h1 := congrArg List.length (h.held hi)
  rw [List.length_map] at h1
  rw [← h1]
  exact heldK_len _ _ _
def U64 (x : Int) : Prop := 0 ≤ x ∧ x ≤ 18446744073709551615
/-- What stays true of both. -/
structure Pq (w0 w : World) (KB : Nat → Prop) (rb : Nat) (q : Bs) (s : St) (fv av : Value) (F : Nat → Int) (g : List G) (m : Nat) : Prop where
  pd : Pd w0 w KB rb q s fv av F (als g s.st) s.od.length
  ok : Ok g F s
  n1 : 1 ≤ s.n ∧ s.n ≤ 8192
  c1 : 1 ≤ s.c ∧ s.c ≤ 8
  d1 : 1 ≤ s.d ∧ s.d ≤ 32
  len : g.length ≤ m
  rg : ∀ e, e ∈ g → U64 e.v
  rf : ∀ k, U64 (F k)
section
variable {w0 w w' : World} {KB KB' : Nat → Prop} {rb m : Nat} {q q' : Bs} {s s' : St} {fv av av' : Value} {F F' : Nat → Int} {g : List G}
theorem Pq.still (h : Pq w0 w KB rb q s fv av F g m) (f : Fr Nil w w') : Pq w0 w' KB rb q s fv av F g m :=
  ⟨h.pd.still f, h.ok, h.n1, h.c1, h.d1, h.len, h.rg, h.rf⟩
theorem Pq.more (h : Pq w0 w KB rb q s fv av F g m) (o : Obj) : Pq w0 (w.alloc o) (fun k => KB k ∨ k = w.heap.size) rb q s fv av F g m :=
  ⟨h.pd.more o, h.ok, h.n1, h.c1, h.d1, h.len, h.rg, h.rf⟩
theorem Pq.less (h : Pq w0 w KB rb q s fv av F g m) (hk : ∀ k, KB' k → KB k) : Pq w0 w KB' rb q s fv av F g m :=
  ⟨h.pd.less hk, h.ok, h.n1, h.c1, h.d1, h.len, h.rg, h.rf⟩
theorem Pq.up (h : Pq w0 w KB rb q s fv av F g m) {m' : Nat} (hm : m ≤ m') : Pq w0 w KB rb q s fv av F g m' :=
  ⟨h.pd, h.ok, h.n1, h.c1, h.d1, Nat.le_trans h.len hm, h.rg, h.rf⟩
theorem Pq.V (h : Pq w0 w KB rb q s fv av F g m) {k : Nat} (hk : k < s.n) : U64 (s.V k) := by
  by_cases hT : s.T k = 0
  · rw [(h.ok.mem0 k hk hT).1]
    exact h.rf k
  · obtain ⟨e, m2, h1, h2, h3, _⟩ := h.ok.mem1 k hk hT
    rw [← h3]
    exact h.rg e (List.mem_of_getElem? h1)
/-- The document's as a whole. -/
theorem Pq.al (h : Pq w0 w KB rb q s fv av F g m) : (als g s.st).length ≤ m := by rw [als_len]; exact h.len
theorem Pq.odl (h : Pq w0 w KB rb q s fv av F g m) : s.od.length ≤ m := Nat.le_trans h.ok.odl h.len
theorem Pq.stl (h : Pq w0 w KB rb q s fv av F g m) : s.st.length = g.length + 1 := h.ok.len
theorem Pq.Hl (h : Pq w0 w KB rb q s fv av F g m) {i : Nat} (hi : i < s.c) : (s.H i).length ≤ m := Nat.le_trans (h.ok.Hl hi) h.len
/-- From one to the next. -/
theorem Pq.push (h : Pq w0 w KB rb q s fv av F g m) {i k : Nat} {v : Int} (hi : i < s.c) (hk : k < s.n) (hv : U64 v) (hd : (s.H i).length < s.d)
    (p : Pd w0 w' KB rb q' (s.hold i ⟨8 * (k : Int), v, s.st.length⟩) fv av' F (als g s.st ++ [⟨i, k, v, 0⟩]) s.od.length) :
    Pq w0 w' KB rb q' (s.hold i ⟨8 * (k : Int), v, s.st.length⟩) fv av' F (g ++ [⟨i, k, v⟩]) (m + 1) := by
  refine ⟨?_, h.ok.push (x := ⟨8 * (k : Int), v, s.st.length⟩) hi hk rfl rfl hd, h.n1, h.c1, h.d1, by simp; exact h.len, fun e he => ?_, h.rf⟩
  · show Pd w0 w' KB rb q' (s.hold i ⟨8 * (k : Int), v, s.st.length⟩) fv av' F (als (g ++ [⟨i, k, v⟩]) (s.st ++ [0])) s.od.length
    rw [als_push h.stl]
    exact p
  · rcases List.mem_append.1 he with h1 | h1
    · exact h.rg e h1
    · rw [List.mem_singleton.1 h1]; exact hv
theorem Pq.drain (h : Pq w0 w KB rb q s fv av F g m) {i : Nat} {x : L} {l : List L} (hi : i < s.c) (hx : s.H i = x :: l)
    (p : Pd w0 w' KB rb q' (s.drain1 i) fv av' F (drA (als g s.st) x.t s.od.length) (s.od.length + 1)) : Pq w0 w' KB rb q' (s.drain1 i) fv av' F g (m + 1) := by
  obtain ⟨e1, e2⟩ := h.ok.drA hi hx
  obtain ⟨en, ec, ed, _⟩ := drain1_same s i
  exact ⟨by rw [e1, e2]; exact p, h.ok.drain1 hi, by rw [en]; exact h.n1, by rw [ec]; exact h.c1, by rw [ed]; exact h.d1, Nat.le_succ_of_le h.len, h.rg, h.rf⟩
theorem Pq.flush (h : Pq w0 w KB rb q s fv av F g m) {i : Nat} (hi : i < s.c)
    (p : Pd w0 w' KB rb q' (s.drains i (s.H i).length) fv av' F (drsA (als g s.st) i s.od.length (s.H i).length) (s.od.length + (s.H i).length)) : Pq w0 w' KB rb q' (s.drains i (s.H i).length) fv av' F g (m + 1) := by
  obtain ⟨e1, e2⟩ := h.ok.drsA hi _ (Nat.le_refl _)
  obtain ⟨en, ec, ed, _⟩ := drains_same s i (s.H i).length
  exact ⟨by rw [e1, e2]; exact p, h.ok.drains hi _, by rw [en]; exact h.n1, by rw [ec]; exact h.c1, by rw [ed]; exact h.d1, Nat.le_succ_of_le h.len, h.rg, h.rf⟩
theorem Pq.put (h : Pq w0 w KB rb q s fv av F g m) {i k : Nat} {v : Int} (hi : i < s.c) (hk : k < s.n) (hv : U64 v)
    (p : Pd w0 w' KB rb q' (s.put i k v) fv av' F (drsA (als g s.st) i s.od.length (s.H i).length ++ [⟨i, k, v, s.od.length + (s.H i).length + 1⟩]) (s.od.length + (s.H i).length + 1)) :
    Pq w0 w' KB rb q' (s.put i k v) fv av' F (g ++ [⟨i, k, v⟩]) (m + 1) := by
  obtain ⟨e1, e2⟩ := h.ok.drsA hi _ (Nat.le_refl _)
  obtain ⟨en, ec, ed, est, _⟩ := drains_same s i (s.H i).length
  have es : (s.put i k v).st = (s.drains i (s.H i).length).st ++ [s.od.length + (s.H i).length + 1] := by
    show ((s.drains i (s.H i).length).st ++ [0]).set s.st.length ((s.drains i (s.H i).length).od.length + 1) = _
    rw [e2, ← est, List.set_append_right _ _ (Nat.le_refl _), Nat.sub_self]
    rfl
  have eo : (s.put i k v).od.length = s.od.length + (s.H i).length + 1 := by
    show ((s.drains i (s.H i).length).od ++ [s.st.length]).length = _
    rw [List.length_append, e2]
    rfl
  refine ⟨?_, h.ok.put v hi hk h.d1.1, by rw [show (s.put i k v).n = s.n from en]; exact h.n1, by rw [show (s.put i k v).c = s.c from ec]; exact h.c1, by rw [show (s.put i k v).d = s.d from ed]; exact h.d1, by simp; exact h.len, fun e he => ?_, h.rf⟩
  · rw [es, eo, als_push (est.trans h.stl), e1]
    exact p
  · rcases List.mem_append.1 he with h1 | h1
    · exact h.rg e h1
    · rw [List.mem_singleton.1 h1]; exact hv
theorem Pq.poke (h : Pq w0 w KB rb q s fv av F [] m) {k : Nat} {v : Int} (hk : k < s.n) (hv : U64 v)
    (p : Pd w0 w' KB rb q' { s with V := upd s.V k v } fv av' (upd F k v) (als [] s.st) s.od.length) : Pq w0 w' KB rb q' { s with V := upd s.V k v } fv av' (upd F k v) [] (m + 1) := by
  refine ⟨p, h.ok.poke k v, h.n1, h.c1, h.d1, Nat.zero_le _, h.rg, fun k' => ?_⟩
  by_cases e : k' = k
  · subst e; rw [upd_same]; exact hv
  · rw [upd_other _ _ e]; exact h.rf k'
/-- Is it bad? (In a region that only reads.) -/
theorem Pq.bad (h : Pq w0 w KB rb q s fv av F g m) {core a : Int} {b : Bool} (a0_ : 0 ≤ a) (a1_ : a ≤ 18446744073709551615) (hb : (!(goodB s.n s.c core a)) = b) (n : Nat) :
    Calls Try.prog 41 #[.pointer (some ⟨rb, 0, none⟩), .int .i64 core, .int .u64 a] (w.drewN n) fun e w' => e = .returned (.bool b) ∧ w' = w.drewN n := by
  refine (rbad_ok rb fv av s.n s.c s.d F (als g s.st) s.od.length core a (w.drewN n) (h.pd.hr.fr0 (Fr.drewN (Fr.refl _ _) _)) h.n1.2 h.c1.2 a0_ a1_).mono ?_
  rintro e w' ⟨rfl, rfl⟩
  exact ⟨by rw [hb], rfl⟩
end
/-- What a call leaves. -/
def StepTo (w0 w : World) (KB : Nat → Prop) (rb : Nat) (q : Bs) (s : St) (fv : Value) (m : Nat) (e : Ending) (w' : World) : Prop :=
  e = .returned (.bool true) ∧ ∃ q' s' av' F' g', Pq w0 w' KB rb q' s' fv av' F' g' (m + 1) ∧ q'.b = q.b ∧ s'.n = s.n ∧ s'.c = s.c ∧ s'.d = s.d ∧ Fr (Non KB) w w'
def Kx (KB : Nat → Prop) (x : Nat) (k : Nat) : Prop := KB k ∨ k = x
/-- The cells of a call's copy and of the pair of memories. -/
def StepC (W : World) (xb wb qb rb : Nat) (kd core a v : Int) : Prop :=
  W.cell? ⟨xb, 0, none⟩ = some (.int .i64 kd) ∧ W.cell? ⟨xb, 1, none⟩ = some (.int .i64 core) ∧ W.cell? ⟨xb, 2, none⟩ = some (.int .u64 a) ∧ W.cell? ⟨xb, 3, none⟩ = some (.int .u64 v) ∧
    W.cell? ⟨wb, 0, none⟩ = some (.pointer (some ⟨qb, 0, none⟩)) ∧ W.cell? ⟨wb, 1, none⟩ = some (.pointer (some ⟨rb, 0, none⟩))
structure CeP (KB : Nat → Prop) (xb wb qb rb : Nat) (kd core a v : Int) (w : World) : Prop where
  x : Blk w xb 45 #[.int .i64 kd, .int .i64 core, .int .u64 a, .int .u64 v]
  b : Blk w wb 66 #[.pointer (some ⟨qb, 0, none⟩), .pointer (some ⟨rb, 0, none⟩)]
  kx : KB xb
  kb : KB wb
theorem CeP.on {KB : Nat → Prop} {xb wb qb rb : Nat} {kd core a v : Int} {w w' : World} (h : CeP KB xb wb qb rb kd core a v w) (f : Fr (Non KB) w w') : CeP KB xb wb qb rb kd core a v w' :=
  ⟨h.x.fr f fun hn => hn h.kx, h.b.fr f fun hn => hn h.kb, h.kx, h.kb⟩
theorem CeP.all {KB : Nat → Prop} {xb wb qb rb : Nat} {kd core a v : Int} {w : World} (h : CeP KB xb wb qb rb kd core a v w) : StepC w xb wb qb rb kd core a v :=
  ⟨h.x.cellv (i := 0) rfl, h.x.cellv (i := 1) rfl, h.x.cellv (i := 2) rfl, h.x.cellv (i := 3) rfl, h.b.cellv (i := 0) rfl, h.b.cellv (i := 1) rfl⟩
theorem StepTo.mk {w0 w w1 w' : World} {KB : Nat → Prop} {rb m xb : Nat} {q q' : Bs} {s s' : St} {fv av' : Value} {F' : Nat → Int} {g' : List G}
    (p : Pq w0 w' (Kx KB xb) rb q' s' fv av' F' g' (m + 1)) (hb : q'.b = q.b) (hn : s'.n = s.n) (hc : s'.c = s.c) (hd : s'.d = s.d) (f0 : Fr Nil w w1) (f : Fr (Non (Kx KB xb)) w1 w') : StepTo w0 w KB rb q s fv m (.returned (.bool true)) w' :=
  ⟨rfl, q', s', av', F', g', p.less fun k hk => .inl hk, hb, hn, hc, hd, (f0.nil.trans f).mono fun k _ hn hk => hn (.inl hk)⟩
end Go.Proofs.Ytjbdbmahbcaniaa
