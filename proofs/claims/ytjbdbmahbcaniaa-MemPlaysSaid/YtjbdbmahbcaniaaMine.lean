/- Contracts of chapter 8 for a memory that a law has made itself. -/
import Derived.Test.YtjbdbmahbcaniaaPur
set_option linter.unusedSimpArgs false
set_option linter.unusedSectionVars false
namespace Go.Proofs.Ytjbdbmahbcaniaa
open Go.RowKit
set_option linter.unusedVariables false

structure Mine (w : World) (b : Nat) (q : Bs) (s : St) (w' : World) : Prop where
  b : q.b = b
  mem : MemAt w' q s
  fr : Fr Nil w w'
  foot : ∀ k, Foot q s k → w.heap.size ≤ k
section
variable {w w1 w2 : World} {b : Nat} {q : Bs} {s s' : St}
theorem Mine.still (h : Mine w b q s w1) (hf : Fr Nil w1 w2) : Mine w b q s w2 := ⟨h.b, h.mem.fr0 hf, h.fr.trans hf, h.foot⟩
/-- From one state to the next. -/
structure Step (w1 : World) (q : Bs) (s : St) (w2 : World) (q' : Bs) (s' : St) : Prop where
  fr : Fr (Foot q s) w1 w2
  foot : ∀ k, Foot q' s' k → Foot q s k ∨ w1.heap.size ≤ k
theorem Mine.turn (h : Mine w b q s w1) (u : Upd w1 q s s' w2) : ∃ q', Mine w b q' s' w2 ∧ Step w1 q s w2 q' s' := by
  obtain ⟨q', e, m, f, t⟩ := u
  exact ⟨q', ⟨e.trans h.b, m, h.fr.step f fun i _ hi => .inr (h.foot i hi), fun k hk => (t k hk).elim (h.foot k) (Nat.le_trans h.fr.size)⟩, f, t⟩
/-- A block of the law's own. -/
structure Loc (q : Bs) (s : St) (g : Nat) (t : TypeId) (cs : Array Value) (w1 : World) : Prop where
  blk : Blk w1 g t cs
  away : ¬ Foot q s g
theorem Loc.still {q : Bs} {s : St} {g : Nat} {t : TypeId} {cs : Array Value} (h : Loc q s g t cs w1) (hf : Fr Nil w1 w2) : Loc q s g t cs w2 := ⟨h.blk.fr0 hf, h.away⟩
theorem Loc.step {q q' : Bs} {s s' : St} {g : Nat} {t : TypeId} {cs : Array Value} (h : Loc q s g t cs w1) (hs : Step w1 q s w2 q' s') : Loc q' s' g t cs w2 :=
  ⟨h.blk.fr hs.fr h.away, fun hF => (hs.foot g hF).elim h.away fun h2 => by have := h.blk.lt; omega⟩
theorem Mine.loc (h : Mine w b q s w1) (t : TypeId) (cs : Array Value) : Mine w b q s (w1.alloc (.cells cs t)) ∧ Loc q s w1.heap.size t cs (w1.alloc (.cells cs t)) :=
  ⟨h.still ((Fr.refl _ _).alloc _), Blk.new w1 t cs, fun hF => Nat.lt_irrefl _ (h.mem.lt hF)⟩
/-- A list of stores that a law has got: of its own. -/
structure Own (w : World) (q : Bs) (s : St) (v : Value) (l : List L) (w' : World) : Prop where
  win : Win w' 47 3 v l.length (lcs l)
  own : ∀ k, v.ownBlock = some k → w.heap.size ≤ k ∧ ¬ Foot q s k
theorem Mine.turnL (h : Mine w b q s w1) {v : Value} {l : List L} {q' : Bs} (u : UpdL w1 q s s' v l w2 q') : Mine w b q' s' w2 ∧ Own w q' s' v l w2 ∧ Step w1 q s w2 q' s' ∧ ∀ k, v.ownBlock = some k → w1.heap.size ≤ k :=
  ⟨⟨u.b.trans h.b, u.mem, h.fr.step u.fr fun i _ hi => .inr (h.foot i hi), fun k hk => (u.foot k hk).elim (h.foot k) (Nat.le_trans h.fr.size)⟩,
    ⟨u.win, fun k hk => ⟨Nat.le_trans h.fr.size (u.own k hk).1, (u.own k hk).2⟩⟩, ⟨u.fr, u.foot⟩, fun k hk => (u.own k hk).1⟩
theorem Own.step {q' : Bs} {v : Value} {l : List L} (h : Own w q s v l w1) (hs : Step w1 q s w2 q' s') : Own w q' s' v l w2 :=
  ⟨h.win.fr hs.fr fun k hk => (h.own k hk).2, fun k hk => ⟨(h.own k hk).1, fun hF => (hs.foot k hF).elim (h.own k hk).2 fun h2 => by have := h.win.lt hk; omega⟩⟩
theorem Own.still {v : Value} {l : List L} (h : Own w q s v l w1) (hf : Fr Nil w1 w2) : Own w q s v l w2 := ⟨h.win.fr hf fun _ _ => id, h.own⟩

def ptr (b : Nat) : Value := .pointer (some ⟨b, 0, none⟩)
def NewM (w : World) (n c d : Nat) (e : Ending) (w' : World) : Prop := ∃ b q, e = .returned (.tuple #[.pointer (some ⟨b, 0, none⟩), .int .i64 0]) ∧ Mine w b q (St0 n c d) w'
theorem mine_new (n c d : Nat) {x y z : Int} (w : World) (hx : x = (n : Int)) (hy : y = (c : Int)) (hz : z = (d : Int)) (n1 : 1 ≤ n) (n2 : n ≤ 8192) (c1 : 1 ≤ c) (c2 : c ≤ 8) (d1 : 1 ≤ d) (d2 : d ≤ 32) : Calls Try.prog 12 #[.int .i64 x, .int .i64 y, .int .i64 z] w (NewM w n c d) := by
  subst hx hy hz
  refine (new_ok n c d w n1 n2 c1 c2 d1 d2).mono ?_
  rintro e w' ⟨q, rfl, h1, h2, h3⟩
  exact ⟨q.b, q, rfl, rfl, h1, h2, h3⟩
/-- What leaves it as it is. -/
def Still (w : World) (b : Nat) (q : Bs) (s : St) (w1 : World) (v : Value) (e : Ending) (w' : World) : Prop := e = .returned v ∧ Mine w b q s w' ∧ Fr Nil w1 w'
/-- What turns it. -/
def Turn (w : World) (b : Nat) (q : Bs) (s : St) (w1 : World) (s' : St) (v : Value) (e : Ending) (w' : World) : Prop := e = .returned v ∧ ∃ q', Mine w b q' s' w' ∧ Step w1 q s w' q' s'
theorem Mine.load (h : Mine w b q s w1) (i k : Nat) {c a : Int} (hc : c = (i : Int)) (ha : a = 8 * (k : Int)) (hi : i < s.c) (hk : k < s.n) (hn : s.n ≤ 8192) (hl : (s.H i).length ≤ 1000000) {x : Int} {t : Nat} (hx : s.load i k = (x, t)) :
    Calls Try.prog 15 #[.pointer (some ⟨b, 0, none⟩), .int .i64 c, .int .u64 a] w1 (Still w b q s w1 (.tuple #[.int .u64 x, .int .i64 (t : Int), .int .i64 0])) := by
  subst hc
  rw [← h.b]
  refine (load_ok q s i a k w1 h.mem hi hk hn ha hl).mono ?_
  rintro e w' ⟨rfl, hf⟩
  rw [hx, h.b]
  exact ⟨rfl, h.still hf, hf⟩
theorem Mine.peek (h : Mine w b q s w1) (k : Nat) {a : Int} (ha : a = 8 * (k : Int)) (hk : k < s.n) (hn : s.n ≤ 8192) :
    Calls Try.prog 26 #[.pointer (some ⟨b, 0, none⟩), .int .u64 a] w1 (Still w b q s w1 (.tuple #[.int .u64 (s.V k), .int .i64 (s.T k : Int), .int .i64 0])) := by
  rw [← h.b]
  refine (peek_ok q s a k w1 h.mem hk hn ha).mono ?_
  rintro e w' ⟨rfl, hf⟩
  rw [h.b]
  exact ⟨rfl, h.still hf, hf⟩
theorem Mine.stamp (h : Mine w b q s w1) (t x : Nat) {c : Int} (hc : c = (t : Int)) (hs : s.st.length ≤ 1000000) (ht : 1 ≤ t) (hx : s.st[t]? = some x) :
    Calls Try.prog 30 #[.pointer (some ⟨b, 0, none⟩), .int .i64 c] w1 (Still w b q s w1 (.int .i64 (x : Int))) := by
  subst hc
  rw [← h.b]
  refine (stamp_ok q s t x w1 h.mem hs ht hx).mono ?_
  rintro e w' ⟨rfl, rfl⟩
  rw [h.b]
  exact ⟨rfl, h, Fr.refl _ _⟩
theorem Mine.tickets (h : Mine w b q s w1) (hs : s.st.length ≤ 1000000) : Calls Try.prog 21 #[.pointer (some ⟨b, 0, none⟩)] w1 (Still w b q s w1 (.int .i64 ((s.st.length : Int) - 1))) := by
  rw [← h.b]
  refine (tickets_ok q s w1 h.mem hs).mono ?_
  rintro e w' ⟨rfl, rfl⟩
  rw [h.b]
  exact ⟨rfl, h, Fr.refl _ _⟩
/-- A list of tickets that a law has got. -/
def GotInts (w : World) (b : Nat) (q : Bs) (s : St) (w1 : World) (l : List Nat) (e : Ending) (w' : World) : Prop := ∃ v, e = .returned v ∧ Mine w b q s w' ∧ Fr Nil w1 w' ∧ Win w' 3 1 v l.length (its l) ∧ ∀ k, v.ownBlock = some k → w1.heap.size ≤ k
theorem Mine.order (h : Mine w b q s w1) (hs : s.od.length ≤ 1000000) : Calls Try.prog 22 #[.pointer (some ⟨b, 0, none⟩)] w1 (GotInts w b q s w1 s.od) := by
  rw [← h.b]
  refine (order_ok q s w1 h.mem hs).mono ?_
  rintro e w' ⟨v, rfl, h1, h2, h3⟩
  rw [h.b]
  exact ⟨v, rfl, h.still h2, h2, h1, h3⟩
def GotLates (w : World) (b : Nat) (q : Bs) (s : St) (w1 : World) (l : List L) (e : Ending) (w' : World) : Prop := ∃ v, e = .returned v ∧ Mine w b q s w' ∧ Fr Nil w1 w' ∧ Own w q s v l w' ∧ ∀ k, v.ownBlock = some k → w1.heap.size ≤ k
theorem Mine.held (h : Mine w b q s w1) (i : Nat) {c : Int} (hc : c = (i : Int)) (hi : i < s.c) (hs : (s.H i).length ≤ 1000000) : Calls Try.prog 29 #[.pointer (some ⟨b, 0, none⟩), .int .i64 c] w1 (GotLates w b q s w1 (s.H i)) := by
  subst hc
  rw [← h.b]
  refine (held_ok q s i w1 h.mem hi hs).mono ?_
  rintro e w' ⟨v, rfl, h1, h2, h3⟩
  rw [h.b]
  exact ⟨v, rfl, h.still h2, h2, ⟨h1, fun k hk => ⟨Nat.le_trans h.fr.size (h3 k hk), fun hF => by have := h.mem.lt hF; have := h3 k hk; omega⟩⟩, h3⟩
theorem Mine.set (h : Mine w b q s w1) (k : Nat) {a v : Int} (ha : a = 8 * (k : Int)) (hk : k < s.n) (hn : s.n ≤ 8192) (hs : s.st.length = 1) :
    Calls Try.prog 13 #[.pointer (some ⟨b, 0, none⟩), .int .u64 a, .int .u64 v] w1 (Turn w b q s w1 { s with V := upd s.V k v } (.int .i64 0)) := by
  rw [← h.b]
  refine (set_ok q s a v k w1 h.mem hk hn ha hs).mono ?_
  rintro e w' ⟨rfl, u⟩
  rw [h.b]
  exact ⟨rfl, h.turn u⟩
theorem Mine.setRun (h : Mine w b q s w1) (k : Nat) {a v : Int} (ha : a = 8 * (k : Int)) (hk : k < s.n) (hn : s.n ≤ 8192) (hs : 1 < s.st.length) :
    Calls Try.prog 13 #[.pointer (some ⟨b, 0, none⟩), .int .u64 a, .int .u64 v] w1 (Still w b q s w1 (.int .i64 7)) := by
  rw [← h.b]
  refine (set_run q s a v k w1 h.mem hk hn ha hs).mono ?_
  rintro e w' ⟨rfl, rfl⟩
  rw [h.b]
  exact ⟨rfl, h, Fr.refl _ _⟩
theorem Mine.store (h : Mine w b q s w1) (i k : Nat) {c a v : Int} (hc : c = (i : Int)) (ha : a = 8 * (k : Int)) (hi : i < s.c) (hk : k < s.n) (hn : s.n ≤ 8192) (hf : (s.H i).length < s.d) (hd : s.d ≤ 32) (hs : s.st.length ≤ 1000000) {t : Nat} (ht : s.st.length = t) :
    Calls Try.prog 14 #[.pointer (some ⟨b, 0, none⟩), .int .i64 c, .int .u64 a, .int .u64 v] w1 (Turn w b q s w1 (s.hold i ⟨a, v, t⟩) (.tuple #[.int .i64 (t : Int), .int .i64 0])) := by
  subst hc ht
  rw [← h.b]
  refine (store_ok q s i ⟨a, v, s.st.length⟩ k w1 h.mem hi hk hn ha rfl hf hd hs).mono ?_
  rintro e w' ⟨rfl, u⟩
  rw [h.b]
  exact ⟨rfl, h.turn u⟩
theorem Mine.full (h : Mine w b q s w1) (i k : Nat) {c a v : Int} (hc : c = (i : Int)) (ha : a = 8 * (k : Int)) (hi : i < s.c) (hk : k < s.n) (hn : s.n ≤ 8192) (hf : (s.H i).length = s.d) :
    Calls Try.prog 14 #[.pointer (some ⟨b, 0, none⟩), .int .i64 c, .int .u64 a, .int .u64 v] w1 (Still w b q s w1 (.tuple #[.int .i64 0, .int .i64 30])) := by
  subst hc
  rw [← h.b]
  refine (store_full q s i a v k w1 h.mem hi hk hn ha hf).mono ?_
  rintro e w' ⟨rfl, hf⟩
  rw [h.b]
  exact ⟨rfl, h.still hf, hf⟩
theorem Mine.drain (h : Mine w b q s w1) (i : Nat) {c : Int} (hc : c = (i : Int)) {x : L} {l : List L} (hi : i < s.c) (hx : s.H i = x :: l) (hn : s.n ≤ 8192) (hF : Fine s i) (hs : s.st.length ≤ 1000000) (ho : s.od.length ≤ 1000000) :
    Calls Try.prog 24 #[.pointer (some ⟨b, 0, none⟩), .int .i64 c] w1 (Turn w b q s w1 (s.drain1 i) (.tuple #[.agg #[.int .u64 x.a, .int .u64 x.v, .int .i64 (x.t : Int)], .int .i64 0])) := by
  subst hc
  rw [← h.b]
  obtain ⟨f1, f2, f3⟩ := hF x (by rw [hx]; simp)
  refine (drain_ok q s i x l x.k w1 h.mem hi hx f1 hn f2 f3 hs ho).mono ?_
  rintro e w' ⟨rfl, u⟩
  rw [h.b]
  rw [← drain1_cons hx] at u
  exact ⟨rfl, h.turn u⟩
theorem Mine.drainNone (h : Mine w b q s w1) (i : Nat) {c : Int} (hc : c = (i : Int)) (hi : i < s.c) (hx : s.H i = []) :
    Calls Try.prog 24 #[.pointer (some ⟨b, 0, none⟩), .int .i64 c] w1 (Still w b q s w1 (.tuple #[.agg #[.int .u64 0, .int .u64 0, .int .i64 0], .int .i64 31])) := by
  subst hc
  rw [← h.b]
  refine (drain_none q s i w1 h.mem hi hx).mono ?_
  rintro e w' ⟨rfl, hf⟩
  rw [h.b]
  exact ⟨rfl, h.still hf, hf⟩
/-- What turns it and hands back a list, behind other results. -/
def TurnL (w : World) (b : Nat) (q : Bs) (s : St) (w1 : World) (s' : St) (l : List L) (v : Value → Value) (e : Ending) (w' : World) : Prop := ∃ x q', e = .returned (v x) ∧ Mine w b q' s' w' ∧ Own w q' s' x l w' ∧ Step w1 q s w' q' s' ∧ ∀ k, x.ownBlock = some k → w1.heap.size ≤ k
theorem Mine.flush (h : Mine w b q s w1) (i : Nat) {c : Int} (hc : c = (i : Int)) (hi : i < s.c) (hn : s.n ≤ 8192) (hF : Fine s i) (hs : s.st.length ≤ 100000) (ho : s.od.length ≤ 100000) (hl : (s.H i).length ≤ 1000) :
    Calls Try.prog 16 #[.pointer (some ⟨b, 0, none⟩), .int .i64 c] w1 (TurnL w b q s w1 (s.drains i (s.H i).length) (s.H i) fun x => .tuple #[x, .int .i64 0]) := by
  subst hc
  rw [← h.b]
  refine (flush_ok q s i w1 h.mem hi hn hF (by omega) ho hl).mono ?_
  rintro e w' ⟨v, q', rfl, u⟩
  rw [h.b]
  exact ⟨v, q', rfl, h.turnL u⟩
theorem Mine.put (h : Mine w b q s w1) (i k : Nat) {c a v : Int} (hc : c = (i : Int)) (ha : a = 8 * (k : Int)) (hi : i < s.c) (hk : k < s.n) (hn : s.n ≤ 8192) (hF : Fine s i) (hs : s.st.length ≤ 100000) (ho : s.od.length ≤ 100000) (hl : (s.H i).length ≤ 1000) {t : Nat} (ht : s.st.length = t) :
    Calls Try.prog 25 #[.pointer (some ⟨b, 0, none⟩), .int .i64 c, .int .u64 a, .int .u64 v] w1 (TurnL w b q s w1 (s.put i k v) (s.H i) fun x => .tuple #[.int .i64 (t : Int), x, .int .i64 0]) := by
  subst hc ht
  rw [← h.b]
  refine (put_ok q s i a v k w1 h.mem hi hk hn ha hF hs ho hl).mono ?_
  rintro e w' ⟨v, q', rfl, u⟩
  rw [h.b]
  exact ⟨v, q', rfl, h.turnL u⟩
end
/-! ### pick -/
def pk (c n : Int) : Int := (if c < 0 then -(c + 1) else c) % n
theorem pk_rng (c n : Int) (hn : 0 < n) : 0 ≤ pk c n ∧ pk c n < n := ⟨Int.emod_nonneg _ (by omega), Int.emod_lt_of_pos _ hn⟩
theorem pick_ok (c n : Int) (w : World) (c0 : -9223372036854775808 ≤ c) (c1 : c ≤ 9223372036854775807) (n0 : 0 < n) (n1 : n ≤ 1000) : Calls Try.prog 23 #[.int .i64 c, .int .i64 n] w fun e w' => e = .returned (.int .i64 (pk c n)) ∧ w = w' := by
  by_cases h : c < 0
  · have e : pk c n = (-(c + 1)) % n := by unfold pk; rw [if_pos h]
    have E := Lib.hid e
    clear e
    go_enter Try.func23, Try.ntmps23
    go_wp2
    go_ret
    rw [E.out]
    refine ⟨?_, rfl⟩
    show Ending.returned (.int .i64 (-((c + 1).tmod n))) = _
    rw [← Int.neg_tmod, Int.tmod_eq_emod_of_nonneg (by omega)]
  · have e : pk c n = c % n := by unfold pk; rw [if_neg h]
    have E := Lib.hid e
    have h' : 0 ≤ c := by omega
    clear e
    go_enter Try.func23, Try.ntmps23
    go_wp2
    go_ret
    rw [E.out]
    refine ⟨?_, rfl⟩
    rfl
end Go.Proofs.Ytjbdbmahbcaniaa
