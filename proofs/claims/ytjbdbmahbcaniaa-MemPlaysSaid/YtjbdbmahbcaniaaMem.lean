/- The memory of chapter 8 as it lies; its readers. -/
import Derived.Test.YtjbdbmahbcaniaaWin
import Derived.Test.YtjbdbmahbcaniaaBase3
import Derived.Test.YtjbdbmahbcaniaaRows
set_option linter.unusedSimpArgs false
set_option linter.unusedSectionVars false
namespace Go.Proofs.Ytjbdbmahbcaniaa
open Go.RowKit
set_option linter.unusedVariables false

/-- Rows of one length, one behind the other. -/
def rows (f : Nat → List Value) (m : Nat) : List Value := (List.range m).flatMap f
theorem rows_succ (f : Nat → List Value) (m : Nat) : rows f (m + 1) = rows f m ++ f m := by simp [rows, List.range_succ]
theorem rows_length (f : Nat → List Value) (s : Nat) (hf : ∀ i, (f i).length = s) (m : Nat) : (rows f m).length = m * s := by
  induction m with
  | zero => simp [rows]
  | succ m ih => rw [rows_succ, List.length_append, ih, hf, Nat.add_mul, Nat.one_mul]
theorem rows_get (f : Nat → List Value) (s : Nat) (hf : ∀ i, (f i).length = s) {m i j : Nat} (hi : i < m) (hj : j < s) : (rows f m)[i * s + j]? = (f i)[j]? := by
  induction m with
  | zero => omega
  | succ m ih =>
    rw [rows_succ]
    by_cases h : i = m
    · subst h
      rw [List.getElem?_append_right (by rw [rows_length f s hf]; omega), rows_length f s hf, Nat.add_sub_cancel_left]
    · have : i * s + j < m * s := by
        have := Nat.mul_le_mul_right s (show i + 1 ≤ m by omega)
        rw [Nat.add_mul] at this
        omega
      rw [List.getElem?_append_left (by rw [rows_length f s hf]; exact this)]
      exact ih (by omega)
theorem rows_congr {f g : Nat → List Value} {m : Nat} (h : ∀ i, i < m → f i = g i) : rows f m = rows g m := by
  induction m with
  | zero => rfl
  | succ m ih => rw [rows_succ, rows_succ, ih fun i hi => h i (by omega), h m (by omega)]
theorem rows_put (f : Nat → List Value) (s : Nat) (hf : ∀ i, (f i).length = s) {m i : Nat} (hi : i < m) (y : List Value) (hy : y.length = s) :
    (rows f m).take (i * s) ++ y ++ (rows f m).drop (i * s + s) = rows (upd f i y) m := by
  induction m with
  | zero => omega
  | succ m ih =>
    rw [rows_succ, rows_succ]
    have hl := rows_length f s hf m
    by_cases h : i = m
    · subst h
      rw [List.take_append_of_le_length (by omega), List.take_of_length_le (by omega), List.drop_of_length_le (by rw [List.length_append, hl, hf]; exact Nat.le_refl _), List.append_nil, upd_same]
      congr 1
      exact rows_congr fun k hk => (upd_other f y (by omega)).symm
    · have hle : i * s + s ≤ m * s := by
        have := Nat.mul_le_mul_right s (show i + 1 ≤ m by omega)
        rw [Nat.add_mul, Nat.one_mul] at this
        exact this
      rw [List.take_append_of_le_length (by omega), List.drop_append_of_le_length (by omega), ← List.append_assoc, ih (by omega), upd_other f y (by omega)]
theorem rows_set (f : Nat → List Value) (s : Nat) (hf : ∀ i, (f i).length = s) {m i j : Nat} (hi : i < m) (hj : j < s) (u : Value) : (rows f m).set (i * s + j) u = rows (upd f i ((f i).set j u)) m := by
  induction m with
  | zero => omega
  | succ m ih =>
    rw [rows_succ, rows_succ]
    have hl := rows_length f s hf m
    by_cases h : i = m
    · subst h
      rw [List.set_append_right _ _ (by omega), hl, Nat.add_sub_cancel_left, upd_same]
      congr 1
      exact rows_congr fun k hk => (upd_other f _ (by omega)).symm
    · have hle : i * s + s ≤ m * s := by
        have := Nat.mul_le_mul_right s (show i + 1 ≤ m by omega)
        rw [Nat.add_mul, Nat.one_mul] at this
        exact this
      rw [List.set_append_left _ _ (by omega), ih (by omega), upd_other f _ (by omega)]

/-- A store that waits; the state of a memory. -/
structure L where
  a : Int
  v : Int
  t : Nat
structure St where
  n : Nat
  c : Nat
  d : Nat
  V : Nat → Int
  T : Nat → Nat
  H : Nat → List L
  st : List Nat
  od : List Nat
def encL (x : L) : List Value := [.int .u64 x.a, .int .u64 x.v, .int .i64 (x.t : Int)]
def lcs (l : List L) : List Value := l.flatMap encL
def its (l : List Nat) : List Value := l.map fun (t : Nat) => Value.int .i64 (t : Int)
def word (V : Nat → Int) (T : Nat → Nat) (i : Nat) : List Value := [.int .u64 (V i), .int .i64 (T i : Int)]
def wcs (V : Nat → Int) (T : Nat → Nat) (n : Nat) : Array Value := (rows (word V T) n).toArray
def hvs (hv : Nat → Value) (c : Nat) : Array Value := ((List.range c).map hv).toArray
theorem lcs_length (l : List L) : (lcs l).length = l.length * 3 := by
  unfold lcs
  induction l with
  | nil => rfl
  | cons x l ih => rw [List.flatMap_cons, List.length_append, ih, List.length_cons, Nat.add_mul]; simp [encL]; omega
theorem lcs_get {l : List L} {i : Nat} {x : L} (h : l[i]? = some x) {j : Nat} (hj : j < 3) : (lcs l)[i * 3 + j]? = (encL x)[j]? := by
  unfold lcs
  induction l generalizing i with
  | nil => simp at h
  | cons y l ih =>
    rw [List.flatMap_cons]
    cases i with
    | zero =>
      simp at h
      subst h
      rw [List.getElem?_append_left (by simp [encL]; omega)]
      simp
    | succ i =>
      rw [List.getElem?_append_right (by simp [encL]; omega)]
      have : (i + 1) * 3 + j - (encL y).length = i * 3 + j := by simp [encL]; omega
      rw [this]
      exact ih (by simpa using h)
theorem lcs_append (l : List L) (x : L) : lcs (l ++ [x]) = lcs l ++ encL x := by simp [lcs]
theorem lcs_drop (x : L) (l : List L) : (lcs (x :: l)).drop 3 = lcs l := by simp [lcs, encL]
theorem its_get {l : List Nat} {i t : Nat} (h : l[i]? = some t) : (its l)[i]? = some (.int .i64 (t : Int)) := by simp [its, h]
theorem its_length (l : List Nat) : (its l).length = l.length := by simp [its]
theorem word_length (V : Nat → Int) (T : Nat → Nat) (i : Nat) : (word V T i).length = 2 := rfl
theorem wcs_v {V : Nat → Int} {T : Nat → Nat} {n k : Nat} (h : k < n) : (wcs V T n)[k * 2]? = some (.int .u64 (V k)) := by
  have := rows_get (word V T) 2 (word_length V T) (j := 0) h (by omega)
  simpa [wcs, word] using this
theorem wcs_t {V : Nat → Int} {T : Nat → Nat} {n k : Nat} (h : k < n) : (wcs V T n)[k * 2 + 1]? = some (.int .i64 (T k : Int)) := by
  have := rows_get (word V T) 2 (word_length V T) (j := 1) h (by omega)
  simpa [wcs, word] using this
theorem wcs_size (V : Nat → Int) (T : Nat → Nat) (n : Nat) : (wcs V T n).size = n * 2 := by
  simp [wcs, rows_length (word V T) 2 (word_length V T)]
theorem hvs_get {hv : Nat → Value} {c k : Nat} (h : k < c) : (hvs hv c)[k]? = some (hv k) := by
  simp [hvs, List.getElem?_map, List.getElem?_range h]
theorem map_range_set {α : Type} (f : Nat → α) (n k : Nat) (v : α) : (((List.range n).map f).toArray.setIfInBounds k v) = ((List.range n).map (upd f k v)).toArray := by
  rw [List.setIfInBounds_toArray]
  congr 1
  apply List.ext_getElem?
  intro i
  rw [List.getElem?_set]
  by_cases hi : i < n
  · by_cases hk : k = i
    · subst hk; simp [List.getElem?_range hi, upd, hi]
    · simp [List.getElem?_range hi, upd, hk, Ne.symm hk]
  · by_cases hk : k = i
    · subst hk; simp [hi]
    · simp [hk, hi]
theorem hvs_set {hv : Nat → Value} {c : Nat} (k : Nat) (v : Value) : (hvs hv c).setIfInBounds k v = hvs (upd hv k v) c := map_range_set hv c k v
theorem wcs_setv {V : Nat → Int} {T : Nat → Nat} {n k : Nat} (h : k < n) (x : Int) : (wcs V T n).setIfInBounds (k * 2) (.int .u64 x) = wcs (upd V k x) T n := by
  unfold wcs
  rw [List.setIfInBounds_toArray]
  congr 1
  have := rows_set (word V T) 2 (word_length V T) (j := 0) h (by omega) (.int .u64 x)
  rw [Nat.add_zero] at this
  rw [this]
  refine rows_congr fun i _ => ?_
  by_cases hi : i = k
  · subst hi; rw [upd_same]; simp [word, upd_same]
  · rw [upd_other _ _ hi]; simp [word, upd_other _ _ hi]

/-- Where it lies. -/
structure Bs where
  b : Nat
  bw : Nat
  bh : Nat
  hv : Nat → Value
  sv : Value
  ov : Value
structure MemAt (w : World) (q : Bs) (s : St) : Prop where
  top : Blk w q.b 75 #[.slice (some ⟨q.bw, 0, none⟩) s.n s.n, .slice (some ⟨q.bh, 0, none⟩) s.c s.c, .int .i64 (s.d : Int), q.sv, q.ov]
  words : Blk w q.bw 79 (wcs s.V s.T s.n)
  held : Blk w q.bh 33 (hvs q.hv s.c)
  own : ∀ i, i < s.c → Win w 47 3 (q.hv i) (s.H i).length (lcs (s.H i))
  stamp : Win w 3 1 q.sv s.st.length (its s.st)
  order : Win w 3 1 q.ov s.od.length (its s.od)
  apart : ∀ i j k, i < s.c → j < s.c → i ≠ j → (q.hv i).ownBlock = some k → (q.hv j).ownBlock ≠ some k
  apart2 : ∀ k, q.sv.ownBlock = some k → q.ov.ownBlock ≠ some k
/-- Its blocks. -/
def Foot (q : Bs) (s : St) (k : Nat) : Prop := k = q.b ∨ k = q.bw ∨ k = q.bh ∨ (∃ i, i < s.c ∧ (q.hv i).ownBlock = some k) ∨ q.sv.ownBlock = some k ∨ q.ov.ownBlock = some k
theorem MemAt.lt {w : World} {q : Bs} {s : St} (h : MemAt w q s) {k : Nat} (hk : Foot q s k) : k < w.heap.size := by
  rcases hk with rfl | rfl | rfl | ⟨i, hi, hk⟩ | hk | hk
  · exact h.top.lt
  · exact h.words.lt
  · exact h.held.lt
  · exact (h.own i hi).lt hk
  · exact h.stamp.lt hk
  · exact h.order.lt hk
theorem MemAt.fr {w w' : World} {q : Bs} {s : St} {S : Nat → Prop} (h : MemAt w q s) (hf : Fr S w w') (hs : ∀ k, Foot q s k → ¬ S k) : MemAt w' q s :=
  ⟨h.top.fr hf (hs _ (.inl rfl)), h.words.fr hf (hs _ (.inr (.inl rfl))), h.held.fr hf (hs _ (.inr (.inr (.inl rfl)))),
    fun i hi => (h.own i hi).fr hf fun k hk => hs k (.inr (.inr (.inr (.inl ⟨i, hi, hk⟩)))),
    h.stamp.fr hf fun k hk => hs k (.inr (.inr (.inr (.inr (.inl hk))))),
    h.order.fr hf fun k hk => hs k (.inr (.inr (.inr (.inr (.inr hk))))), h.apart, h.apart2⟩
theorem MemAt.fr0 {w w' : World} {q : Bs} {s : St} (h : MemAt w q s) (hf : Fr Nil w w') : MemAt w' q s := h.fr hf fun _ _ => id
/-- What a call that turns it leaves. -/
def Upd (w : World) (q : Bs) (s s' : St) (w' : World) : Prop := ∃ q', q'.b = q.b ∧ MemAt w' q' s' ∧ Fr (Foot q s) w w' ∧ ∀ k, Foot q' s' k → Foot q s k ∨ w.heap.size ≤ k

/-! ### Readers -/
theorem core_ok (q : Bs) (s : St) (x : Int) (w : World) (hm : MemAt w q s) : Calls Try.prog 35 #[.pointer (some ⟨q.b, 0, none⟩), .int .i64 x] w fun e w' => e = .returned (.bool (decide (0 ≤ x ∧ x < s.c))) ∧ w = w' := by
  have hc : w.cell? ⟨q.b, 1, none⟩ = some (.slice (some ⟨q.bh, 0, none⟩) s.c s.c) := hm.top.cellv rfl
  clear hm
  generalize s.c = c at *
  by_cases h0 : 0 ≤ x
  · by_cases h1 : x < c
    · go_enter Try.func35, Try.ntmps35
      go_wp2
      go_ret
      exact ⟨by simp [h0, h1], rfl⟩
    · have h2 : (c : Int) ≤ x := by omega
      go_enter Try.func35, Try.ntmps35
      go_wp2
      go_ret
      exact ⟨by simp [h0, h1], rfl⟩
  · have h2 : x < 0 := by omega
    go_enter Try.func35, Try.ntmps35
    go_wp2
    go_ret
    exact ⟨by simp; omega, rfl⟩
theorem at_ok (q : Bs) (s : St) (a : Int) (k : Nat) (w : World) (hm : MemAt w q s) (hk : k < s.n) (hn : s.n ≤ 8192) (ha : a = 8 * (k : Int)) : Calls Try.prog 34 #[.pointer (some ⟨q.b, 0, none⟩), .int .u64 a] w fun e w' => e = .returned (.pointer (some ⟨q.bw, k * 2, none⟩)) ∧ w = w' := by
  have hc : w.cell? ⟨q.b, 0, none⟩ = some (.slice (some ⟨q.bw, 0, none⟩) s.n s.n) := hm.top.cellv rfl
  clear hm
  generalize s.n = n at *
  have h1 : a % 8 = 0 := by omega
  have h2 : a / 8 = (k : Int) := by omega
  have k0 : (0 : Int) ≤ (k : Int) := by omega
  have k1 : (k : Int) < (n : Int) := by omega
  have n1 : (n : Int) ≤ 8192 := by omega
  have a0 : 0 ≤ a := by omega
  have a1 : a ≤ 65536 := by omega
  clear ha
  go_enter Try.func34, Try.ntmps34
  go_wp2
  go_ret
  exact ⟨rfl, rfl⟩
end Go.Proofs.Ytjbdbmahbcaniaa
