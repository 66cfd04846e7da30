/- Chapter 15: the plain law. Notes, versions, what a core may run. -/
import Derived.WalkKit
namespace Go.Proofs.Ytdbgfnkcphbgfaa
set_option linter.unusedVariables false

structure N where
  k : Int
  c : Int
  a : Int
  w : Int
structure V where
  w : Int
  o : Bool
  t : Bool
  l : Bool
def isW (addr : Int) (n : N) : Bool := n.k == 1 && n.a == addr
def isI (addr : Int) (n : N) : Bool := n.k == 3 || (n.k == 2 && n.a / 64 == addr / 64)
def isB (core : Int) (n : N) : Bool := n.k == 4 && n.c == core
def V.over (v : V) : V := { v with o := true }
def V.told (v : V) : V := { v with t := v.o }
def V.lose (v : V) : V := { v with l := v.l || v.t }
def stepV (core addr : Int) (vs : List V) (n : N) : List V :=
  if isW addr n = true then vs.map V.over ++ [⟨n.w, false, false, false⟩]
  else if isI addr n = true then vs.map V.told
  else if isB core n = true then vs.map V.lose
  else vs
def vers (core addr first : Int) (l : List N) : List V := l.foldl (stepV core addr) [⟨first, false, false, false⟩]
def wordsV (vs : List V) : List Int := (vs.filter fun v => !v.l).map (·.w)
def ddStep (out : List Int) (w : Int) : List Int := if out.contains w then out else out ++ [w]
def dd (l : List Int) : List Int := l.foldl ddStep []
def may (core addr first : Int) (l : List N) : List Int := dd (wordsV (vers core addr first l))
/-- A note is right. -/
def rightN (n : N) : Bool :=
  if n.k = 1 then decide (n.c = 0) && decide (n.a % 4 = 0)
  else if n.k = 2 then decide (n.c = 0) && decide (n.w = 0)
  else if n.k = 3 then decide (n.c = 0) && decide (n.a = 0) && decide (n.w = 0)
  else if n.k = 4 then decide (0 ≤ n.c) && decide (n.c < 8) && decide (n.a = 0) && decide (n.w = 0)
  else if n.k = 5 then decide (0 ≤ n.c) && decide (n.c < 8) && decide (n.a % 4 = 0)
  else false
def rightL (l : List N) : Bool := l.all rightN
def mayOk (core addr : Int) (l : List N) : Bool := decide (0 ≤ core) && decide (core < 8) && decide (addr % 4 = 0) && rightL l
/-- A fetch whose word may not be. -/
def badAt (first : Int) (l : List N) (n : N) : Bool := n.k == 5 && !(wordsV (vers n.c n.a first l)).contains n.w
/-- The first that is bad, of those from the place k on; pre: what came ahead of it. -/
def chk (first : Int) : List N → List N → Int
  | _, [] => -1
  | pre, n :: r => if badAt first pre n = true then pre.length else chk first (pre ++ [n]) r

/- dd -/
theorem ddStep_mem (out : List Int) (w x : Int) : x ∈ ddStep out w ↔ x ∈ out ∨ x = w := by
  unfold ddStep
  split
  · rename_i h
    constructor
    · exact fun h => .inl h
    · rintro (h' | rfl)
      · exact h'
      · simpa using h
  · simp
theorem dd_fold (l out : List Int) (x : Int) : x ∈ l.foldl ddStep out ↔ x ∈ out ∨ x ∈ l := by
  induction l generalizing out with
  | nil => simp
  | cons w l ih => rw [List.foldl_cons, ih, ddStep_mem]; simp [or_assoc]
theorem mem_dd (l : List Int) (x : Int) : x ∈ dd l ↔ x ∈ l := by rw [dd, dd_fold]; simp
theorem dd_len_fold (l out : List Int) : (l.foldl ddStep out).length ≤ out.length + l.length := by
  induction l generalizing out with
  | nil => simp
  | cons w l ih =>
    rw [List.foldl_cons]
    have := ih (ddStep out w)
    have h2 : (ddStep out w).length ≤ out.length + 1 := by unfold ddStep; split <;> simp
    simp only [List.length_cons]
    omega
theorem dd_len (l : List Int) : (dd l).length ≤ l.length := by have := dd_len_fold l []; simpa [dd] using this
theorem dd_take (l : List Int) (k : Nat) (h : k < l.length) : dd (l.take (k + 1)) = ddStep (dd (l.take k)) l[k] := by
  rw [List.take_succ_eq_append_getElem h, dd, List.foldl_append]; rfl
/- versions -/
theorem vers_snoc (core addr first : Int) (l : List N) (n : N) : vers core addr first (l ++ [n]) = stepV core addr (vers core addr first l) n := by simp [vers, List.foldl_append]
theorem vers_take (core addr first : Int) (l : List N) (k : Nat) (h : k < l.length) : vers core addr first (l.take (k + 1)) = stepV core addr (vers core addr first (l.take k)) l[k] := by
  rw [List.take_succ_eq_append_getElem h, vers_snoc]
theorem snoc_ind {α : Type} {P : List α → Prop} (h0 : P []) (h : ∀ l x, P l → P (l ++ [x])) (l : List α) : P l := by
  rw [← List.reverse_reverse (as := l)]
  induction l.reverse with
  | nil => exact h0
  | cons x r ih => rw [List.reverse_cons]; exact h _ _ ih
theorem step_len (core addr : Int) (vs : List V) (n : N) : vs.length ≤ (stepV core addr vs n).length ∧ (stepV core addr vs n).length ≤ vs.length + 1 := by
  unfold stepV; (repeat' split) <;> simp
theorem vers_len (core addr first : Int) (l : List N) : 1 ≤ (vers core addr first l).length ∧ (vers core addr first l).length ≤ l.length + 1 := by
  induction l using snoc_ind with
  | h0 => simp [vers]
  | h l n ih => rw [vers_snoc]; have := step_len core addr (vers core addr first l) n; simp only [List.length_append, List.length_cons, List.length_nil]; omega
theorem wordsV_len (vs : List V) : (wordsV vs).length ≤ vs.length := by simp [wordsV, List.length_filter_le]
theorem words_append (a b : List V) : wordsV (a ++ b) = wordsV a ++ wordsV b := by simp [wordsV]
theorem words_map (vs : List V) (f : V → V) (h : ∀ v, (f v).w = v.w ∧ (f v).l = v.l) : wordsV (vs.map f) = wordsV vs := by
  induction vs with
  | nil => rfl
  | cons v vs ih =>
    have := h v
    simp only [wordsV, List.map_cons, List.filter_cons, this.2] at ih ⊢
    split <;> simp [this.1, ih]
theorem words_lose (vs : List V) (x : Int) (h : x ∈ wordsV (vs.map V.lose)) : x ∈ wordsV vs := by
  simp only [wordsV, List.mem_map, List.mem_filter] at h ⊢
  obtain ⟨v, ⟨⟨u, hu, rfl⟩, hl⟩, rfl⟩ := h
  exact ⟨u, ⟨hu, by simp [V.lose] at hl; simp [hl.1]⟩, rfl⟩
theorem words_w (core addr : Int) (vs : List V) (n : N) (h : isW addr n = true) : wordsV (stepV core addr vs n) = wordsV vs ++ [n.w] := by
  unfold stepV
  rw [if_pos h, words_append, words_map vs V.over (fun v => ⟨rfl, rfl⟩)]
  rfl
theorem words_less (core addr : Int) (vs : List V) (n : N) (h : isW addr n = false) (x : Int) (hx : x ∈ wordsV (stepV core addr vs n)) : x ∈ wordsV vs := by
  unfold stepV at hx
  rw [if_neg (by simp [h])] at hx
  split at hx
  · rwa [words_map vs V.told (fun v => ⟨rfl, rfl⟩)] at hx
  · split at hx
    · exact words_lose _ _ hx
    · exact hx
/-- The last stands. -/
def LastOk (vs : List V) : Prop := ∃ ini w, vs = ini ++ [⟨w, false, false, false⟩]
theorem lastOk_step (core addr : Int) (vs : List V) (n : N) (h : LastOk vs) : LastOk (stepV core addr vs n) := by
  obtain ⟨ini, w, rfl⟩ := h
  unfold stepV
  split
  · exact ⟨_, _, rfl⟩
  · split
    · exact ⟨ini.map V.told, w, by simp [V.told]⟩
    · split
      · exact ⟨ini.map V.lose, w, by simp [V.lose]⟩
      · exact ⟨ini, w, rfl⟩
theorem lastOk_vers (core addr first : Int) (l : List N) : LastOk (vers core addr first l) := by
  induction l using snoc_ind with
  | h0 => exact ⟨[], first, rfl⟩
  | h l n ih => rw [vers_snoc]; exact lastOk_step _ _ _ _ ih
theorem may_pos (core addr first : Int) (l : List N) : 0 < (may core addr first l).length := by
  obtain ⟨ini, w, h⟩ := lastOk_vers core addr first l
  have hm : w ∈ may core addr first l := by
    rw [may, mem_dd, h, words_append]
    exact List.mem_append.2 (.inr (by simp [wordsV]))
  exact List.length_pos_of_mem hm
/-- FetchSees: what was there stays ahead of the reader's ISB. -/
theorem sees_some (core addr first word : Int) (l : List N) (x : Int) : x ∈ may core addr first (l ++ [⟨1, 0, addr, word⟩]) ↔ x ∈ may core addr first l ∨ x = word := by
  rw [may, mem_dd, vers_snoc, words_w _ _ _ _ (by simp [isW]), may, mem_dd]; simp
theorem sees_only (core addr first word : Int) (l : List N) (y : N) (hy : isW addr y = false) (hi : isI addr y = true) :
    may core addr first (((l ++ [⟨1, 0, addr, word⟩]) ++ [y]) ++ [⟨4, core, 0, 0⟩]) = [word] := by
  rw [may, vers_snoc, vers_snoc, vers_snoc]
  generalize vers core addr first l = vs
  have e1 : stepV core addr vs ⟨1, 0, addr, word⟩ = vs.map V.over ++ [⟨word, false, false, false⟩] := by simp [stepV, isW]
  rw [e1]
  have e2 : stepV core addr (vs.map V.over ++ [⟨word, false, false, false⟩]) y = vs.map (V.told ∘ V.over) ++ [⟨word, false, false, false⟩] := by
    simp [stepV, hy, hi, V.told]
  rw [e2]
  have e3 : stepV core addr (vs.map (V.told ∘ V.over) ++ [⟨word, false, false, false⟩]) ⟨4, core, 0, 0⟩ = vs.map (V.lose ∘ (V.told ∘ V.over)) ++ [⟨word, false, false, false⟩] := by
    simp [stepV, isW, isI, isB, V.lose]
  rw [e3, words_append]
  have e4 : wordsV (vs.map (V.lose ∘ (V.told ∘ V.over))) = [] := by
    simp only [wordsV, List.map_eq_nil_iff, List.filter_eq_nil_iff, List.mem_map]
    rintro v ⟨u, _, rfl⟩
    simp [V.lose, V.told, V.over]
  rw [e4]
  rfl
/- FetchLess -/
def notW (addr : Int) (n : N) : Bool := !isW addr n
/-- What core's own trace keeps. -/
def mine (core : Int) (n : N) : Bool := n.k != 4 || n.c == core
theorem less_sub (core addr : Int) (more : List N) (vs : List V) (x : Int) (hx : x ∈ wordsV ((more.filter (notW addr)).foldl (stepV core addr) vs)) : x ∈ wordsV vs := by
  induction more generalizing vs with
  | nil => exact hx
  | cons n more ih =>
    rw [List.filter_cons] at hx
    split at hx
    · rename_i h
      exact words_less core addr vs n (by simpa [notW] using h) x (ih _ hx)
    · exact ih _ hx
theorem step_mine (core addr : Int) (vs : List V) (n : N) (h : mine core n = false) : stepV core addr vs n = vs := by
  simp only [mine, Bool.or_eq_false_iff, bne_eq_false_iff_eq, beq_eq_false_iff_ne] at h
  simp [stepV, isW, isI, isB, h.1, h.2]
theorem less_mine (core addr : Int) (more : List N) (vs : List V) :
    ((more.filter fun n => notW addr n && mine core n)).foldl (stepV core addr) vs = (more.filter (notW addr)).foldl (stepV core addr) vs := by
  induction more generalizing vs with
  | nil => rfl
  | cons n more ih =>
    rw [List.filter_cons, List.filter_cons]
    by_cases h1 : notW addr n = true
    · by_cases h2 : mine core n = true
      · simp [h1, h2, ih]
      · simp only [h1, h2, Bool.and_false, if_false, if_true, List.foldl_cons, Bool.false_eq_true, Bool.true_and]
        rw [ih, step_mine core addr vs n (by simpa using h2)]
    · simp [h1, ih]
theorem less_may_sub (core addr first : Int) (l more : List N) (x : Int) (hx : x ∈ may core addr first (l ++ more.filter (notW addr))) : x ∈ may core addr first l := by
  rw [may, mem_dd] at hx ⊢
  unfold vers at hx ⊢
  rw [List.foldl_append] at hx
  exact less_sub core addr more _ x hx
theorem less_may_same (core addr first : Int) (l more : List N) : may core addr first (l ++ more.filter fun n => notW addr n && mine core n) = may core addr first (l ++ more.filter (notW addr)) := by
  unfold may vers
  rw [List.foldl_append, List.foldl_append, less_mine]
/- FetchAgrees -/
theorem chk_none (first : Int) (pre l : List N) (h : ∀ k (hk : k < l.length), badAt first (pre ++ l.take k) l[k] = false) : chk first pre l = -1 := by
  induction l generalizing pre with
  | nil => rfl
  | cons n r ih =>
    have h0 := h 0 (by simp)
    simp only [List.take_zero, List.append_nil, List.getElem_cons_zero] at h0
    rw [chk, if_neg (by simp [h0])]
    refine ih (pre ++ [n]) fun k hk => ?_
    have := h (k + 1) (by simp; omega)
    simpa using this
theorem chk_snoc (first : Int) (pre l : List N) (n : N) (h : chk first pre l = -1) : chk first pre (l ++ [n]) = if badAt first (pre ++ l) n = true then ((pre ++ l).length : Int) else -1 := by
  induction l generalizing pre with
  | nil => simp only [List.nil_append, List.append_nil, chk]
  | cons m r ih =>
    rw [chk] at h
    split at h
    · exfalso; have : (0 : Int) ≤ pre.length := by omega
      omega
    · rename_i hb
      rw [List.cons_append, chk, if_neg hb, ih _ h]
      simp
end Go.Proofs.Ytdbgfnkcphbgfaa
