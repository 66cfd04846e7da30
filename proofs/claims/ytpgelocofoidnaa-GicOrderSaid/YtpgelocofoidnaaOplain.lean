/- What GicOrder leaves, call by call. -/
import Derived.Test.YtpgelocofoidnaaNplain
set_option linter.unusedSimpArgs false
set_option linter.unusedVariables false
set_option linter.unusedSectionVars false
namespace Go.Proofs.Ytpgelocofoidnaa
open Go.RowKit
set_option maxRecDepth 100000

theorem setF_st {s : GS} (hc : s.c = 1) {i : Nat} (hi : i < 32) (f : I → I) : s.setF 0 (32 + (i : Int)) f = stp s i (f (s.sh i)) := by
  conv => lhs; rw [← stp_self s i]
  exact setF_stp hc hi _ _
/-- How many wait. -/
def cnt (W : Nat → Bool) : Nat → Nat
  | 0 => 0
  | n + 1 => cnt W n + (if W n = true then 1 else 0)
theorem cnt_upd_ge {W : Nat → Bool} {j : Nat} {b : Bool} : ∀ {n : Nat}, n ≤ j → cnt (upd W j b) n = cnt W n
  | 0, _ => rfl
  | n + 1, h => by
    unfold cnt
    rw [cnt_upd_ge (n := n) (by omega), upd_other _ _ (by omega)]
theorem cnt_set {W : Nat → Bool} {j : Nat} (hj : W j = false) : ∀ {n : Nat}, j < n → cnt (upd W j true) n = cnt W n + 1
  | 0, h => absurd h (by omega)
  | n + 1, h => by
    unfold cnt
    by_cases e : n = j
    · subst e
      rw [cnt_upd_ge (Nat.le_refl _), upd_same, hj]
      rfl
    · rw [cnt_set hj (by omega), upd_other _ _ e]
      omega
theorem cnt_drop {W : Nat → Bool} {j : Nat} (hj : W j = true) {n : Nat} (h : j < n) : cnt (upd W j false) n + 1 = cnt W n := by
  have e : upd (upd W j false) j true = W := by
    funext i
    unfold upd
    by_cases e : i = j
    · subst e; simp [hj]
    · simp [e]
  have := cnt_set (W := upd W j false) (j := j) (upd_same _ _ _) h
  rw [e] at this
  omega
theorem cnt_zero {W : Nat → Bool} : ∀ {n : Nat}, cnt W n = 0 → ∀ j, j < n → W j = false
  | 0, _, j, h => absurd h (by omega)
  | n + 1, h, j, hj => by
    unfold cnt at h
    by_cases e : j = n
    · subst e
      cases hw : W j
      · rfl
      · rw [hw] at h
        simp at h
    · exact cnt_zero (n := n) (by omega) j (by omega)
theorem cnt_pos {W : Nat → Bool} {n : Nat} (h : 0 < cnt W n) : ∃ j, j < n ∧ W j = true := by
  refine Classical.byContradiction fun hn => ?_
  have : ∀ m, m ≤ n → cnt W m = 0 := by
    intro m
    induction m with
    | zero => intro _; rfl
    | succ m ih =>
      intro hm
      unfold cnt
      rw [ih (by omega)]
      cases hw : W m
      · simp
      · exact absurd ⟨m, by omega, hw⟩ hn
  have := this n (Nat.le_refl _)
  omega
theorem cnt_le (W : Nat → Bool) : ∀ n, cnt W n ≤ n
  | 0 => Nat.le_refl _
  | n + 1 => by
    unfold cnt
    have := cnt_le W n
    split <;> omega
structure Ost (s : GS) (W : Nat → Bool) : Prop where
  c : s.c = 1
  lim : s.lim 0 = 255
  at_ : s.at_ 0 = []
  own : ∀ j, j < 32 → (s.own 0 j).en = false
  ac : ∀ j, (s.sh j).ac = false
  hi : ∀ j, (s.sh j).hi = false
  dst : ∀ j, (s.sh j).dst = 0
  yes : ∀ j, j < 32 → W j = true → (s.sh j).en = true ∧ (s.sh j).la = true ∧ 0 ≤ (s.sh j).rk ∧ (s.sh j).rk ≤ 7
  no : ∀ j, j < 32 → W j = false → (s.sh j).la = false
theorem Ost.first : Ost (new 1) fun _ => false :=
  ⟨rfl, rfl, rfl, fun _ _ => rfl, fun _ => rfl, fun _ => rfl, fun _ => rfl, fun _ _ h => (by cases h), fun _ _ _ => rfl⟩
theorem Ost.le {s : GS} {W : Nat → Bool} (h : Ost s W) : AtLe s 1 := fun j hj => by
  rw [h.c] at hj
  obtain rfl : j = 0 := by omega
  rw [h.at_]
  simp
section
variable {s : GS} {W : Nat → Bool} (h : Ost s W) {i : Nat} (hi : i < 32)
include h hi
theorem Ost.set1 {r : Int} (h0 : 0 ≤ r) (h1 : r ≤ 7) : s.rank 0 (32 + (i : Int)) r = stp s i { s.sh i with rk := r } ∧ s.rankC 0 (32 + (i : Int)) r = 0 := by
  have hd : (decide (0 ≤ r) && decide (r ≤ 255)) = true := by simp [h0]; omega
  refine ⟨?_, ?_⟩
  · unfold GS.rank
    rw [if_pos hd, setF_st h.c hi]
  · unfold GS.rankC
    rw [hd, ok32 h.c hi]
    rfl
theorem Ost.set2 (x : I) : (stp s i x).enable 0 (32 + (i : Int)) true = stp s i { x with en := true } ∧ (stp s i x).enableC 0 (32 + (i : Int)) true = 0 := by
  refine ⟨setF_stp h.c hi _ _, ?_⟩
  unfold GS.enableC
  rw [ok32 (s := stp s i _) h.c hi]
  rfl
theorem Ost.set3 (x : I) : (stp s i x).pend 0 (32 + (i : Int)) true = stp s i { x with la := true } ∧ (stp s i x).pendC 0 (32 + (i : Int)) true = 0 := by
  refine ⟨setF_stp h.c hi _ _, ?_⟩
  unfold GS.pendC
  rw [ok32 (s := stp s i _) h.c hi]
  rfl
theorem Ost.add {r : Int} (h0 : 0 ≤ r) (h1 : r ≤ 7) : Ost (stp s i { s.sh i with en := true, la := true, rk := r }) (upd W i true) := by
  have e : ∀ j, (stp s i { s.sh i with en := true, la := true, rk := r }).sh j = if j = i then { s.sh i with en := true, la := true, rk := r } else s.sh j := fun j => rfl
  refine ⟨h.c, h.lim, h.at_, h.own, fun j => ?_, fun j => ?_, fun j => ?_, fun j hj hw => ?_, fun j hj hw => ?_⟩
  · rw [e]; split
    · exact h.ac i
    · exact h.ac j
  · rw [e]; split
    · exact h.hi i
    · exact h.hi j
  · rw [e]; split
    · exact h.dst i
    · exact h.dst j
  · rw [e]
    by_cases q : j = i
    · rw [if_pos q]
      exact ⟨rfl, rfl, h0, h1⟩
    · rw [if_neg q]
      rw [upd_other _ _ q] at hw
      exact h.yes j hj hw
  · by_cases q : j = i
    · subst q
      rw [upd_same] at hw
      cases hw
    · rw [e, if_neg q]
      rw [upd_other _ _ q] at hw
      exact h.no j hj hw
end
theorem get_sh (s : GS) (j : Nat) : s.get 0 (32 + j) = s.sh j := by
  unfold GS.get
  rw [if_neg (by omega), Nat.add_sub_cancel_left]
theorem Ost.cand {s : GS} {W : Nat → Bool} (h : Ost s W) {k : Nat} (hk : k < 64) : candB s 0 k = true ↔ ∃ j, j < 32 ∧ k = 32 + j ∧ W j = true := by
  constructor
  · intro hq
    unfold candB at hq
    by_cases h1 : k < 32
    · have e : s.get 0 k = s.own 0 k := by unfold GS.get; rw [if_pos h1]
      rw [e, h.own k h1] at hq
      cases hq
    · obtain ⟨j, rfl⟩ : ∃ j, k = 32 + j := ⟨k - 32, by omega⟩
      refine ⟨j, by omega, rfl, ?_⟩
      cases hw : W j
      · rw [get_sh] at hq
        have h2 := h.no j (by omega) hw
        have h3 := h.hi j
        unfold I.pn at hq
        rw [h2, h3] at hq
        simp at hq
      · rfl
  · rintro ⟨j, hj, rfl, hw⟩
    unfold candB I.pn
    have h2 := h.yes j hj hw
    rw [get_sh, h2.1, h2.2.1, h.ac j, h.dst j]
    simp
/-- The most urgent of some. -/
theorem least_ex (W : Nat → Bool) (f : Nat → Int) : ∀ n, (∃ j, j < n ∧ W j = true) → ∃ j, j < n ∧ W j = true ∧ ∀ k, k < n → W k = true → f j < f k ∨ (f j = f k ∧ j ≤ k)
  | 0, ⟨j, h, _⟩ => absurd h (by omega)
  | n + 1, ⟨j0, h0, hw0⟩ => by
    by_cases hex : ∃ j, j < n ∧ W j = true
    · obtain ⟨j, h1, h2, h3⟩ := least_ex W f n hex
      cases hw : W n
      · refine ⟨j, by omega, h2, fun k hk hk2 => ?_⟩
        rcases Nat.lt_or_ge k n with h | h
        · exact h3 k h hk2
        · obtain rfl : k = n := by omega
          rw [hw] at hk2
          cases hk2
      · by_cases hl : f n < f j
        · refine ⟨n, by omega, hw, fun k hk hk2 => ?_⟩
          rcases Nat.lt_or_ge k n with h | h
          · have := h3 k h hk2
            omega
          · obtain rfl : k = n := by omega
            exact .inr ⟨rfl, Nat.le_refl _⟩
        · refine ⟨j, by omega, h2, fun k hk hk2 => ?_⟩
          rcases Nat.lt_or_ge k n with h | h
          · exact h3 k h hk2
          · obtain rfl : k = n := by omega
            omega
    · have : j0 = n := by
        refine Classical.byContradiction fun hne => hex ⟨j0, by omega, hw0⟩
      subst this
      refine ⟨j0, by omega, hw0, fun k hk hk2 => ?_⟩
      rcases Nat.lt_or_ge k j0 with h | h
      · exact absurd ⟨k, h, hk2⟩ hex
      · obtain rfl : k = j0 := by omega
        exact .inr ⟨rfl, Nat.le_refl _⟩
theorem Ost.ack {s : GS} {W : Nat → Bool} (h : Ost s W) (hp : 0 < cnt W 32) : ∃ j, j < 32 ∧ W j = true ∧ (∀ k, k < 32 → W k = true → (s.sh j).rk < (s.sh k).rk ∨ ((s.sh j).rk = (s.sh k).rk ∧ j ≤ k)) ∧
    s.ackV 0 = 32 + (j : Int) ∧ (s.ack 0).c = 1 ∧ (s.ack 0).rate 0 (32 + (j : Int)) = (s.sh j).rk ∧ ((s.ack 0).eoiB 0 (32 + (j : Int)) = true) ∧ okI (s.ack 0) 0 (32 + (j : Int)) = true ∧ AtLe (s.ack 0) 1 ∧
    Ost ((s.ack 0).eoi 0 (32 + (j : Int))) (upd W j false) ∧ ((s.ack 0).eoi 0 (32 + (j : Int))).sh = upd s.sh j { s.sh j with la := false, ac := false } := by
  obtain ⟨j, hj, hw, hm⟩ := least_ex W (fun j => (s.sh j).rk) 32 (cnt_pos hp)
  have hc0 : 0 < s.c := by rw [h.c]; omega
  have e1 : ((32 + j : Nat) : Int) = 32 + (j : Int) := by omega
  have e0 : ((0 : Nat) : Int) = 0 := rfl
  have hy := h.yes j hj hw
  have hb : s.best ((0 : Nat) : Int) = (((32 + j : Nat) : Int), true) := by
    refine best_is hc0 (by omega) ((h.cand (by omega)).2 ⟨j, hj, rfl, hw⟩) (fun k hk hq => ?_) ?_ ?_
    · obtain ⟨k', hk', rfl, hwk⟩ := (h.cand hk).1 hq
      rw [get_sh, get_sh]
      have := hm k' hk' hwk
      omega
    · rw [get_sh, h.lim]; omega
    · rw [get_sh, h.at_]; show (s.sh j).rk < 256; omega
  have ha := ack_yes hb
  rw [e0, e1] at ha
  have hs : s.take 0 (32 + j) = { stp s j { s.sh j with la := false, ac := true } with at_ := upd s.at_ 0 [((s.sh j).rk, 32 + (j : Int))] } := by
    unfold GS.take
    rw [put_stp, get_sh, h.at_, e1]
    rfl
  have hcc : (s.ack 0).c = 1 := by rw [ha.1, hs]; exact h.c
  have hok : okI (s.ack 0) 0 (32 + (j : Int)) = true := ok32 hcc hj
  have hat : (s.ack 0).at_ 0 = [((s.sh j).rk, 32 + (j : Int))] := by rw [ha.1, hs]; exact upd_same s.at_ 0 _
  have hget : (s.ack 0).get 0 (32 + j) = { s.sh j with la := false, ac := true } := by
    rw [ha.1, hs, get_sh]
    exact upd_same s.sh j _
  have hz : (0 : Int).toNat = 0 := rfl
  have hn : (32 + (j : Int)).toNat = 32 + j := by omega
  have hh : hasI [((s.sh j).rk, 32 + (j : Int))] (32 + (j : Int)) = true := by simp [hasI]
  have hd : dropI [((s.sh j).rk, 32 + (j : Int))] (32 + (j : Int)) = [] := by simp [dropI]
  have he : (s.ack 0).eoi 0 (32 + (j : Int)) = { stp s j { s.sh j with la := false, ac := false } with at_ := upd (upd s.at_ 0 [((s.sh j).rk, 32 + (j : Int))]) 0 [] } := by
    unfold GS.eoi
    rw [if_pos hok, hz, hn]
    unfold GS.eoiN
    rw [hat, e1, hh, if_pos rfl, hd, hget, put_stp, ha.1, hs]
    have hq := stp_stp s j { s.sh j with la := false, ac := true } { s.sh j with la := false, ac := false }
    show ({ stp { stp s j { s.sh j with la := false, ac := true } with at_ := upd s.at_ 0 [((s.sh j).rk, 32 + (j : Int))] } j _ with at_ := upd (upd s.at_ 0 [((s.sh j).rk, 32 + (j : Int))]) 0 [] } : GS) = _
    rw [← hq]
    rfl
  have hsh : ((s.ack 0).eoi 0 (32 + (j : Int))).sh = upd s.sh j { s.sh j with la := false, ac := false } := by rw [he]; rfl
  refine ⟨j, hj, hw, hm, ha.2, hcc, ?_, ?_, hok, fun i hi => ?_, ?_, hsh⟩
  · unfold GS.rate
    rw [if_pos hok, hz, hn, hget]
  · unfold GS.eoiB
    rw [hok, hz, hat, hh]
    rfl
  · rw [hcc] at hi
    obtain rfl : i = 0 := by omega
    rw [hat]
    simp
  · have ec : ((s.ack 0).eoi 0 (32 + (j : Int))).own = s.own ∧ ((s.ack 0).eoi 0 (32 + (j : Int))).lim = s.lim ∧ ((s.ack 0).eoi 0 (32 + (j : Int))).c = s.c ∧ ((s.ack 0).eoi 0 (32 + (j : Int))).at_ 0 = [] := by
      rw [he]
      exact ⟨rfl, rfl, rfl, upd_same (upd s.at_ 0 [((s.sh j).rk, 32 + (j : Int))]) 0 []⟩
    have e : ∀ k, ((s.ack 0).eoi 0 (32 + (j : Int))).sh k = if k = j then { s.sh j with la := false, ac := false } else s.sh k := fun k => by rw [hsh]; rfl
    refine ⟨ec.2.2.1.trans h.c, by rw [ec.2.1]; exact h.lim, ec.2.2.2, by rw [ec.1]; exact h.own, fun k => ?_, fun k => ?_, fun k => ?_, fun k hk hwk => ?_, fun k hk hwk => ?_⟩
    · rw [e]; split
      · rfl
      · exact h.ac k
    · rw [e]; split
      · exact h.hi j
      · exact h.hi k
    · rw [e]; split
      · exact h.dst j
      · exact h.dst k
    · by_cases q : k = j
      · subst q; rw [upd_same] at hwk; cases hwk
      · rw [upd_other _ _ q] at hwk
        rw [e, if_neg q]
        exact h.yes k hk hwk
    · rw [e]
      by_cases q : k = j
      · rw [if_pos q]
      · rw [if_neg q]
        rw [upd_other _ _ q] at hwk
        exact h.no k hk hwk
theorem Ost.last {s : GS} {W : Nat → Bool} (h : Ost s W) (hp : cnt W 32 = 0) : s.ackV 0 = 1023 := by
  have hb := best_none (s := s) (c := 0) (by rw [h.c]; omega) fun id hid => by
    cases hq : candB s 0 id
    · rfl
    · obtain ⟨j, hj, rfl, hw⟩ := (h.cand hid).1 hq
      rw [cnt_zero hp j hj] at hw
      cases hw
  exact (ack_no (c := 0) (by rw [show s.best 0 = _ from hb])).2
end Go.Proofs.Ytpgelocofoidnaa
