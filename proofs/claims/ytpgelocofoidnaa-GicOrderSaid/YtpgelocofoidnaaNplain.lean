/- What GicNests leaves, call by call. -/
import Derived.Test.YtpgelocofoidnaaGarr
set_option linter.unusedSimpArgs false
set_option linter.unusedVariables false
set_option linter.unusedSectionVars false
namespace Go.Proofs.Ytpgelocofoidnaa
open Go.RowKit
set_option maxRecDepth 100000

/-- A shared interrupt is turned. -/
def stp (s : GS) (i : Nat) (x : I) : GS := { s with sh := upd s.sh i x }
theorem put_stp (s : GS) (i : Nat) (x : I) : s.put 0 (32 + i) x = stp s i x := by
  unfold GS.put stp
  rw [if_neg (by omega), Nat.add_sub_cancel_left]
theorem get_stp (s : GS) (i : Nat) (x : I) : (stp s i x).get 0 (32 + i) = x := by
  rw [← put_stp]
  exact GS.get_put _ _ _ _
theorem get_stp_sh (s : GS) (i j : Nat) (x : I) : (stp s i x).get 0 (32 + j) = if j = i then x else s.sh j := by
  unfold GS.get stp
  rw [if_neg (by omega), Nat.add_sub_cancel_left]
  rfl
theorem get_stp_own (s : GS) (i j : Nat) (x : I) (h : j < 32) : (stp s i x).get 0 j = s.own 0 j := by
  unfold GS.get stp
  rw [if_pos h]
theorem stp_stp (s : GS) (i : Nat) (x y : I) : stp (stp s i x) i y = stp s i y := by
  have e : upd (upd s.sh i x) i y = upd s.sh i y := by
    funext j
    unfold upd
    by_cases h : j = i
    · simp [h]
    · simp [h]
  unfold stp
  rw [e]
theorem ok32 {s : GS} (hc : s.c = 1) {i : Nat} (hi : i < 32) : okI s 0 (32 + (i : Int)) = true := by
  have := okI_of (s := s) (c := 0) (id := 32 + i) (by omega) (by omega)
  simpa using this
theorem setF_stp {s : GS} (hc : s.c = 1) {i : Nat} (hi : i < 32) (x : I) (f : I → I) : (stp s i x).setF 0 (32 + (i : Int)) f = stp s i (f x) := by
  have := GS.setF_nat (stp s i x) (c := 0) (id := 32 + i) f (by show 0 < s.c; omega) (by omega)
  rw [get_stp, put_stp, stp_stp] at this
  rw [← this]
  congr 1
theorem stp_self (s : GS) (i : Nat) : stp s i (s.sh i) = s := by unfold stp; rw [upd_id]
structure Nst (s : GS) (L : List Mo) (i : Nat) : Prop where
  c : s.c = 1
  lim : s.lim 0 = 255
  at_ : s.at_ 0 = L
  own : ∀ j, j < 32 → (s.own 0 j).en = false
  sh0 : ∀ j, i ≤ j → s.sh j = i160
  sh1 : ∀ j, j < i → ((s.sh j).en && (s.sh j).pn && !(s.sh j).ac) = false
  ids : ∀ m, m ∈ L → m.2 < 32 + (i : Int) ∧ 32 ≤ m.2
  dif : L.Pairwise fun a b => a.2 ≠ b.2
theorem Nst.first : Nst (new 1) [] 0 :=
  ⟨rfl, rfl, rfl, fun _ _ => rfl, fun _ _ => rfl, fun _ h => absurd h (by omega), fun _ h => (by cases h), List.Pairwise.nil⟩
section
variable {s : GS} {L : List Mo} {i : Nat} (h : Nst s L i) (hi : i < 32)
include h hi
theorem Nst.set1 {r : Int} (h0 : 0 ≤ r) (h1 : r ≤ 255) : s.rank 0 (32 + (i : Int)) r = stp s i ⟨false, false, false, false, r, 0⟩ ∧ s.rankC 0 (32 + (i : Int)) r = 0 := by
  have hd : (decide (0 ≤ r) && decide (r ≤ 255)) = true := by simp [h0, h1]
  refine ⟨?_, ?_⟩
  · unfold GS.rank
    rw [if_pos hd]
    conv => lhs; rw [← stp_self s i]
    rw [setF_stp h.c hi, h.sh0 i (Nat.le_refl _)]
    rfl
  · unfold GS.rankC
    rw [hd, ok32 h.c hi]
    rfl
theorem Nst.set2 (r : Int) : (stp s i ⟨false, false, false, false, r, 0⟩).enable 0 (32 + (i : Int)) true = stp s i ⟨true, false, false, false, r, 0⟩ ∧ (stp s i ⟨false, false, false, false, r, 0⟩).enableC 0 (32 + (i : Int)) true = 0 := by
  refine ⟨setF_stp h.c hi _ _, ?_⟩
  unfold GS.enableC
  rw [ok32 (s := stp s i _) h.c hi]
  rfl
theorem Nst.set3 (r : Int) : (stp s i ⟨true, false, false, false, r, 0⟩).pend 0 (32 + (i : Int)) true = stp s i ⟨true, true, false, false, r, 0⟩ ∧ (stp s i ⟨true, false, false, false, r, 0⟩).pendC 0 (32 + (i : Int)) true = 0 := by
  refine ⟨setF_stp h.c hi _ _, ?_⟩
  unfold GS.pendC
  rw [ok32 (s := stp s i _) h.c hi]
  rfl
theorem Nst.set4 (r : Int) : (stp s i ⟨true, true, false, false, r, 0⟩).pend 0 (32 + (i : Int)) false = stp s i ⟨true, false, false, false, r, 0⟩ ∧ (stp s i ⟨true, true, false, false, r, 0⟩).pendC 0 (32 + (i : Int)) false = 0 := by
  refine ⟨setF_stp h.c hi _ _, ?_⟩
  unfold GS.pendC
  rw [ok32 (s := stp s i _) h.c hi]
  rfl
theorem Nst.cand (x : I) {k : Nat} (hk : k < 64) (hq : candB (stp s i x) 0 k = true) : k = 32 + i := by
  unfold candB at hq
  by_cases h1 : k < 32
  · rw [get_stp_own _ _ _ _ h1, h.own k h1] at hq
    cases hq
  · obtain ⟨j, rfl⟩ : ∃ j, k = 32 + j := ⟨k - 32, by omega⟩
    rw [get_stp_sh] at hq
    by_cases e : j = i
    · rw [e]
    · rw [if_neg e] at hq
      rcases Nat.lt_or_ge j i with hl | hg
      · have := h.sh1 j hl
        rw [this] at hq
        cases hq
      · rw [h.sh0 j hg] at hq
        cases hq
theorem Nst.yes {r : Int} (h1 : r < 255) (h2 : r < runl L) : (stp s i ⟨true, true, false, false, r, 0⟩).best 0 = (((32 + i : Nat) : Int), true) := by
  have hg := get_stp s i ⟨true, true, false, false, r, 0⟩
  refine best_is (s := stp s i ⟨true, true, false, false, r, 0⟩) (c := 0) (id := 32 + i) (by show 0 < s.c; rw [h.c]; omega) (by omega) ?_ (fun k hk hq => ?_) ?_ ?_
  · unfold candB
    rw [hg]
    simp [I.pn]
  · obtain rfl := h.cand hi _ hk hq
    exact .inr ⟨rfl, Nat.le_refl _⟩
  · rw [hg]
    show r < s.lim 0
    rw [h.lim]
    exact h1
  · rw [hg]
    show r < runl (s.at_ 0)
    rw [h.at_]
    exact h2
theorem Nst.no {r : Int} (h2 : runl L ≤ r) : (stp s i ⟨true, true, false, false, r, 0⟩).best 0 = (0, false) := by
  have hg := get_stp s i ⟨true, true, false, false, r, 0⟩
  refine best_not (s := stp s i ⟨true, true, false, false, r, 0⟩) (c := 0) (by show 0 < s.c; rw [h.c]; omega) (fun k hk hq => ?_)
  obtain rfl := h.cand hi _ hk hq
  rw [hg]
  refine .inr ?_
  show runl (s.at_ 0) ≤ r
  rw [h.at_]
  exact h2
theorem Nst.ack_yes {r : Int} (h1 : r < 255) (h2 : r < runl L) : (stp s i ⟨true, true, false, false, r, 0⟩).ackV 0 = 32 + (i : Int) ∧ Nst ((stp s i ⟨true, true, false, false, r, 0⟩).ack 0) (L ++ [(r, 32 + (i : Int))]) (i + 1) ∧ runl (L ++ [(r, 32 + (i : Int))]) = r := by
  have ha := Ytpgelocofoidnaa.ack_yes (s := stp s i ⟨true, true, false, false, r, 0⟩) (c := 0) (id := 32 + i) (h.yes hi h1 h2)
  have e0 : ((0 : Nat) : Int) = 0 := rfl
  have e1 : ((32 + i : Nat) : Int) = 32 + (i : Int) := by omega
  rw [e0, e1] at ha
  have hs : (stp s i ⟨true, true, false, false, r, 0⟩).take 0 (32 + i) = { stp s i ⟨true, false, false, true, r, 0⟩ with at_ := upd s.at_ 0 (L ++ [(r, 32 + (i : Int))]) } := by
    unfold GS.take
    rw [put_stp, get_stp, stp_stp, e1, ← h.at_]
    rfl
  refine ⟨ha.2, ?_, by rw [runl_append]; show min (runl L) r = r; omega⟩
  rw [ha.1, hs]
  refine ⟨h.c, h.lim, upd_same s.at_ 0 (L ++ [(r, 32 + (i : Int))]), h.own, fun j hj => ?_, fun j hj => ?_, fun m hm => ?_, ?_⟩
  · show upd s.sh i _ j = i160
    rw [upd_other _ _ (by omega)]
    exact h.sh0 j (by omega)
  · show ((upd s.sh i ⟨true, false, false, true, r, 0⟩ j).en && (upd s.sh i ⟨true, false, false, true, r, 0⟩ j).pn && !(upd s.sh i ⟨true, false, false, true, r, 0⟩ j).ac) = false
    by_cases e : j = i
    · subst e; rw [upd_same]; rfl
    · rw [upd_other _ _ e]
      exact h.sh1 j (by omega)
  · rcases List.mem_append.1 hm with hm | hm
    · have := h.ids m hm
      omega
    · obtain rfl := List.mem_singleton.1 hm
      exact ⟨by show 32 + (i : Int) < 32 + ((i + 1 : Nat) : Int); omega, by show (32 : Int) ≤ 32 + (i : Int); omega⟩
  · refine List.pairwise_append.2 ⟨h.dif, List.pairwise_singleton _ _, fun a ha b hb => ?_⟩
    obtain rfl := List.mem_singleton.1 hb
    have := h.ids a ha
    show a.2 ≠ 32 + (i : Int)
    omega
theorem Nst.ack_no {r : Int} (h2 : runl L ≤ r) : (stp s i ⟨true, true, false, false, r, 0⟩).ackV 0 = 1023 ∧ (stp s i ⟨true, true, false, false, r, 0⟩).ack 0 = stp s i ⟨true, true, false, false, r, 0⟩ :=
  ⟨(Ytpgelocofoidnaa.ack_no (by rw [h.no hi h2])).2, (Ytpgelocofoidnaa.ack_no (by rw [h.no hi h2])).1⟩
theorem Nst.next (r : Int) : Nst (stp s i ⟨true, false, false, false, r, 0⟩) L (i + 1) := by
  refine ⟨h.c, h.lim, h.at_, h.own, fun j hj => ?_, fun j hj => ?_, fun m hm => ?_, h.dif⟩
  · show upd s.sh i _ j = i160
    rw [upd_other _ _ (by omega)]
    exact h.sh0 j (by omega)
  · show ((upd s.sh i ⟨true, false, false, false, r, 0⟩ j).en && (upd s.sh i ⟨true, false, false, false, r, 0⟩ j).pn && !(upd s.sh i ⟨true, false, false, false, r, 0⟩ j).ac) = false
    by_cases e : j = i
    · subst e; rw [upd_same]; rfl
    · rw [upd_other _ _ e]
      exact h.sh1 j (by omega)
  · have := h.ids m hm
    omega
end
theorem Nst.run {s : GS} {L : List Mo} {i : Nat} (h : Nst s L i) : s.run 0 = runl L := by
  have := run_nat s (c := 0) (by rw [h.c]; omega)
  rw [h.at_] at this
  exact this
theorem Nst.le {s : GS} {L : List Mo} {i m : Nat} (h : Nst s L i) (hm : L.length ≤ m) : AtLe s m := fun j hj => by
  rw [h.c] at hj
  obtain rfl : j = 0 := by omega
  rw [h.at_]
  exact hm
/-! ### Back again -/
structure Nd (s : GS) (L : List Mo) : Prop where
  c : s.c = 1
  at_ : s.at_ 0 = L
  ids : ∀ m, m ∈ L → m.2 < 64 ∧ 32 ≤ m.2
  dif : L.Pairwise fun a b => a.2 ≠ b.2
theorem Nst.nd {s : GS} {L : List Mo} {i : Nat} (h : Nst s L i) (hi : i ≤ 32) : Nd s L := ⟨h.c, h.at_, fun m hm => by have := h.ids m hm; omega, h.dif⟩
theorem Nd.le {s : GS} {L : List Mo} {m : Nat} (h : Nd s L) (hm : L.length ≤ m) : AtLe s m := fun j hj => by
  rw [h.c] at hj
  obtain rfl : j = 0 := by omega
  rw [h.at_]
  exact hm
theorem Nd.ok {s : GS} {L : List Mo} (h : Nd s L) {z : Int} (h1 : 32 ≤ z) (h2 : z < 64) : okI s 0 z = true := by
  have := okI_of (s := s) (c := 0) (id := z.toNat) (by rw [h.c]; omega) (by omega)
  rwa [show ((z.toNat : Nat) : Int) = z by omega] at this
theorem hasI_none {l : List Mo} {z : Int} (h : ∀ m, m ∈ l → m.2 ≠ z) : hasI l z = false := by
  unfold hasI
  rw [List.any_eq_false]
  intro m hm
  simpa using h m hm
theorem dropI_last {l : List Mo} {m : Mo} (h : ∀ x, x ∈ l → x.2 ≠ m.2) : hasI (l ++ [m]) m.2 = true ∧ dropI (l ++ [m]) m.2 = l := by
  refine ⟨by simp [hasI], ?_⟩
  unfold dropI
  rw [List.eraseP_append_right _ (fun x hx => by simpa using h x hx)]
  simp
theorem Nd.step {s : GS} {L : List Mo} {m : Mo} (h : Nd s (L ++ [m])) : Nd (s.eoi 0 m.2) L ∧ s.eoiB 0 m.2 = true ∧ okI s 0 m.2 = true ∧ (s.eoi 0 m.2).eoi 0 m.2 = s.eoi 0 m.2 ∧ (s.eoi 0 m.2).eoiB 0 m.2 = false ∧ okI (s.eoi 0 m.2) 0 m.2 = true := by
  have hm := h.ids m (by simp)
  have hd := List.pairwise_append.1 h.dif
  have hne : ∀ x, x ∈ L → x.2 ≠ m.2 := fun x hx => hd.2.2 x hx m (by simp)
  have ok := h.ok hm.2 hm.1
  have e0 : (0 : Int).toNat = 0 := rfl
  have em : ((m.2.toNat : Nat) : Int) = m.2 := by omega
  have dl := dropI_last hne
  have es : s.eoi 0 m.2 = { s.put 0 m.2.toNat { s.get 0 m.2.toNat with ac := false } with at_ := upd s.at_ 0 L } := by
    unfold GS.eoi
    rw [if_pos ok, e0]
    unfold GS.eoiN
    rw [em, h.at_, dl.1, if_pos rfl, dl.2]
  have nd : Nd (s.eoi 0 m.2) L := by
    refine ⟨(GS.eoi_c _ _ _).trans h.c, ?_, fun x hx => h.ids x (by simp [hx]), hd.1⟩
    rw [es]
    exact upd_same s.at_ 0 L
  have ok2 := nd.ok hm.2 hm.1
  have hn : (s.eoi 0 m.2).eoiB 0 m.2 = false := by
    unfold GS.eoiB
    rw [ok2, e0, nd.at_, hasI_none hne]
    rfl
  refine ⟨nd, ?_, ok, ?_, hn, ok2⟩
  · unfold GS.eoiB
    rw [ok, e0, h.at_, dl.1]
    rfl
  · generalize s.eoi 0 m.2 = t at *
    unfold GS.eoi
    rw [if_pos ok2, e0]
    unfold GS.eoiN
    rw [em, nd.at_, hasI_none hne]
    rfl
theorem Nd.run {s : GS} (h : Nd s []) : s.run 0 = 256 := by
  have := run_nat s (c := 0) (by rw [h.c]; omega)
  rw [h.at_] at this
  exact this
end Go.Proofs.Ytpgelocofoidnaa
