/- GicLines, walked. -/
import Derived.Test.YtpgelocofoidnaaGpl
set_option linter.unusedSimpArgs false
namespace Go.Proofs.Ytpgelocofoidnaa
open Go.RowKit
set_option linter.unusedVariables false
set_option linter.unusedSectionVars false
set_option maxRecDepth 100000

/-- A fresh controller of which one interrupt of core 0 has been turned, and at which core 0 works at l. -/
def nst (c n : Nat) (x : I) (l : List Mo) : GS := { (new c).put 0 n x with at_ := upd (fun _ => []) 0 l }
theorem nst_c (c n : Nat) (x : I) (l : List Mo) : (nst c n x l).c = c := GS.put_c _ _ _ _
theorem nst_get (c n : Nat) (x : I) (l : List Mo) : (nst c n x l).get 0 n = x := GS.get_put (new c) 0 n x
theorem nst_ne (c n : Nat) (x : I) (l : List Mo) {k : Nat} (h : k ≠ n) : (nst c n x l).get 0 k = i160 := by
  have e : (nst c n x l).get 0 k = ((new c).put 0 n x).get 0 k := rfl
  rw [e, GS.get_put_ne _ _ _ _ _ _ h]
  unfold GS.get
  split <;> rfl
theorem nst_put (c n : Nat) (x y : I) (l : List Mo) : (nst c n x l).put 0 n y = nst c n y l := by
  unfold nst
  rw [GS.put_at2, GS.put_put]
theorem nst_new (c n : Nat) (y : I) : (new c).put 0 n y = nst c n y [] := by
  have e : upd (fun _ => ([] : List Mo)) 0 [] = fun _ => [] := by
    funext i
    unfold upd
    split <;> rfl
  unfold nst
  rw [e]
  unfold GS.put
  split <;> rfl
theorem nst_lim (c n : Nat) (x : I) (l : List Mo) : (nst c n x l).lim 0 = 255 := by
  have e : (nst c n x l).lim 0 = ((new c).put 0 n x).lim 0 := rfl
  rw [e, GS.put_lim]
  rfl
theorem nst_at (c n : Nat) (x : I) (l : List Mo) : (nst c n x l).at_ 0 = l := upd_same (fun _ => ([] : List Mo)) 0 l
theorem nst_with (c n : Nat) (x : I) (l l2 : List Mo) (f : Nat → List Mo) (hf : f = upd (fun _ => []) 0 l) : ({ nst c n x l with at_ := upd f 0 l2 } : GS) = nst c n x l2 := by
  have e : upd (upd (fun _ => ([] : List Mo)) 0 l) 0 l2 = upd (fun _ => []) 0 l2 := by
    funext i
    unfold upd
    split <;> rfl
  subst hf
  unfold nst
  rw [e]
theorem GS.put_get (s : GS) (c id : Nat) : s.put c id (s.get c id) = s := by
  unfold GS.put GS.get
  split
  · rw [upd_id, upd_id]
  · rw [upd_id]
theorem nst_setF {c n : Nat} (x : I) (l : List Mo) (f : I → I) (hc : 0 < c) (hn : n < 64) : (nst c n x l).setF 0 (n : Int) f = nst c n (f x) l := by
  have := GS.setF_nat (nst c n x l) (c := 0) (id := n) f (by rw [nst_c]; exact hc) hn
  rw [show ((0 : Nat) : Int) = 0 from rfl] at this
  rw [this, nst_put, nst_get]
theorem nst_ok {c n : Nat} (x : I) (l : List Mo) (hc : 0 < c) (hn : n < 64) : okI (nst c n x l) 0 (n : Int) = true := by
  have := okI_of (s := nst c n x l) (c := 0) (id := n) (by rw [nst_c]; exact hc) hn
  simpa using this
theorem nst_cand (c n : Nat) (x : I) (l : List Mo) (k : Nat) : candB (nst c n x l) 0 k = (decide (k = n) && (x.en && x.pn && !x.ac && (decide (n < 32) || x.dst == 0))) := by
  unfold candB
  by_cases h : k = n
  · subst h
    rw [nst_get]
    simp
  · rw [nst_ne c n x l h]
    simp [h, i160]
theorem nst_best {c n : Nat} (x : I) (l : List Mo) (hc : 0 < c) (hn : n < 64) (h1 : (x.en && x.pn && !x.ac && x.dst == 0) = true) (h2 : x.rk < 255) (h3 : x.rk < runl l) : (nst c n x l).best 0 = ((n : Int), true) := by
  have := best_is (s := nst c n x l) (c := 0) (id := n) (by rw [nst_c]; exact hc) hn (by
    rw [nst_cand]
    simp only [Bool.and_eq_true] at h1
    simp [h1.1.1.1, h1.1.1.2, h1.1.2, h1.2]) (fun k hk hq => by
    rw [nst_cand] at hq
    have : k = n := by
      have := (Bool.and_eq_true _ _ ▸ hq).1
      simpa using this
    subst this
    exact .inr ⟨rfl, Nat.le_refl _⟩) (by rw [nst_get, nst_lim]; exact h2) (by rw [nst_get, nst_at]; exact h3)
  simpa using this
theorem nst_none {c n : Nat} (x : I) (l : List Mo) (hc : 0 < c) (h1 : (x.en && x.pn && !x.ac) = false) : (nst c n x l).best 0 = (0, false) := by
  have := best_none (s := nst c n x l) (c := 0) (by rw [nst_c]; exact hc) (fun k hk => by
    rw [nst_cand, h1]
    simp)
  simpa using this
theorem nst_take {c n : Nat} (x : I) (l : List Mo) : (nst c n x l).take 0 n = nst c n { x with la := false, ac := true } (l ++ [(x.rk, (n : Int))]) := by
  unfold GS.take
  rw [nst_put, nst_get, nst_at]
  exact nst_with _ _ _ _ _ _ rfl
theorem nst_eoi {c n : Nat} (x : I) (hc : 0 < c) (hn : n < 64) (r : Int) : (nst c n x [(r, (n : Int))]).eoi 0 (n : Int) = nst c n { x with ac := false } [] ∧ (nst c n x [(r, (n : Int))]).eoiB 0 (n : Int) = true := by
  have h1 : hasI [(r, (n : Int))] (n : Int) = true := by simp [hasI]
  have h2 : dropI [(r, (n : Int))] (n : Int) = [] := by simp [dropI]
  have e0 : (0 : Int).toNat = 0 := rfl
  refine ⟨?_, ?_⟩
  · unfold GS.eoi
    rw [if_pos (nst_ok _ _ hc hn), e0, Int.toNat_natCast]
    unfold GS.eoiN
    rw [nst_at, h1, if_pos rfl, h2, nst_put, nst_get]
    exact nst_with _ _ _ _ _ _ rfl
  · unfold GS.eoiB
    rw [nst_ok _ _ hc hn, e0, nst_at, h1]
    rfl
theorem nst_tell {c n : Nat} (x : I) (l : List Mo) (f : I → Bool) (hc : 0 < c) (hn : n < 64) : (nst c n x l).tellB f 0 (n : Int) = f x := by
  unfold GS.tellB
  rw [nst_ok _ _ hc hn, show (0 : Int).toNat = 0 from rfl, Int.toNat_natCast, nst_get]
  rfl
theorem nst_le (c n : Nat) (x : I) (l : List Mo) {m : Nat} (h : l.length ≤ m) : AtLe (nst c n x l) m := fun i hi => by
  show (upd (fun _ => []) 0 l i).length ≤ m
  unfold upd
  split
  · exact h
  · simp
/-- The stations. -/
def iLine : I := ⟨true, false, true, false, 160, 0⟩
def iAct : I := ⟨true, false, true, true, 160, 0⟩
def iLow : I := ⟨true, false, false, false, 160, 0⟩
section
variable {n : Nat} (h1 : 16 ≤ n) (h2 : n < 64)
include h1 h2
theorem l_line : (new 2).line 0 (n : Int) true = nst 2 n ⟨false, false, true, false, 160, 0⟩ [] ∧ (new 2).lineC 0 (n : Int) true = 0 := by
  have hd : decide (16 ≤ (n : Int)) = true := by simp; omega
  have e0 : new 2 = nst 2 n i160 [] := by
    have : (new 2).get 0 n = i160 := by unfold GS.get; split <;> rfl
    rw [← nst_new, ← this]
    exact (GS.put_get _ _ _).symm
  refine ⟨?_, ?_⟩
  · unfold GS.line
    rw [if_pos hd, e0, nst_setF _ _ _ (by omega) h2]
    rfl
  · unfold GS.lineC
    rw [hd, e0, nst_ok _ _ (by omega) h2]
    rfl
theorem l_en : (nst 2 n ⟨false, false, true, false, 160, 0⟩ []).enable 0 (n : Int) true = nst 2 n iLine [] ∧ (nst 2 n ⟨false, false, true, false, 160, 0⟩ []).enableC 0 (n : Int) true = 0 := by
  refine ⟨nst_setF _ _ _ (by omega) h2, ?_⟩
  unfold GS.enableC
  rw [nst_ok _ _ (by omega) h2]
  rfl
theorem l_ack : (nst 2 n iLine []).ack 0 = nst 2 n iAct [(160, (n : Int))] ∧ (nst 2 n iLine []).ackV 0 = (n : Int) := by
  have hb := nst_best (c := 2) iLine [] (by omega) h2 (by decide) (by decide) (by decide)
  have := ack_yes (s := nst 2 n iLine []) (c := 0) (id := n) hb
  rw [show ((0 : Nat) : Int) = 0 from rfl, nst_take] at this
  exact this
theorem l_again : (nst 2 n iAct [(160, (n : Int))]).ack 0 = nst 2 n iAct [(160, (n : Int))] ∧ (nst 2 n iAct [(160, (n : Int))]).ackV 0 = 1023 :=
  ack_no (by rw [nst_none iAct _ (by omega) (by decide)])
theorem l_eoi : (nst 2 n iAct [(160, (n : Int))]).eoi 0 (n : Int) = nst 2 n iLine [] ∧ (nst 2 n iAct [(160, (n : Int))]).eoiB 0 (n : Int) = true ∧ okI (nst 2 n iAct [(160, (n : Int))]) 0 (n : Int) = true :=
  ⟨(nst_eoi iAct (by omega) h2 160).1, (nst_eoi iAct (by omega) h2 160).2, nst_ok _ _ (by omega) h2⟩
theorem l_pend : (nst 2 n iLine []).tellB I.pn 0 (n : Int) = true := nst_tell _ _ _ (by omega) h2
theorem l_low : (nst 2 n iLine []).line 0 (n : Int) false = nst 2 n iLow [] := by
  have hd : decide (16 ≤ (n : Int)) = true := by simp; omega
  unfold GS.line
  rw [if_pos hd, nst_setF _ _ _ (by omega) h2]
  rfl
theorem l_last : (nst 2 n iLow []).ack 0 = nst 2 n iLow [] ∧ (nst 2 n iLow []).ackV 0 = 1023 ∧ (nst 2 n iLow []).tellB I.pn 0 (n : Int) = false ∧ (nst 2 n iLow []).tellB (·.ac) 0 (n : Int) = false :=
  ⟨(ack_no (by rw [nst_none iLow _ (by omega) (by decide)])).1, (ack_no (by rw [nst_none iLow _ (by omega) (by decide)])).2, nst_tell _ _ _ (by omega) h2, nst_tell _ _ _ (by omega) h2⟩
end
set_option maxHeartbeats 4000000 in
theorem gicLines_walk (a0 a1 : Int) (w : World) (w0 : (Lit.int .i64 a0).wf = true) (w1 : (Lit.int .i64 a1).wf = true) :
    Calls Try.prog 3 #[.int .i64 a0, .int .i64 a1] w fun e w' => e = .returned (.bool true) ∧ Below w.heap.size w w' := by
  obtain ⟨p1, p2⟩ := i64_rng w0
  obtain ⟨p3, p4⟩ := i64_rng w1
  have PK := Lib.hid (fun W => pick_ok a0 48 W p1 p2 (by omega) (by omega))
  have PT := Lib.hid (fun W => pick_ok a1 20 W p3 p4 (by omega) (by omega))
  obtain ⟨n, hn1, hn2, hn3⟩ : ∃ n : Nat, pk a0 48 = (n : Int) - 16 ∧ 16 ≤ n ∧ n < 64 := ⟨(pk a0 48).toNat + 16, by have := pk_rng a0 48 (by omega); omega, by omega, by have := pk_rng a0 48 (by omega); omega⟩
  rw [hn1] at PK
  obtain ⟨m, hm1, hm2⟩ : ∃ m : Nat, pk a1 20 = (m : Int) ∧ m < 20 := ⟨(pk a1 20).toNat, by have := pk_rng a1 20 (by omega); omega, by have := pk_rng a1 20 (by omega); omega⟩
  rw [hm1] at PT
  have L1 := Lib.hid (l_line hn2 hn3)
  have L2 := Lib.hid (l_en hn2 hn3)
  have L3 := Lib.hid (l_ack hn2 hn3)
  have L4 := Lib.hid (l_again hn2 hn3)
  have L5 := Lib.hid (l_eoi hn2 hn3)
  have L6 := Lib.hid (l_pend hn2 hn3)
  have L7 := Lib.hid (l_low hn2 hn3)
  have L8 := Lib.hid (l_last hn2 hn3)
  have A0 : Hid (∀ x, AtLe (nst 2 n x []) 1) := Lib.hid fun x => nst_le _ _ _ _ (by simp)
  have A1 : Hid (∀ x, AtLe (nst 2 n x [(160, (n : Int))]) 1) := Lib.hid fun x => nst_le _ _ _ _ (by simp)
  generalize nst 2 n ⟨false, false, true, false, 160, 0⟩ [] = s1 at *
  have n64 : (n : Int) < 64 := by omega
  have m20 := hm2
  clear hn1 hn2 hn3 hm1 hm2 w0 w1 p1 p2 p3 p4
  go_enter Try.func3, Try.ntmps3
  go_wp2_with fail
  refine (known_ok w).mono ?_
  rintro e wa ⟨rfl, f0⟩
  have F0 := Lib.hid f0
  clear f0
  go_wp2_with fail
  refine (new_ok (fun k => k < w.heap.size) 2 (z := 2) wa rfl (by omega) (by omega) fun k hk => Nat.lt_of_lt_of_le hk F0.out.size).mono ?_
  rintro e wb ⟨gb, rfl, g1, f1, -⟩
  have G1 := Lib.hid g1
  have F1 := Lib.hid (F0.out.trans f1)
  clear g1 f1
  go_wp2_with fail
  refine (PK.out _).mono ?_
  rintro e w9 ⟨rfl, rfl⟩
  have en : (16 : Int) + ((n : Int) - 16) = (n : Int) := by omega
  simp only [en]
  go_wp2_with fail
  refine (line_ok _ gb (new 2) 0 (n : Int) true _ G1.out).mono ?_
  rintro e w2 ⟨rfl, g2, f2⟩
  rw [L1.out.1] at g2
  rw [L1.out.2]
  have G2 := Lib.hid g2
  have F2 := Lib.hid (F1.out.nil.trans f2)
  clear g2 f2 G1 F1
  go_wp2_with fail
  refine (enable_ok _ gb _ 0 (n : Int) true _ G2.out).mono ?_
  rintro e w3 ⟨rfl, g3, f3⟩
  rw [L2.out.1] at g3
  rw [L2.out.2]
  have G3 := Lib.hid g3
  have F3 := Lib.hid (F2.out.trans f3)
  clear g3 f3 G2 F2
  go_wp2_with fail
  go_loopw [9] (fun i wr => ∃ k : Nat, k ≤ m ∧ i = .int .i64 (k : Int) ∧ Gk (fun k => k < w.heap.size) wr gb (nst 2 n iLine []) ∧ Fr (Not fun k => k < w.heap.size) w wr) (fun i _ => m - (intOf i).toNat)
  case atStart => exact ⟨0, by omega, rfl, G3.out, F3.out⟩
  case round =>
    obtain ⟨k, hk, rfl, hg, hf⟩ := hrel
    have HG := Lib.hid hg
    have HF := Lib.hid hf
    clear hg hf
    by_cases hlt : k < m
    · have HK := Lib.hid hlt
      have l1 : (k : Int) < (m : Int) := by omega
      clear hk hlt
      go_wp2_with fail
      refine (PT.out _).mono ?_
      rintro e w9 ⟨rfl, rfl⟩
      go_wp2_with fail
      refine (ack_ok _ gb _ 0 _ HG.out 1 (by omega) (A0.out _)).mono ?_
      rintro e w4 ⟨rfl, g4, f4⟩
      rw [L3.out.1] at g4
      rw [L3.out.2]
      have G4 := Lib.hid g4
      have F4 := Lib.hid (HF.out.trans f4)
      clear g4 f4
      go_wp2_with fail
      refine (ack_ok _ gb _ 0 _ G4.out 1 (by omega) (A1.out _)).mono ?_
      rintro e w5 ⟨rfl, g5, f5⟩
      rw [L4.out.1] at g5
      rw [L4.out.2]
      have G5 := Lib.hid g5
      have F5 := Lib.hid (F4.out.trans f5)
      clear g5 f5 G4 F4
      go_wp2_with fail
      refine (eoi_ok _ gb _ 0 (n : Int) _ G5.out 1 (by omega) (A1.out _)).mono ?_
      rintro e w6 ⟨rfl, g6, f6⟩
      rw [L5.out.1] at g6
      rw [L5.out.2.1, L5.out.2.2, show code true = 0 from rfl]
      have G6 := Lib.hid g6
      have F6 := Lib.hid (F5.out.trans f6)
      clear g6 f6 G5 F5
      have PN := G6.out.pending 0 (n : Int)
      rw [L6.out] at PN
      have PN' := Lib.hid PN
      clear PN
      go_wp2_with (go_at_call 18; refine PN'.out.mono ?_; rintro e w7 ⟨rfl, rfl⟩)
      go_roundw
      case rel => exact ⟨k + 1, HK.out, by go_num, G6.out, F6.out⟩
      case measure => have := HK.out; simp [intOf]; omega
    · obtain rfl : k = m := by omega
      clear hk hlt
      go_wp2_with fail
      refine (PT.out _).mono ?_
      rintro e w9 ⟨rfl, rfl⟩
      go_wp2_with fail
      refine (line_ok _ gb _ 0 (n : Int) false _ HG.out).mono ?_
      rintro e w2 ⟨rfl, g2, f2⟩
      rw [L7.out] at g2
      have G2 := Lib.hid g2
      have F2 := Lib.hid (HF.out.trans f2)
      clear g2 f2
      go_wp2_with fail
      refine (ack_ok _ gb _ 0 _ G2.out 1 (by omega) (A0.out _)).mono ?_
      rintro e w4 ⟨rfl, g4, f4⟩
      rw [L8.out.1] at g4
      rw [L8.out.2.1]
      have F4 := Lib.hid (F2.out.trans f4)
      have PN := g4.pending 0 (n : Int)
      rw [L8.out.2.2.1] at PN
      have PN' := Lib.hid PN
      have AC := g4.active 0 (n : Int)
      rw [L8.out.2.2.2] at AC
      have AC' := Lib.hid AC
      clear PN AC g4 f4
      go_wp2_with (first | (go_at_call 18; refine PN'.out.mono ?_; rintro e w7 ⟨rfl, rfl⟩) | (go_at_call 19; refine AC'.out.mono ?_; rintro e w8 ⟨rfl, rfl⟩))
      go_ret
      exact ⟨rfl, F4.out.old.below (Nat.le_refl _) fun _ _ => id⟩
end Go.Proofs.Ytpgelocofoidnaa
