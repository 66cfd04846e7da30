/- BusBits: the walk. -/
import Derived.Test.YtnmakbippgnekaaPb
import Derived.Test.YtnmakbippgnekaaKn
import Derived.Test.YtnmakbippgnekaaRws
set_option linter.unusedSimpArgs false
set_option linter.unusedVariables false
set_option linter.unusedSectionVars false
namespace Go.Proofs.Ytnmakbippgnekaa
open Go.RowKit
set_option maxRecDepth 100000

theorem wrB_reg (B : BS) (c a v : Int) (J : Nat) (h1 : okA B.t.n c a = true) (h2 : whereP a = some J) : wrB B c a v = wrReg B c J (regK a J) v ∧ wrF B c a = 0 := by
  unfold wrB wrF rdB
  rw [if_pos h1, if_pos h1, h2]
  exact ⟨rfl, rfl⟩
theorem rdB_reg (B : BS) (c a : Int) (J : Nat) (h1 : okA B.t.n c a = true) (h2 : whereP a = some J) : rdB B c a = (rdReg B c J (regK a J), 0) := by
  unfold rdB
  rw [if_pos h1, h2]
def enG (c v : Int) (b : Bool) (g : GS) : GS := allG (fun g i => g.enable c (i : Int) b) v 64 g
def laG (c v : Int) (b : Bool) (g : GS) : GS := allG (fun g i => g.pend c (i : Int) b) v 64 g
def bitsG (c n m p q : Int) : GS := laG c q false (laG c p true (enG c m false (enG c n true (new 3))))
def M1 (c n : Int) : BS := { B0 3 with g := enG c n true (new 3) }
def M2 (c n m : Int) : BS := { B0 3 with g := enG c m false (enG c n true (new 3)) }
def M3 (c n m p : Int) : BS := { B0 3 with g := laG c p true (enG c m false (enG c n true (new 3))) }
def M4 (c n m p q : Int) : BS := { B0 3 with g := bitsG c n m p q }
theorem enG_c (c v : Int) (b : Bool) (g : GS) : (enG c v b g).c = g.c := allG_c _ (fun g k => setF_c _ _ _ _) _ _ _
theorem laG_c (c v : Int) (b : Bool) (g : GS) : (laG c v b g).c = g.c := allG_c _ (fun g k => setF_c _ _ _ _) _ _ _
theorem enG_get (c : Nat) (v : Int) (b : Bool) (g : GS) (hc : c < g.c) (id : Nat) (hi : id < 64) : (enG (c : Int) v b g).get c id = if hasb v id = true then { g.get c id with en := b } else g.get c id := by
  have := get_allG (fun x => { x with en := b }) v g c hc 64 (Nat.le_refl _) id hi
  rw [decide_eq_true hi, Bool.true_and] at this
  exact this
theorem laG_get (c : Nat) (v : Int) (b : Bool) (g : GS) (hc : c < g.c) (id : Nat) (hi : id < 64) : (laG (c : Int) v b g).get c id = if hasb v id = true then { g.get c id with la := b } else g.get c id := by
  have := get_allG (fun x => { x with la := b }) v g c hc 64 (Nat.le_refl _) id hi
  rw [decide_eq_true hi, Bool.true_and] at this
  exact this
theorem enG_own (c c' : Nat) (v : Int) (b : Bool) (g : GS) (hc : c < g.c) (hne : c' ≠ c) (id : Nat) (hi : id < 32) : (enG (c : Int) v b g).get c' id = g.get c' id := get_allG_own _ v g c c' hc hne id hi 64 (Nat.le_refl _)
theorem laG_own (c c' : Nat) (v : Int) (b : Bool) (g : GS) (hc : c < g.c) (hne : c' ≠ c) (id : Nat) (hi : id < 32) : (laG (c : Int) v b g).get c' id = g.get c' id := get_allG_own _ v g c c' hc hne id hi 64 (Nat.le_refl _)
theorem bitsG_get (c : Nat) (hc : c < 3) (n m p q : Int) (id : Nat) (hi : id < 64) : ((bitsG (c : Int) n m p q).get c id).en = (hasb n id && !hasb m id) ∧ I.pn ((bitsG (c : Int) n m p q).get c id) = (hasb p id && !hasb q id) := by
  have h0 : (new 3).get c id = i160 := by unfold GS.get new; split <;> rfl
  unfold bitsG
  rw [laG_get c q false _ (by rw [laG_c, enG_c, enG_c]; exact hc) id hi, laG_get c p true _ (by rw [enG_c, enG_c]; exact hc) id hi, enG_get c m false _ (by rw [enG_c]; exact hc) id hi, enG_get c n true _ hc id hi, h0]
  cases hasb n id <;> cases hasb m id <;> cases hasb p id <;> cases hasb q id <;> exact ⟨rfl, rfl⟩
theorem bitsG_other (c c' : Nat) (hc : c < 3) (hne : c' ≠ c) (n m p q : Int) (id : Nat) (hi : id < 64) : ((bitsG (c : Int) n m p q).get c' id).en = (decide (32 ≤ id) && (hasb n id && !hasb m id)) := by
  by_cases h : 32 ≤ id
  · rw [GS.get_sh _ c' c id h, (bitsG_get c hc n m p q id hi).1]
    simp [h]
  · have h0 : (new 3).get c' id = i160 := by unfold GS.get new; split <;> rfl
    have k1 : (bitsG (c : Int) n m p q).get c' id = (new 3).get c' id := by
      unfold bitsG
      rw [laG_own c c' q false _ (by rw [laG_c, enG_c, enG_c]; exact hc) hne id (by omega), laG_own c c' p true _ (by rw [enG_c, enG_c]; exact hc) hne id (by omega), enG_own c c' m false _ (by rw [enG_c]; exact hc) hne id (by omega), enG_own c c' n true _ hc hne id (by omega)]
    rw [k1, h0]
    simp [h]
    rfl
theorem tellB_nat {s : GS} {c id : Nat} (f : I → Bool) (hc : c < s.c) (hi : id < 64) : s.tellB f (c : Int) (id : Int) = f (s.get c id) := by
  unfold GS.tellB okI thereB
  have h1 : (decide ((0 : Int) ≤ (c : Int)) && decide ((c : Int) < (s.c : Int)) && decide ((0 : Int) ≤ (id : Int)) && decide ((id : Int) < 64)) = true := by simp; omega
  rw [h1]
  rfl
theorem bitsG_c (c n m p q : Int) : (bitsG c n m p q).c = 3 := by unfold bitsG; rw [laG_c, laG_c, enG_c, enG_c]; rfl
theorem m4_en (c : Nat) (hc : c < 3) (n m p q : Nat) (hn : n < 2 ^ 64) (hm : m < 2 ^ 64) : setOf (M4 (c : Int) n m p q) (·.en) (c : Int) = (andn n m : Int) := by
  unfold setOf
  rw [setN_is _ (andn n m) (andn_lt n m) fun id hi => ?_]
  rw [andn_bit n m id hn hm hi, ← hasb_bit, ← hasb_bit]
  show (bitsG _ _ _ _ _).tellB _ _ _ = _
  rw [tellB_nat _ (by rw [bitsG_c]; exact hc) hi]
  exact (bitsG_get c hc n m p q id hi).1
theorem m4_pn (c : Nat) (hc : c < 3) (n m p q : Nat) (hp : p < 2 ^ 64) (hq : q < 2 ^ 64) : setOf (M4 (c : Int) n m p q) I.pn (c : Int) = (andn p q : Int) := by
  unfold setOf
  rw [setN_is _ (andn p q) (andn_lt p q) fun id hi => ?_]
  rw [andn_bit p q id hp hq hi, ← hasb_bit, ← hasb_bit]
  show (bitsG _ _ _ _ _).tellB _ _ _ = _
  rw [tellB_nat _ (by rw [bitsG_c]; exact hc) hi]
  exact (bitsG_get c hc n m p q id hi).2
theorem m4_ot (c c' : Nat) (hc : c < 3) (hc' : c' < 3) (hne : c' ≠ c) (n m p q : Nat) (hn : n < 2 ^ 64) (hm : m < 2 ^ 64) : setOf (M4 (c : Int) n m p q) (·.en) (c' : Int) = (andn n m : Int) / 4294967296 * 4294967296 := by
  unfold setOf
  have hl := andn_lt n m
  rw [setN_is _ (andn n m / 4294967296 * 4294967296) (by omega) fun id hi => ?_]
  · simp
  · rw [high_bit, andn_bit n m id hn hm hi, ← hasb_bit, ← hasb_bit]
    show (bitsG _ _ _ _ _).tellB _ _ _ = _
    rw [tellB_nat _ (by rw [bitsG_c]; exact hc') hi]
    exact bitsG_other c c' hc hne n m p q id hi
theorem okA_nat {n c : Nat} {a : Int} (hc : c < n) (ha : a % 8 = 0) : okA n (c : Int) a = true := by
  unfold okA
  simp
  omega
theorem pk3 {x : Int} {n : Nat} (hn : 0 < n) : ∃ c : Nat, pk x (n : Int) = (c : Int) ∧ c < n := by
  obtain ⟨h1, h2⟩ := pk_rng x (n : Int) (by omega)
  exact ⟨(pk x n).toNat, by omega, by omega⟩
set_option maxHeartbeats 2000000 in
theorem busBits_walk (x n m p q : Int) (w : World) (w1 : (Lit.int .i64 x).wf = true) (w2 : (Lit.int .u64 n).wf = true) (w3 : (Lit.int .u64 m).wf = true) (w4 : (Lit.int .u64 p).wf = true) (w5 : (Lit.int .u64 q).wf = true) :
    Calls Try.prog 6 #[.int .i64 x, .int .u64 n, .int .u64 m, .int .u64 p, .int .u64 q] w fun e w' => e = .returned (.bool true) ∧ Below w.heap.size w w' := by
  obtain ⟨x0, x1⟩ := i64_rng w1
  obtain ⟨n0, n1⟩ := u64_rng w2
  obtain ⟨m0, m1⟩ := u64_rng w3
  obtain ⟨p0, p1⟩ := u64_rng w4
  obtain ⟨q0, q1⟩ := u64_rng w5
  obtain ⟨n, rfl⟩ : ∃ n' : Nat, n = (n' : Int) := ⟨n.toNat, by omega⟩
  obtain ⟨m, rfl⟩ : ∃ n' : Nat, m = (n' : Int) := ⟨m.toNat, by omega⟩
  obtain ⟨p, rfl⟩ : ∃ n' : Nat, p = (n' : Int) := ⟨p.toNat, by omega⟩
  obtain ⟨q, rfl⟩ : ∃ n' : Nat, q = (n' : Int) := ⟨q.toNat, by omega⟩
  have KN := Lib.hid (known_ok w)
  obtain ⟨c, hcp, hc⟩ := pk3 (x := x) (n := 3) (by omega)
  have PI := fun w => pick_ok x 3 w x0 x1 (by omega) (by omega)
  rw [show pk x 3 = (c : Int) from hcp] at PI
  have PI := Lib.hid PI
  have HN := Lib.hid (And.intro n0 n1)
  have HM := Lib.hid (And.intro m0 m1)
  have HP := Lib.hid (And.intro p0 p1)
  have HQ := Lib.hid (And.intro q0 q1)
  have HC := Lib.hid hc
  obtain ⟨c', hc', hne', ec'⟩ : ∃ c' : Nat, c' < 3 ∧ c' ≠ c ∧ ((c : Int) + 1) % 3 = (c' : Int) := ⟨(c + 1) % 3, by omega, by omega, by omega⟩
  have HC' := Lib.hid (And.intro hc' hne')
  have EA := andnI n m (by omega) (by omega)
  have EB := andnI p q (by omega) (by omega)
  have EE := Lib.hid (m4_en c hc n m p q (by omega) (by omega))
  have EP := Lib.hid (m4_pn c hc n m p q (by omega) (by omega))
  have EO := Lib.hid (m4_ot c c' hc hc' hne' n m p q (by omega) (by omega))
  have vl : (andn n m : Int) ≤ 18446744073709551615 := by have := andn_lt n m; omega
  have v0 : (0 : Int) ≤ (andn n m : Int) := by omega
  generalize (andn n m : Int) = V at *
  generalize (andn p q : Int) = X at *
  have c2 : (c : Int) < 3 := by omega
  clear hc hcp x0 x1 n0 n1 m0 m1 p0 p1 q0 q1 w1 w2 w3 w4 w5 hc' hne'
  go_enter Try.func6, Try.ntmps6
  go_wp2_with fail
  refine KN.out.mono ?_
  rintro e wa ⟨rfl, f1⟩
  have F1 := Lib.hid f1
  clear f1 KN
  go_wp2_with fail
  refine (bw_new (w0 := w) F1.out.nil 3 rfl (by decide) (by decide)).mono ?_
  rintro e w1 ⟨bb, gb, tb, rfl, h1⟩
  have H1 := Lib.hid h1
  clear h1 F1
  go_wp2_with fail
  refine (PI.out _).mono ?_
  rintro e w2 ⟨rfl, rfl⟩
  go_wp2_with fail
  refine (H1.out.write (c : Int) 134217728 n (by decide) (by decide) HN.out.1 HN.out.2 (wrB_reg _ _ _ n 0 (okA_nat HC.out rfl) (by kernel_rfl)).2 (show _ = M1 (c : Int) n from (wrB_reg _ _ _ _ 0 (okA_nat HC.out rfl) (by kernel_rfl)).1)).mono ?_
  rintro e w2 ⟨rfl, h2⟩
  have H2 := Lib.hid h2
  clear h2 H1
  go_wp2_with fail
  refine (H2.out.write (c : Int) 134217736 m (by decide) (by decide) HM.out.1 HM.out.2 (wrB_reg _ _ _ m 0 (okA_nat HC.out rfl) (by kernel_rfl)).2 (show _ = M2 (c : Int) n m from (wrB_reg _ _ _ _ 0 (okA_nat HC.out rfl) (by kernel_rfl)).1)).mono ?_
  rintro e w3 ⟨rfl, h3⟩
  have H3 := Lib.hid h3
  clear h3 H2
  go_wp2_with fail
  refine (H3.out.write (c : Int) 134217744 p (by decide) (by decide) HP.out.1 HP.out.2 (wrB_reg _ _ _ p 1 (okA_nat HC.out rfl) (by kernel_rfl)).2 (show _ = M3 (c : Int) n m p from (wrB_reg _ _ _ _ 1 (okA_nat HC.out rfl) (by kernel_rfl)).1)).mono ?_
  rintro e w4 ⟨rfl, h4⟩
  have H4 := Lib.hid h4
  clear h4 H3
  go_wp2_with fail
  refine (H4.out.write (c : Int) 134217752 q (by decide) (by decide) HQ.out.1 HQ.out.2 (wrB_reg _ _ _ q 1 (okA_nat HC.out rfl) (by kernel_rfl)).2 (show _ = M4 (c : Int) n m p q from (wrB_reg _ _ _ _ 1 (okA_nat HC.out rfl) (by kernel_rfl)).1)).mono ?_
  rintro e w5 ⟨rfl, h5⟩
  have H5 := Lib.hid h5
  clear h5 H4
  go_wp2_with fail
  refine (H5.out.read (c : Int) 134217728 (by decide) (by decide) (x := V) (y := 0) ((rdB_reg _ _ _ 0 (okA_nat HC.out rfl) (by kernel_rfl)).trans (by rw [← EE.out]; rfl))).mono ?_
  rintro e w6 ⟨rfl, h6⟩
  have H6 := Lib.hid h6
  clear h6 H5
  go_wp2_with fail
  refine (H6.out.read (c : Int) 134217736 (by decide) (by decide) (x := V) (y := 0) ((rdB_reg _ _ _ 0 (okA_nat HC.out rfl) (by kernel_rfl)).trans (by rw [← EE.out]; rfl))).mono ?_
  rintro e w7 ⟨rfl, h7⟩
  have H7 := Lib.hid h7
  clear h7 H6
  go_wp2_with fail
  refine (H7.out.read (c : Int) 134217744 (by decide) (by decide) (x := X) (y := 0) ((rdB_reg _ _ _ 1 (okA_nat HC.out rfl) (by kernel_rfl)).trans (by rw [← EP.out]; rfl))).mono ?_
  rintro e w8 ⟨rfl, h8⟩
  have H8 := Lib.hid h8
  clear h8 H7
  go_wp2_with fail
  refine (H8.out.read (c : Int) 134217752 (by decide) (by decide) (x := X) (y := 0) ((rdB_reg _ _ _ 1 (okA_nat HC.out rfl) (by kernel_rfl)).trans (by rw [← EP.out]; rfl))).mono ?_
  rintro e w9 ⟨rfl, h9⟩
  have H9 := Lib.hid h9
  clear h9 H8
  go_wp2_with fail
  refine (H9.out.read (c' : Int) 134217728 (by decide) (by decide) (x := V / 4294967296 * 4294967296) (y := 0) ((rdB_reg _ _ _ 0 (okA_nat HC'.out.1 rfl) (by kernel_rfl)).trans (by rw [← EO.out]; rfl))).mono ?_
  rintro e w10 ⟨rfl, h10⟩
  have H10 := Lib.hid h10
  clear h10 H9
  go_wp2_with fail
  go_ret
  exact ⟨rfl, H10.out.below⟩
end Go.Proofs.Ytnmakbippgnekaa
