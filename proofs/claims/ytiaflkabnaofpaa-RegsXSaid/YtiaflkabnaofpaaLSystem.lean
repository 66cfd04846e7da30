/- The walk of RegsSystem. -/
import Derived.Test.YtiaflkabnaofpaaGet
import Derived.Test.YtiaflkabnaofpaaRSys
import Derived.Test.YtiaflkabnaofpaaEx
import Derived.Test.YtiaflkabnaofpaaArg
namespace Go.Proofs.Ytiaflkabnaofpaa
open Go.RowKit
set_option linter.unusedVariables false
attribute [local go_sem] fold0

theorem crEq_rfl (c : Cr) : crEq c c = true := by simp [crEq]
theorem u64_rng {a : Int} (h : (Lit.int .u64 a).wf = true) : 0 ≤ a ∧ a ≤ 18446744073709551615 := by
  simp only [Lit.wf, Bool.and_eq_true, decide_eq_true_eq] at h
  exact h
theorem run_neq_core (a b : Cr) (w : World) : (binOp .neq 26 (.agg (cv a)) (.agg (cv b))).run Try.prog w = .ok (.bool (!crEq a b)) w := by
  have h := run_eq_core a b w
  have e1 : (binOp .eql 26 (.agg (cv a)) (.agg (cv b))).run Try.prog w = ((Op.equal 26 (.agg (cv a)) (.agg (cv b))).run Try.prog w).andThen fun v w' => .ok (.bool v) w' := by
    unfold binOp
    simp only [Sem.run_bind, Sem.run_pure]
  have e2 : (binOp .neq 26 (.agg (cv a)) (.agg (cv b))).run Try.prog w = ((Op.equal 26 (.agg (cv a)) (.agg (cv b))).run Try.prog w).andThen fun v w' => .ok (.bool (!v)) w' := by
    unfold binOp
    simp only [Sem.run_bind, Sem.run_pure]
  rw [e1] at h
  rw [e2]
  generalize (Op.equal 26 (.agg (cv a)) (.agg (cv b))).run Try.prog w = r at h ⊢
  cases r with
  | ok v w' =>
    simp only [Result.andThen_ok, Result.ok.injEq, Value.bool.injEq] at h ⊢
    exact ⟨by rw [h.1], h.2⟩
  | _ => simp [Result.andThen] at h
set_option maxRecDepth 100000 in
set_option maxHeartbeats 4000000 in
theorem system_gen (c D X : Cr) (sys v va : Int) (ok g : Bool) (w : World)
    (hg : ∀ w, Calls Try.prog 25 #[.agg (cv c), .int .i64 sys] w (GetPost w va ok))
    (hrg : ∀ w, Calls Try.prog 26 #[.agg (cv c), .int .i64 sys] w (GetPost w va ok))
    (hs : ∀ w, Calls Try.prog 27 #[.agg (cv c), .int .i64 sys, .int .u64 v] w fun e w' => e = .returned (.tuple #[.agg (cv D), .bool g]) ∧ Fr Nil w w')
    (hrs : ∀ w, Calls Try.prog 28 #[.agg (cv c), .int .i64 sys, .int .u64 v] w fun e w' => e = .returned (.tuple #[.agg (cv X), .bool g]) ∧ Fr Nil w w') (ex : crEq D X = true) :
    Calls Try.prog 7 #[.agg (cv c), .int .i64 sys, .int .u64 v] w fun e w' => e = .returned (.bool true) ∧ Below w.heap.size w w' := by
  have HG := Lib.hid hg
  have HRG := Lib.hid hrg
  have HS := Lib.hid hs
  have HRS := Lib.hid hrs
  clear hg hrg hs hrs
  have heq : ∀ W : World, (binOp .eql 26 (.agg (cv D)) (.agg (cv X))).run Try.prog W = .ok (.bool true) W := fun W => by rw [run_eq_core, ex]
  clear ex
  go_enter Try.func7, Try.ntmps7
  go_wp2_with fail
  refine (examples_ok _).mono ?_
  rintro e w2 ⟨rfl, hf2⟩
  have gch2 : Blk w2 w.heap.size 26 (cv c) := Blk.fr0 (Blk.new _ _ _) hf2
  have F2 := ((Fr.refl Nil w).alloc (.cells (cv c) 26)).trans hf2
  clear hf2
  generalize hgc : w.heap.size = gc at *
  have Hgc := Lib.hid hgc
  clear hgc
  go_wp2_with (refine wpList_load_blk rfl 26 (.tmp 3) rfl gc rfl _ gch2 Try.underlying26 rfl info26 ?_)
  refine (HG.out _).mono ?_
  rintro e w3 ⟨rfl, hf3⟩
  have gch3 := Blk.fr0 gch2 hf3
  have F3 := F2.trans hf3
  clear gch2 F2 hf3
  go_wp2_with (refine wpList_load_blk rfl 26 (.tmp 3) rfl gc rfl _ gch3 Try.underlying26 rfl info26 ?_)
  refine (HRG.out _).mono ?_
  rintro e w4 ⟨rfl, hf4⟩
  have gch4 := Blk.fr0 gch3 hf4
  have F4 := F3.trans hf4
  clear gch3 F3 hf4
  go_wp2_with (refine wpList_load_blk rfl 26 (.tmp 3) rfl gc rfl _ gch4 Try.underlying26 rfl info26 ?_)
  refine (HS.out _).mono ?_
  rintro e w5 ⟨rfl, hf5⟩
  have gch5 := Blk.fr0 gch4 hf5
  have F5 := F4.trans hf5
  clear gch4 F4 hf5
  have gcl6 := gch5.lt
  go_upto_region 7 with (refine wpList_store_blk0 rfl 26 (.tmp 12) (.tmp 36) rfl w5.heap.size rfl (cv D) rfl (Blk.new _ _ _) info26 rfl (one_cv _) ?_; intro w6 hf6 gah6)
  have gch6 := Blk.fr1 (Blk.alloc gch5 (.cells (cv zeroC) 26)) hf6 (by omega)
  have F6 := (F5.alloc (.cells (cv zeroC) 26)).own1 hf6 F5.size
  clear gch5 F5 hf6
  generalize w5.heap.size = ga at *
  go_wp2_with (refine wpList_load_blk rfl 26 (.tmp 3) rfl gc rfl _ gch6 Try.underlying26 rfl info26 ?_)
  refine (HRS.out _).mono ?_
  rintro e w7 ⟨rfl, hf7⟩
  have gch7 := Blk.fr0 gch6 hf7
  have gah7 := Blk.fr0 gah6 hf7
  have F7 := F6.trans hf7
  clear gch6 gah6 F6 hf7
  have gcl8 := gch7.lt
  have gal8 := gah7.lt
  go_upto_region 8 with (refine wpList_store_blk0 rfl 26 (.tmp 14) (.tmp 43) rfl w7.heap.size rfl (cv X) rfl (Blk.new _ _ _) info26 rfl (one_cv _) ?_; intro w8 hf8 gbh8)
  have gch8 := Blk.fr1 (Blk.alloc gch7 (.cells (cv zeroC) 26)) hf8 (by omega)
  have gah8 := Blk.fr1 (Blk.alloc gah7 (.cells (cv zeroC) 26)) hf8 (by omega)
  have F8 := (F7.alloc (.cells (cv zeroC) 26)).own1 hf8 F7.size
  clear gch7 gah7 F7 hf8
  generalize w7.heap.size = gb at *
  go_wp2_with (first | (refine wpList_load_blkg rfl 26 (.tmp 12) rfl ga rfl _ gah8 Try.underlying26 rfl info26 ?_) | (refine wpList_load_blkg rfl 26 (.tmp 14) rfl gb rfl _ gbh8 Try.underlying26 rfl info26 ?_))
  all_goals go_ret
  all_goals exact ⟨by first | rfl | simp [*], F8.below (by rw [Hgc.out]; exact Nat.le_refl _) (fun _ _ => id)⟩
theorem nat_of {v : Int} (h0 : 0 ≤ v) : ∃ n : Nat, v = (n : Int) := ⟨v.toNat, by omega⟩
theorem bitsN (n m : Nat) (hn : n < 2 ^ 64) (hm : m < 2 ^ 64) : bits .and .u64 (n : Int) (m : Int) = ((n &&& m : Nat) : Int) := by
  have e : bits .and .u64 (n : Int) (m : Int) = IntKind.u64.wrap (((BitVec.ofNat 64 n &&& BitVec.ofNat 64 m).toNat : Nat) : Int) := by
    unfold bits
    simp only [IntKind.bits, BitVec.ofInt_natCast]
    rfl
  rw [e, BitVec.toNat_and, BitVec.toNat_ofNat, BitVec.toNat_ofNat, Nat.mod_eq_of_lt hn, Nat.mod_eq_of_lt hm, IntKind.wrap_u64]
  have : n &&& m ≤ n := Nat.and_le_left
  omega
theorem andNotN (n m : Nat) (hn : n < 2 ^ 64) (hm : m < 2 ^ 64) : bits .andNot .u64 (n : Int) (m : Int) = (((BitVec.ofNat 64 n &&& ~~~ BitVec.ofNat 64 m).toNat : Nat) : Int) := by
  have e : bits .andNot .u64 (n : Int) (m : Int) = IntKind.u64.wrap (((BitVec.ofNat 64 n &&& ~~~ BitVec.ofNat 64 m).toNat : Nat) : Int) := by
    unfold bits
    simp only [IntKind.bits, BitVec.ofInt_natCast]
    rfl
  rw [e, IntKind.wrap_u64]
  have := (BitVec.ofNat 64 n &&& ~~~ BitVec.ofNat 64 m).isLt
  omega
theorem and_split (x y : BitVec 64) : (x &&& ~~~ y).toNat + (x &&& y).toNat = x.toNat := by
  have h : (x &&& ~~~ y) &&& (x &&& y) = 0#64 := by
    apply BitVec.eq_of_getLsbD_eq
    intro i hi
    simp only [BitVec.getLsbD_and, BitVec.getLsbD_not, hi, decide_true, Bool.true_and, BitVec.getLsbD_zero]
    cases x.getLsbD i <;> cases y.getLsbD i <;> rfl
  have h2 : (x &&& ~~~ y) ||| (x &&& y) = x := by
    apply BitVec.eq_of_getLsbD_eq
    intro i hi
    simp only [BitVec.getLsbD_and, BitVec.getLsbD_or, BitVec.getLsbD_not, hi, decide_true, Bool.true_and]
    cases x.getLsbD i <;> cases y.getLsbD i <;> rfl
  have h3 := BitVec.add_eq_or_of_and_eq_zero (x &&& ~~~ y) (x &&& y) h
  rw [h2] at h3
  have h4 := congrArg BitVec.toNat h3
  rw [BitVec.toNat_add] at h4
  have hdis : (x &&& ~~~ y).toNat + (x &&& y).toNat < 2 ^ 64 := by
    have a1 : (x &&& ~~~ y).toNat ≤ (~~~ y).toNat := by rw [BitVec.toNat_and]; exact Nat.and_le_right
    have a2 : (x &&& y).toNat ≤ y.toNat := by rw [BitVec.toNat_and]; exact Nat.and_le_right
    rw [BitVec.toNat_not] at a1
    have := y.isLt
    omega
  rw [Nat.mod_eq_of_lt hdis] at h4
  exact h4
theorem low11 (v : Int) (h0 : 0 ≤ v) (h1 : v ≤ 18446744073709551615) : bits .andNot .u64 v 2047 = v - v % 2048 := by
  obtain ⟨n, rfl⟩ := nat_of h0
  have hn : n < 2 ^ 64 := by omega
  have e := andNotN n 2047 hn (by decide)
  have s := and_split (BitVec.ofNat 64 n) (BitVec.ofNat 64 2047)
  have e2 : (BitVec.ofNat 64 n &&& BitVec.ofNat 64 2047).toNat = n % 2048 := by
    rw [BitVec.toNat_and, BitVec.toNat_ofNat, BitVec.toNat_ofNat, Nat.mod_eq_of_lt hn]
    exact Nat.and_two_pow_sub_one_eq_mod n 11
  rw [e2, BitVec.toNat_ofNat, Nat.mod_eq_of_lt hn] at s
  have e3 : ((2047 : Nat) : Int) = 2047 := rfl
  rw [e3] at e
  rw [e]
  omega
theorem low32 (v : Int) (h0 : 0 ≤ v) (h1 : v ≤ 18446744073709551615) : bits .and .u64 v 4294967295 = v % 4294967296 := by
  obtain ⟨n, rfl⟩ := nat_of h0
  have hn : n < 2 ^ 64 := by omega
  have e := bitsN n 4294967295 hn (by decide)
  have e2 : n &&& 4294967295 = n % 4294967296 := Nat.and_two_pow_sub_one_eq_mod n 32
  have e3 : ((4294967295 : Nat) : Int) = 4294967295 := rfl
  rw [e2, e3] at e
  rw [e]
  omega
theorem bit7 (v : Int) (h0 : 0 ≤ v) (h1 : v ≤ 18446744073709551615) : (bits .and .u64 v 128 != 0) = (v / 128 % 2 == 1) := by
  obtain ⟨n, rfl⟩ := nat_of h0
  have e := bitsN n 128 (by omega) (by decide)
  have e3 : ((128 : Nat) : Int) = 128 := rfl
  rw [e3] at e
  rw [e]
  have e4 : n &&& 128 = 2 ^ 7 * (n / 128 % 2) := by
    apply Nat.eq_of_testBit_eq
    intro i
    rw [Nat.testBit_and, show (128 : Nat) = 2 ^ 7 from rfl, Nat.testBit_two_pow]
    by_cases hi : 7 = i
    · subst hi
      rw [Nat.testBit_eq_decide_div_mod_eq]
      rcases Nat.mod_two_eq_zero_or_one (n / 2 ^ 7) with h | h <;> simp [h] <;> decide
    · rcases Nat.mod_two_eq_zero_or_one (n / 2 ^ 7) with h | h
      · simp [h, hi]
      · rw [h, Nat.mul_one, Nat.testBit_two_pow]
        simp [hi]
  rw [e4]
  rcases Nat.mod_two_eq_zero_or_one (n / 128) with h | h
  · rw [h]
    have : (n : Int) / 128 % 2 = 0 := by omega
    simp [this]
  · rw [h]
    have : (n : Int) / 128 % 2 = 1 := by omega
    simp [this]
theorem regsSystem_walk (c : Cr) (a1 a2 : Int) (w : World) (w0 : WfC c) (w1 : (Lit.int .i64 a1).wf = true) (w2 : (Lit.int .u64 a2).wf = true) :
    Calls Try.prog 7 #[.agg (cv c), .int .i64 a1, .int .u64 a2] w fun e w' => e = .returned (.bool true) ∧ Below w.heap.size w w' := by
  obtain ⟨h0, h1⟩ := u64_rng w2
  by_cases k_vbar : a1 = 17920
  · subst k_vbar
    exact system_gen c _ _ 17920 a2 _ true true w (fun w => get_vbar c w) (fun w => rget_vbar c w) (fun w => set_vbar c a2 w) (fun w => rset_vbar c a2 w h0 h1) (by rw [low11 _ h0 h1]; exact crEq_rfl _)
  by_cases k_elr : a1 = 16897
  · subst k_elr
    exact system_gen c _ _ 16897 a2 _ true true w (fun w => get_elr c w) (fun w => rget_elr c w) (fun w => set_elr c a2 w) (fun w => rset_elr c a2 w h0 h1) (crEq_rfl _)
  by_cases k_spsr : a1 = 16896
  · subst k_spsr
    exact system_gen c _ _ 16896 a2 _ true true w (fun w => get_spsr c w) (fun w => rget_spsr c w) (fun w => set_spsr c a2 w) (fun w => rset_spsr c a2 w h0 h1) (crEq_rfl _)
  by_cases k_esr : a1 = 17040
  · subst k_esr
    exact system_gen c _ _ 17040 a2 _ true true w (fun w => get_esr c w) (fun w => rget_esr c w) (fun w => set_esr c a2 w) (fun w => rset_esr c a2 w h0 h1) (by rw [low32 _ h0 h1]; exact crEq_rfl _)
  by_cases k_far : a1 = 17152
  · subst k_far
    exact system_gen c _ _ 17152 a2 _ true true w (fun w => get_far c w) (fun w => rget_far c w) (fun w => set_far c a2 w) (fun w => rset_far c a2 w h0 h1) (crEq_rfl _)
  by_cases k_sp0 : a1 = 16904
  · subst k_sp0
    exact system_gen c _ _ 16904 a2 _ true true w (fun w => get_sp0 c w) (fun w => rget_sp0 c w) (fun w => set_sp0 c a2 w) (fun w => rset_sp0 c a2 w h0 h1) (crEq_rfl _)
  by_cases k_tpidr : a1 = 24194
  · subst k_tpidr
    exact system_gen c _ _ 24194 a2 _ true true w (fun w => get_tpidr c w) (fun w => rget_tpidr c w) (fun w => set_tpidr c a2 w) (fun w => rset_tpidr c a2 w h0 h1) (crEq_rfl _)
  by_cases k_nz : a1 = 23056
  · subst k_nz
    exact system_gen c _ _ 23056 a2 _ true true w (fun w => get_nzcv c w) (fun w => rget_nzcv c w) (fun w => set_nzcv c a2 w h0 h1) (fun w => rset_nzcv c a2 w h0 h1) (by rw [setR_eq c a2 h0 h1]; exact crEq_rfl _)
  by_cases k_da : a1 = 23057
  · subst k_da
    exact system_gen c _ _ 23057 a2 _ true true w (fun w => get_daif c w) (fun w => rget_daif c w) (fun w => set_daif c a2 w) (fun w => rset_daif c a2 w h0 h1) (by rw [bit7 a2 h0 h1]; exact crEq_rfl _)
  have hp : noPlace a1 := ⟨k_vbar, k_elr, k_spsr, k_esr, k_far, k_sp0, k_tpidr⟩
  have hs : noSet a1 := ⟨k_nz, k_da⟩
  by_cases k_mp : a1 = 16389
  · subst k_mp
    exact system_gen c _ _ 16389 a2 _ true false w (fun w => get_mpid c w) (fun w => rget_mpid c w) (fun w => set_no c _ a2 w hp hs) (fun w => rset_no c _ a2 w hp hs) (crEq_rfl _)
  by_cases k_el : a1 = 16914
  · subst k_el
    exact system_gen c _ _ 16914 a2 _ true false w (fun w => get_el c w) (fun w => rget_el c w) (fun w => set_no c _ a2 w hp hs) (fun w => rset_no c _ a2 w hp hs) (crEq_rfl _)
  have hg : noGet a1 := ⟨k_nz, k_da, k_mp, k_el⟩
  exact system_gen c _ _ a1 a2 _ false false w (fun w => get_no c a1 w hp hg) (fun w => rget_no c a1 w hp hg) (fun w => set_no c a1 a2 w hp hs) (fun w => rset_no c a1 a2 w hp hs) (crEq_rfl _)
end Go.Proofs.Ytiaflkabnaofpaa
