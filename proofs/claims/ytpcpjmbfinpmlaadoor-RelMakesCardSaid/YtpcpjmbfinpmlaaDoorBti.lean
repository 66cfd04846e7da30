/- Inter and Minus. -/
import Derived.Test.YtpcpjmbfinpmlaaDoorBth
set_option linter.unusedSimpArgs false
set_option linter.unusedVariables false
set_option linter.unusedSectionVars false
namespace Go.Proofs.YtpcpjmbfinpmlaaDoor
open Go.RowKit
set_option maxRecDepth 100000

def intR (r s : Rn) : Rn := fun a c => r a c && s a c
def minR (r s : Rn) : Rn := fun a c => r a c && !(s a c)
theorem intR_ok {n : Nat} {r s : Rn} (hr : ∀ a c, r a c = true → a < n ∧ c < n) (a c : Nat) (h : intR r s a c = true) : a < n ∧ c < n := by
  unfold intR at h
  rw [Bool.and_eq_true] at h
  exact hr a c h.1
theorem minR_ok {n : Nat} {r s : Rn} (hr : ∀ a c, r a c = true → a < n ∧ c < n) (a c : Nat) (h : minR r s a c = true) : a < n ∧ c < n := by
  unfold minR at h
  rw [Bool.and_eq_true] at h
  exact hr a c h.1
theorem anotN (f g : Nat → Bool) : bits .andNot .u64 (bw f : Int) (bw g : Int) = (bw (fun i => f i && !(g i)) : Int) := by
  have e : bits .andNot .u64 (bw f : Int) (bw g : Int) = IntKind.u64.wrap (((BitVec.ofNat 64 (bw f) &&& ~~~ BitVec.ofNat 64 (bw g)).toNat : Nat) : Int) := by
    unfold bits
    simp only [IntKind.bits, BitVec.ofInt_natCast]
    rfl
  have h : (BitVec.ofNat 64 (bw f) &&& ~~~ BitVec.ofNat 64 (bw g)).toNat = bw (fun i => f i && !(g i)) := by
    apply Nat.eq_of_testBit_eq
    intro i
    rw [BitVec.testBit_toNat, BitVec.getLsbD_and, BitVec.getLsbD_not, BitVec.getLsbD_ofNat, BitVec.getLsbD_ofNat, bw_bit, bw_bit, bw_bit]
    cases decide (i < 64) <;> simp
  have := bw_lt (fun i => f i && !(g i))
  rw [e, h, IntKind.wrap_u64]
  omega
theorem it_ok (f g : Nat → Bool) (w : World) : Calls Tryd.prog 53 #[.int .u64 (bw f : Int), .int .u64 (bw g : Int)] w fun e w' => e = .returned (.int .u64 (bw (fun i => f i && g i) : Int)) ∧ w = w' := by
  have ho : bits .and .u64 (bw f : Int) (bw g : Int) = (bw (fun i => f i && g i) : Int) := by rw [bitsN _ _ (bw_lt _) (bw_lt _), bw_and]
  generalize (bw f : Int) = x at *
  generalize (bw g : Int) = y at *
  go_enter Tryd.func53, Tryd.ntmps53
  go_wp2
  go_ret
  exact ⟨rfl, rfl⟩
set_option maxHeartbeats 1000000 in
theorem both_it (b c n : Nat) (r s : Rn) (w : World) (hr : RelAt w b n r) (hs : RelAt w c n s) : Calls Tryd.prog 50 #[.pointer (some ⟨b, 0, none⟩), .pointer (some ⟨c, 0, none⟩), .func (.func 53) #[] #[]] w (BothTo w n (intR r s)) := by
  have HR := Lib.hid hr
  have HS := Lib.hid hs
  have QK := Lib.hid (intR_ok (s := s) hr.ok)
  have c0 := hr.n_c
  have d0 := hs.n_c
  have n64 : (n : Int) ≤ 64 := by have := hr.n64; omega
  have hne : ((n : Int) == (n : Int)) = true := by simp
  clear hr hs
  go_enter Tryd.func50, Tryd.ntmps50
  go_upto_region 1 with fail
  go_quiet (fail)
  go_wp2_with fail
  have F0 := Lib.hid ((Fr.drewN (Fr.refl Nil w) nq).alloc (.cells (Tryd.zeroCells68.setIfInBounds 0 (.int .i64 (n : Int))) 68))
  have R0 := Lib.hid (show RelAt ((w.drewN nq).alloc (.cells (Tryd.zeroCells68.setIfInBounds 0 (.int .i64 (n : Int))) 68)) w.heap.size n noR from ⟨by rw [rcs_zero]; exact Blk.new (w.drewN nq) 68 _, HR.out.n64, fun a c hh => by cases hh⟩)
  generalize ((w.drewN nq).alloc (.cells (Tryd.zeroCells68.setIfInBounds 0 (.int .i64 (n : Int))) 68)) = w0 at *
  obtain ⟨g, hg⟩ : ∃ g, g = w.heap.size := ⟨_, rfl⟩
  rw [← hg] at R0 ⊢
  have HG := Lib.hid (Nat.le_of_eq hg.symm)
  clear hg c0 d0
  go_loopw [25] (fun i wr => ∃ k : Nat, k ≤ 64 ∧ i = .int .i64 (k : Int) ∧ RelAt wr g n (firR (intR r s) k) ∧ Fr Nil w wr) (fun i _ => 64 - (intOf i).toNat)
  case atStart => exact ⟨0, by omega, rfl, by rw [firR_zero]; exact R0.out, F0.out⟩
  case round =>
    clear R0 F0
    obtain ⟨k, hk, rfl, hq, hf⟩ := hrel
    have HQ := Lib.hid hq
    have HF := Lib.hid hf
    clear hq hf
    by_cases hlt : k < 64
    · have HK := Lib.hid hlt
      have k64 : (k : Int) < 64 := by omega
      have c1 := (HR.out.fr0 HF.out).row_c hlt
      have c2 := (HS.out.fr0 HF.out).row_c hlt
      clear hk hlt
      go_upto_region 7 with fail
      go_still_tail 19, (by kernel_rfl)
      refine wpStill_step (fun K hK => ?_)
      go_simp
      refine ⟨_, (it_ok (r k) (s k) _).mono (fun e w' h => ⟨h.1, h.2.symm⟩), hK _ ?_⟩
      clear hK K
      repeat still_step
      refine wpStill_nil ?_
      change wpList _ _ _ _ _ wr.drew
      have HQd := Lib.hid (HQ.out.fr0 (Fr.refl Nil wr).drew)
      have HFd := Lib.hid HF.out.drew
      clear HQ HF c1 c2
      generalize wr.drew = wd at *
      have c1 := HQd.out.row_c HK.out
      have z1 := HQd.out.blk.frozen (1 + k)
      have e0 : firR (intR r s) k k = fun i => decide (k < k) && intR r s k i := rfl
      have R5 := Lib.hid (HQd.out.row_ (q := intR r s) HK.out (firR_next _ _) QK.out)
      have F5 := Lib.hid (HFd.out.setNew (g := g) (i := 1 + k) HG.out (.int .u64 (bw (intR r s k) : Int)))
      have e1 : bw (fun i => r k i && s k i) = bw (intR r s k) := rfl
      rw [e1]
      clear e0 e1
      go_wp2_with fail
      go_roundw
      case rel => exact ⟨k + 1, HK.out, by go_num, R5.out, F5.out⟩
      case measure => have := HK.out; simp [intOf]; omega
    · obtain rfl : k = 64 := by omega
      have E := firR_all QK.out HR.out.n64
      rw [E] at HQ
      clear hk hlt E
      go_wp2_with fail
      go_ret2
      exact ⟨g, rfl, HQ.out, HF.out, HG.out⟩
theorem inter_ok (b c n : Nat) (r s : Rn) (w : World) (hr : RelAt w b n r) (hs : RelAt w c n s) : Calls Tryd.prog 27 #[.pointer (some ⟨b, 0, none⟩), .pointer (some ⟨c, 0, none⟩)] w (BothTo w n (intR r s)) := by
  have B := Lib.hid (both_it b c n r s w hr hs)
  clear hr hs
  go_enter Tryd.func27, Tryd.ntmps27
  go_wp2_with (go_at_call 50; refine B.out.mono ?_; rintro e w2 ⟨g, rfl, h2, f2, h3⟩; have H2 := Lib.hid h2; have F2 := Lib.hid f2; have H3 := Lib.hid h3; clear h2 f2 h3)
  go_ret2
  exact ⟨g, rfl, H2.out, F2.out, H3.out⟩
theorem mi_ok (f g : Nat → Bool) (w : World) : Calls Tryd.prog 54 #[.int .u64 (bw f : Int), .int .u64 (bw g : Int)] w fun e w' => e = .returned (.int .u64 (bw (fun i => f i && !(g i)) : Int)) ∧ w = w' := by
  have ho : bits .andNot .u64 (bw f : Int) (bw g : Int) = (bw (fun i => f i && !(g i)) : Int) := by rw [anotN]
  generalize (bw f : Int) = x at *
  generalize (bw g : Int) = y at *
  go_enter Tryd.func54, Tryd.ntmps54
  go_wp2
  go_ret
  exact ⟨rfl, rfl⟩
set_option maxHeartbeats 1000000 in
theorem both_mi (b c n : Nat) (r s : Rn) (w : World) (hr : RelAt w b n r) (hs : RelAt w c n s) : Calls Tryd.prog 50 #[.pointer (some ⟨b, 0, none⟩), .pointer (some ⟨c, 0, none⟩), .func (.func 54) #[] #[]] w (BothTo w n (minR r s)) := by
  have HR := Lib.hid hr
  have HS := Lib.hid hs
  have QK := Lib.hid (minR_ok (s := s) hr.ok)
  have c0 := hr.n_c
  have d0 := hs.n_c
  have n64 : (n : Int) ≤ 64 := by have := hr.n64; omega
  have hne : ((n : Int) == (n : Int)) = true := by simp
  clear hr hs
  go_enter Tryd.func50, Tryd.ntmps50
  go_upto_region 1 with fail
  go_quiet (fail)
  go_wp2_with fail
  have F0 := Lib.hid ((Fr.drewN (Fr.refl Nil w) nq).alloc (.cells (Tryd.zeroCells68.setIfInBounds 0 (.int .i64 (n : Int))) 68))
  have R0 := Lib.hid (show RelAt ((w.drewN nq).alloc (.cells (Tryd.zeroCells68.setIfInBounds 0 (.int .i64 (n : Int))) 68)) w.heap.size n noR from ⟨by rw [rcs_zero]; exact Blk.new (w.drewN nq) 68 _, HR.out.n64, fun a c hh => by cases hh⟩)
  generalize ((w.drewN nq).alloc (.cells (Tryd.zeroCells68.setIfInBounds 0 (.int .i64 (n : Int))) 68)) = w0 at *
  obtain ⟨g, hg⟩ : ∃ g, g = w.heap.size := ⟨_, rfl⟩
  rw [← hg] at R0 ⊢
  have HG := Lib.hid (Nat.le_of_eq hg.symm)
  clear hg c0 d0
  go_loopw [25] (fun i wr => ∃ k : Nat, k ≤ 64 ∧ i = .int .i64 (k : Int) ∧ RelAt wr g n (firR (minR r s) k) ∧ Fr Nil w wr) (fun i _ => 64 - (intOf i).toNat)
  case atStart => exact ⟨0, by omega, rfl, by rw [firR_zero]; exact R0.out, F0.out⟩
  case round =>
    clear R0 F0
    obtain ⟨k, hk, rfl, hq, hf⟩ := hrel
    have HQ := Lib.hid hq
    have HF := Lib.hid hf
    clear hq hf
    by_cases hlt : k < 64
    · have HK := Lib.hid hlt
      have k64 : (k : Int) < 64 := by omega
      have c1 := (HR.out.fr0 HF.out).row_c hlt
      have c2 := (HS.out.fr0 HF.out).row_c hlt
      clear hk hlt
      go_upto_region 7 with fail
      go_still_tail 19, (by kernel_rfl)
      refine wpStill_step (fun K hK => ?_)
      go_simp
      refine ⟨_, (mi_ok (r k) (s k) _).mono (fun e w' h => ⟨h.1, h.2.symm⟩), hK _ ?_⟩
      clear hK K
      repeat still_step
      refine wpStill_nil ?_
      change wpList _ _ _ _ _ wr.drew
      have HQd := Lib.hid (HQ.out.fr0 (Fr.refl Nil wr).drew)
      have HFd := Lib.hid HF.out.drew
      clear HQ HF c1 c2
      generalize wr.drew = wd at *
      have c1 := HQd.out.row_c HK.out
      have z1 := HQd.out.blk.frozen (1 + k)
      have e0 : firR (minR r s) k k = fun i => decide (k < k) && minR r s k i := rfl
      have R5 := Lib.hid (HQd.out.row_ (q := minR r s) HK.out (firR_next _ _) QK.out)
      have F5 := Lib.hid (HFd.out.setNew (g := g) (i := 1 + k) HG.out (.int .u64 (bw (minR r s k) : Int)))
      have e1 : bw (fun i => r k i && !(s k i)) = bw (minR r s k) := rfl
      rw [e1]
      clear e0 e1
      go_wp2_with fail
      go_roundw
      case rel => exact ⟨k + 1, HK.out, by go_num, R5.out, F5.out⟩
      case measure => have := HK.out; simp [intOf]; omega
    · obtain rfl : k = 64 := by omega
      have E := firR_all QK.out HR.out.n64
      rw [E] at HQ
      clear hk hlt E
      go_wp2_with fail
      go_ret2
      exact ⟨g, rfl, HQ.out, HF.out, HG.out⟩
theorem minus_ok (b c n : Nat) (r s : Rn) (w : World) (hr : RelAt w b n r) (hs : RelAt w c n s) : Calls Tryd.prog 28 #[.pointer (some ⟨b, 0, none⟩), .pointer (some ⟨c, 0, none⟩)] w (BothTo w n (minR r s)) := by
  have B := Lib.hid (both_mi b c n r s w hr hs)
  clear hr hs
  go_enter Tryd.func28, Tryd.ntmps28
  go_wp2_with (go_at_call 50; refine B.out.mono ?_; rintro e w2 ⟨g, rfl, h2, f2, h3⟩; have H2 := Lib.hid h2; have F2 := Lib.hid f2; have H3 := Lib.hid h3; clear h2 f2 h3)
  go_ret2
  exact ⟨g, rfl, H2.out, F2.out, H3.out⟩
end Go.Proofs.YtpcpjmbfinpmlaaDoor

