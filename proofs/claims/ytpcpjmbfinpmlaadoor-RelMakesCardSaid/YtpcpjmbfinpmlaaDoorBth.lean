/- Two relations together: Union. -/
import Derived.Test.YtpcpjmbfinpmlaaDoorRof
import Derived.StillTailTactics
import Derived.Deep.RegionHeld3
set_option linter.unusedSimpArgs false
set_option linter.unusedVariables false
set_option linter.unusedSectionVars false
namespace Go.Proofs.YtpcpjmbfinpmlaaDoor
open Go.RowKit
set_option maxRecDepth 100000

def uniR (r s : Rn) : Rn := fun a c => r a c || s a c
/-- The first k rows of one, the others empty. -/
def firR (q : Rn) (k : Nat) : Rn := fun a c => decide (a < k) && q a c
theorem firR_next (q : Rn) (k : Nat) : upd (firR q k) k (q k) = firR q (k + 1) := by
  funext a c
  unfold upd firR
  by_cases e : a = k
  · subst e; simp
  · have : decide (a < k + 1) = decide (a < k) := by simp; omega
    rw [if_neg e, this]
theorem firR_zero (q : Rn) : firR q 0 = noR := by funext a c; simp [firR, noR]
theorem firR_all {q : Rn} {n : Nat} (h : ∀ a c, q a c = true → a < n ∧ c < n) (h64 : n ≤ 64) : firR q 64 = q := by
  funext a c
  unfold firR
  cases hq : q a c
  · simp
  · have := (h a c hq).1
    simp; omega
theorem uniR_ok {n : Nat} {r s : Rn} (hr : ∀ a c, r a c = true → a < n ∧ c < n) (hs : ∀ a c, s a c = true → a < n ∧ c < n) (a c : Nat) (h : uniR r s a c = true) : a < n ∧ c < n := by
  unfold uniR at h
  rw [Bool.or_eq_true] at h
  rcases h with h | h
  · exact hr a c h
  · exact hs a c h
/-- Rows may be stored even behind the last thing, as long as they are empty there. -/
theorem RelAt.row_ {w : World} {b n : Nat} {r q : Rn} {k : Nat} (h : RelAt w b n r) (hk : k < 64) (e : upd r k (q k) = firR q (k + 1)) (hq : ∀ a c, q a c = true → a < n ∧ c < n) : RelAt (w.setCell ⟨b, 1 + k, none⟩ (.int .u64 (bw (q k) : Int))) b n (firR q (k + 1)) :=
  ⟨by have := blk_list h.blk (rcs_set n r hk (q k)); rwa [e] at this, h.n64, fun a c hh => by
    unfold firR at hh
    rw [Bool.and_eq_true] at hh
    exact hq a c hh.2⟩
theorem un_ok (f g : Nat → Bool) (w : World) : Calls Tryd.prog 52 #[.int .u64 (bw f : Int), .int .u64 (bw g : Int)] w fun e w' => e = .returned (.int .u64 (bw (fun i => f i || g i) : Int)) ∧ w = w' := by
  have ho : bits .or .u64 (bw f : Int) (bw g : Int) = (bw (fun i => f i || g i) : Int) := by rw [orN _ _ (bw_lt _) (bw_lt _), bw_or]
  generalize (bw f : Int) = x at *
  generalize (bw g : Int) = y at *
  go_enter Tryd.func52, Tryd.ntmps52
  go_wp2
  go_ret
  exact ⟨rfl, rfl⟩
def BothTo (w : World) (n : Nat) (q : Rn) (e : Ending) (w' : World) : Prop := ∃ b, e = .returned (.tuple #[.pointer (some ⟨b, 0, none⟩), .int .i64 0]) ∧ RelAt w' b n q ∧ Fr Nil w w' ∧ w.heap.size ≤ b
set_option maxHeartbeats 1000000 in
theorem both_un (b c n : Nat) (r s : Rn) (w : World) (hr : RelAt w b n r) (hs : RelAt w c n s) : Calls Tryd.prog 50 #[.pointer (some ⟨b, 0, none⟩), .pointer (some ⟨c, 0, none⟩), .func (.func 52) #[] #[]] w (BothTo w n (uniR r s)) := by
  have HR := Lib.hid hr
  have HS := Lib.hid hs
  have QK := Lib.hid (uniR_ok hr.ok hs.ok)
  have c0 := hr.n_c
  have d0 := hs.n_c
  have n64 : (n : Int) ≤ 64 := by have := hr.n64; omega
  have hne : ((n : Int) == (n : Int)) = true := by simp
  clear hr hs
  go_enter Tryd.func50, Tryd.ntmps50
  go_upto_region 1 with fail
  go_quiet (fail)
  go_wp2_with fail
  have F0 := Lib.hid ((Fr.drewN (Fr.refl Nil w) nq).alloc (.cells (Tryd.zeroCells68.setIfInBounds 0 (.int .i64 (n : Int))) 68))
  have R0 := Lib.hid (show RelAt ((w.drewN nq).alloc (.cells (Tryd.zeroCells68.setIfInBounds 0 (.int .i64 (n : Int))) 68)) w.heap.size n noR from ⟨by rw [rcs_zero]; exact Blk.new (w.drewN nq) 68 _, HR.out.n64, fun a c hh => by cases hh⟩)
  generalize ((w.drewN nq).alloc (.cells (Tryd.zeroCells68.setIfInBounds 0 (.int .i64 (n : Int))) 68)) = w0 at *
  obtain ⟨g, hg⟩ : ∃ g, g = w.heap.size := ⟨_, rfl⟩
  rw [← hg] at R0 ⊢
  have HG := Lib.hid (Nat.le_of_eq hg.symm)
  clear hg c0 d0
  go_loopw [25] (fun i wr => ∃ k : Nat, k ≤ 64 ∧ i = .int .i64 (k : Int) ∧ RelAt wr g n (firR (uniR r s) k) ∧ Fr Nil w wr) (fun i _ => 64 - (intOf i).toNat)
  case atStart => exact ⟨0, by omega, rfl, by rw [firR_zero]; exact R0.out, F0.out⟩
  case round =>
    clear R0 F0
    obtain ⟨k, hk, rfl, hq, hf⟩ := hrel
    have HQ := Lib.hid hq
    have HF := Lib.hid hf
    clear hq hf
    by_cases hlt : k < 64
    · have HK := Lib.hid hlt
      have k64 : (k : Int) < 64 := by omega
      have c1 := (HR.out.fr0 HF.out).row_c hlt
      have c2 := (HS.out.fr0 HF.out).row_c hlt
      clear hk hlt
      go_upto_region 7 with fail
      go_still_tail 19, (by kernel_rfl)
      refine wpStill_step (fun K hK => ?_)
      go_simp
      refine ⟨_, (un_ok (r k) (s k) _).mono (fun e w' h => ⟨h.1, h.2.symm⟩), hK _ ?_⟩
      clear hK K
      repeat still_step
      refine wpStill_nil ?_
      change wpList _ _ _ _ _ wr.drew
      have HQd := Lib.hid (HQ.out.fr0 (Fr.refl Nil wr).drew)
      have HFd := Lib.hid HF.out.drew
      clear HQ HF c1 c2
      generalize wr.drew = wd at *
      have c1 := HQd.out.row_c HK.out
      have z1 := HQd.out.blk.frozen (1 + k)
      have e0 : firR (uniR r s) k k = fun i => decide (k < k) && uniR r s k i := rfl
      have R5 := Lib.hid (HQd.out.row_ (q := uniR r s) HK.out (firR_next _ _) QK.out)
      have F5 := Lib.hid (HFd.out.setNew (g := g) (i := 1 + k) HG.out (.int .u64 (bw (uniR r s k) : Int)))
      have e1 : bw (fun i => r k i || s k i) = bw (uniR r s k) := rfl
      rw [e1]
      clear e0 e1
      go_wp2_with fail
      go_roundw
      case rel => exact ⟨k + 1, HK.out, by go_num, R5.out, F5.out⟩
      case measure => have := HK.out; simp [intOf]; omega
    · obtain rfl : k = 64 := by omega
      have E := firR_all QK.out HR.out.n64
      rw [E] at HQ
      clear hk hlt E
      go_wp2_with fail
      go_ret2
      exact ⟨g, rfl, HQ.out, HF.out, HG.out⟩
theorem union_ok (b c n : Nat) (r s : Rn) (w : World) (hr : RelAt w b n r) (hs : RelAt w c n s) : Calls Tryd.prog 23 #[.pointer (some ⟨b, 0, none⟩), .pointer (some ⟨c, 0, none⟩)] w (BothTo w n (uniR r s)) := by
  have B := Lib.hid (both_un b c n r s w hr hs)
  clear hr hs
  go_enter Tryd.func23, Tryd.ntmps23
  go_wp2_with (go_at_call 50; refine B.out.mono ?_; rintro e w2 ⟨g, rfl, h2, f2, h3⟩; have H2 := Lib.hid h2; have F2 := Lib.hid f2; have H3 := Lib.hid h3; clear h2 f2 h3)
  go_ret2
  exact ⟨g, rfl, H2.out, F2.out, H3.out⟩
end Go.Proofs.YtpcpjmbfinpmlaaDoor
