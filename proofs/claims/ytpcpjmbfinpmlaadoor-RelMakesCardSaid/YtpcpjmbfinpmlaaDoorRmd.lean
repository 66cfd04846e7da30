/- A relation made both ways: the walk. -/
import Derived.Test.YtpcpjmbfinpmlaaDoorRrf
import Derived.StillTailTactics
import Derived.Deep.RegionHeld3
set_option linter.unusedSimpArgs false
set_option linter.unusedVariables false
set_option linter.unusedSectionVars false
namespace Go.Proofs.YtpcpjmbfinpmlaaDoor
open Go.RowKit
set_option maxRecDepth 100000

theorem code_eq (b : Bool) : (code b != code b) = false := by cases b <;> rfl
set_option maxHeartbeats 2000000 in
theorem made_ok (z : Int) (a0 : Option Addr) (len cap : Nat) (P : Nat → Int × Int) (w : World) (hP : Prs w a0 len P) (hl : (len : Int) ≤ 9223372036854775807) : Calls Tryd.prog 8 #[.int .i64 z, .slice a0 len cap] w (MadeTo w z P len) := by
  by_cases hz : z < 0 ∨ 64 < z
  · have RB := Lib.hid (rnew_bad z w hz)
    have NB := Lib.hid (new_bad z w hz)
    have HZ := Lib.hid hz
    have C := Lib.hid (show (if z < 0 then (1 : Int) else 5) = 1 ∨ (if z < 0 then (1 : Int) else 5) = 5 by split; exact .inl rfl; exact .inr rfl)
    generalize (if z < 0 then (1 : Int) else 5) = ec at *
    clear hz hP
    rcases C.out with e | e
    all_goals
      subst e
      go_enter Tryd.func8, Tryd.ntmps8
      go_wp2_with fail
      refine RB.out.mono ?_
      rintro e w2 ⟨rfl, rfl⟩
      go_wp2_with fail
      refine NB.out.mono ?_
      rintro e w2 ⟨rfl, rfl⟩
      go_wp2_with fail
      go_ret3
      exact .inl ⟨HZ.out, rfl, rfl⟩
  · obtain ⟨n, rfl⟩ : ∃ n : Nat, z = (n : Int) := ⟨z.toNat, by omega⟩
    have hn : n ≤ 64 := by omega
    have HN := Lib.hid hn
    have HP := Lib.hid hP
    clear hz hP hn
    go_enter Tryd.func8, Tryd.ntmps8
    go_wp2_with fail
    refine (rnew_ok n w HN.out).mono ?_
    rintro e w2 ⟨bx, rfl, x2, f2, g2⟩
    have X2 := Lib.hid x2
    have F2 := Lib.hid f2
    have GX := Lib.hid g2
    clear x2 f2 g2
    go_wp2_with fail
    refine (new_ok n w2 HN.out).mono ?_
    rintro e w3 ⟨br, rfl, r3, f3, g3⟩
    have R3 := Lib.hid r3
    have X3 := Lib.hid (X2.out.fr0 f3)
    have F3 := Lib.hid (F2.out.trans f3)
    have GR := Lib.hid (show w.heap.size ≤ br by have := F2.out.size; omega)
    have NE := Lib.hid (show br ≠ bx by have := X2.out.blk.lt; omega)
    clear r3 f3 g3 X2 F2
    go_wp2_with fail
    go_loopw [8, 11] (fun ev i wr => ∃ (k : Nat) (x : Int), k ≤ len ∧ k ≤ 5000 ∧ i = .int .i64 (k : Int) ∧ ev = .int .i64 x ∧ RelAt wr br n (mdR n P k) ∧ RefAt wr bx n (mdR n P k) ∧ Fr Nil w wr) (fun _ i _ => 5000 - (intOf i).toNat)
    case atStart => exact ⟨0, 0, Nat.zero_le _, by omega, rfl, rfl, R3.out, X3.out, F3.out⟩
    case round =>
      obtain ⟨k, ev, hk, hk2, rfl, rfl, hr, hx, hf⟩ := hrel
      clear R3 X3 F3
      have HR := Lib.hid hr
      have HX := Lib.hid hx
      have HF := Lib.hid hf
      have HK := Lib.hid (And.intro hk hk2)
      clear hr hx hf hk hk2
      by_cases hlt : k < len
      · by_cases h5 : k < 5000
        · obtain ⟨b, off, hab, hb, h0, h1⟩ := HP.out.fr0 HF.out k hlt
          subst hab
          have n1 : (k : Int) < (len : Int) := by omega
          have n2 : (k : Int) < 5000 := by omega
          have KL := Lib.hid (And.intro hlt h5)
          have MD : Hid (mdR n P (k + 1) = putR n (mdR n P k) (P k)) := Lib.hid rfl
          have HBB := Lib.hid hb
          have HQ : Hid (∀ W, Fr Nil w W → W.cell? ⟨b, off + k * 2, none⟩ = some (.int .i64 (P k).1) ∧ W.cell? ⟨b, off + k * 2 + 1, none⟩ = some (.int .i64 (P k).2) ∧ Fr Nil w W) := Lib.hid fun W hW => by
            obtain ⟨b', off', hab', -, h0', h1'⟩ := HP.out.fr0 hW k KL.out.1
            cases hab'
            exact ⟨h0', h1', hW⟩
          clear hlt h5 hb
          go_upto_region 10 with fail
          go_still_tail 11, (by kernel_rfl)
          change wpList _ _ _ _ _ wr.drew
          have PX := Lib.hid (rput_ok bx n (mdR n P k) (P k).1 (P k).2 wr.drew (HX.out.fr0 (Fr.refl Nil wr).drew))
          clear h0 h1
          go_wp2_with fail
          refine PX.out.mono ?_
          rintro e w4 ⟨rfl, x4, f4⟩
          have F4 := Lib.hid (HF.out.drew.own1 f4 GX.out)
          have X4 := Lib.hid (show RefAt w4 bx n (mdR n P (k + 1)) from x4)
          have R4 := Lib.hid ((HR.out.fr0 (Fr.refl Nil wr).drew).fr f4 (fun e => NE.out e))
          clear x4 f4 PX
          go_upto_region 11 with fail
          obtain ⟨h0', h1', -⟩ := HQ.out w4 F4.out
          go_region_held3 (fun w' => w'.cell? ⟨b, off + k * 2, none⟩ = some (.int .i64 (P k).1) ∧ w'.cell? ⟨b, off + k * 2 + 1, none⟩ = some (.int .i64 (P k).2) ∧ Fr Nil w w') (first | exact HQ.out _ F4.out.drew | exact HQ.out _ G5) (first | (go_at_call 42; refine (put_ok br n (mdR n P k) (P k).1 (P k).2 _ (R4.out.fr0 (Fr.refl Nil _).drew)).mono ?_; rintro e w5 ⟨rfl, r5, f5⟩; have G5 := F4.out.drew.own1 f5 GR.out) | fail)
          have F5 := Lib.hid G5
          have R5 := Lib.hid (show RelAt w5 br n (mdR n P (k + 1)) from r5)
          have X5 := Lib.hid ((X4.out.fr0 (Fr.refl Nil w4).drew).fr f5 (fun e => NE.out e.symm))
          have CE := code_eq (inP n ((P k).1, (P k).2))
          clear r5 f5 R4 X4 F4 G5 h0' h1'
          generalize code (inP n ((P k).1, (P k).2)) = cd at *
          go_wp2_with fail
          go_roundw
          case rel => exact ⟨k + 1, cd, by have := KL.out; omega, by have := KL.out; omega, by go_num, rfl, R5.out, X5.out, F5.out⟩
          case measure => have := KL.out; simp [intOf]; omega
        · have l1 : decide ((k : Int) < (len : Int)) = true := by simp; omega
          have l2 : decide ((k : Int) < 5000) = false := by simp; omega
          have l3 : decide (k < len) = true := by simp; omega
          have l4 : decide (k < 5000) = false := by simp; omega
          have KE := Lib.hid (show min len 5000 = k by have := HK.out; omega)
          clear hlt h5
          clear HP
          go_wp2_with fail
          go_ret3
          exact .inr ⟨n, br, bx, rfl, HN.out, rfl, by rw [KE.out]; exact HR.out, by rw [KE.out]; exact HX.out, HF.out, GR.out, GX.out⟩
      · have l1 : decide ((k : Int) < (len : Int)) = false := by simp; omega
        have l3 : decide (k < len) = false := by simp; omega
        have KE := Lib.hid (show min len 5000 = k by have := HK.out; omega)
        clear hlt
        clear HP
        go_wp2_with fail
        go_ret3
        exact .inr ⟨n, br, bx, rfl, HN.out, rfl, by rw [KE.out]; exact HR.out, by rw [KE.out]; exact HX.out, HF.out, GR.out, GX.out⟩
end Go.Proofs.YtpcpjmbfinpmlaaDoor
