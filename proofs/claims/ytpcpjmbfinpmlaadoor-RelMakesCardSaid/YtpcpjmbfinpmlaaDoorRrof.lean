/- The document's Of; Of where the size is none. -/
import Derived.Test.YtpcpjmbfinpmlaaDoorSgl
set_option linter.unusedSimpArgs false
set_option linter.unusedVariables false
set_option linter.unusedSectionVars false
namespace Go.Proofs.YtpcpjmbfinpmlaaDoor
open Go.RowKit
set_option maxRecDepth 100000

theorem ofS_stop (n : Nat) (P : Nat → Int × Int) {k : Nat} (h : (ofS n P k).2 = false) : ∀ m, k ≤ m → ofS n P m = ofS n P k
  | 0, hm => by rw [show k = 0 by omega]
  | m + 1, hm => by
    by_cases e : k = m + 1
    · rw [e]
    · have ih := ofS_stop n P h m (by omega)
      conv => lhs; unfold ofS
      rw [ih, h]
      rfl
def RofTo (w : World) (n : Nat) (s : Rn × Bool) (e : Ending) (w' : World) : Prop :=
  (if s.2 = true then ∃ b, e = .returned (.tuple #[.pointer (some ⟨b, 0, none⟩), .int .i64 0]) ∧ RefAt w' b n s.1 ∧ w.heap.size ≤ b else e = .returned (.tuple #[.pointer none, .int .i64 1])) ∧ Fr Nil w w'
theorem rof_bad (z : Int) (a0 : Option Addr) (len cap : Nat) (w : World) (hz : z < 0 ∨ 64 < z) (hl : (len : Int) ≤ 9223372036854775807) : Calls Tryd.prog 11 #[.int .i64 z, .slice a0 len cap] w fun e w' => e = .returned (.tuple #[.pointer none, .int .i64 (if z < 0 then 1 else 5)]) ∧ w = w' := by
  have RB := Lib.hid (rnew_bad z w hz)
  have C := Lib.hid (show (if z < 0 then (1 : Int) else 5) = 1 ∨ (if z < 0 then (1 : Int) else 5) = 5 by split; exact .inl rfl; exact .inr rfl)
  generalize (if z < 0 then (1 : Int) else 5) = ec at *
  clear hz
  have q0 : (ec == 0) = false := by rcases C.out with e | e <;> subst e <;> rfl
  have q1 : (ec != 0) = true := by rcases C.out with e | e <;> subst e <;> rfl
  clear C
  go_enter Tryd.func11, Tryd.ntmps11
  go_wp2_with fail
  refine RB.out.mono ?_
  rintro e w2 ⟨rfl, rfl⟩
  go_wp2_with fail
  go_loop [7, 8] (fun ev i => ev = .int .i64 ec ∧ i = .int .i64 0) (fun _ _ => 0)
  case atStart => exact ⟨rfl, rfl⟩
  case round =>
    obtain ⟨rfl, rfl⟩ := hrel
    by_cases h : len = 0
    · subst h
      go_wp2_with fail
      go_ret2
      exact ⟨rfl, rfl⟩
    · have h1 : 0 < len := by omega
      have h2 : (0 : Int) < (len : Int) := by omega
      clear h
      go_wp2_with fail
      go_ret2
      exact ⟨rfl, rfl⟩
theorem of_bad (z : Int) (a0 : Option Addr) (len cap : Nat) (P : Nat → Int × Int) (w : World) (hz : z < 0 ∨ 64 < z) (hP : Prs w a0 len P) (hl : (len : Int) ≤ 9223372036854775807) : Calls Tryd.prog 12 #[.int .i64 z, .slice a0 len cap] w fun e w' => e = .returned (.tuple #[.pointer none, .int .i64 (if z < 0 then 1 else 5)]) ∧ Fr Nil w w' := by
  have NB := Lib.hid (new_bad z w hz)
  have HP := Lib.hid hP
  have C := Lib.hid (show (if z < 0 then (1 : Int) else 5) = 1 ∨ (if z < 0 then (1 : Int) else 5) = 5 by split; exact .inl rfl; exact .inr rfl)
  generalize (if z < 0 then (1 : Int) else 5) = ec at *
  clear hz hP
  have q0 : (ec == 0) = false := by rcases C.out with e | e <;> subst e <;> rfl
  have q1 : (ec != 0) = true := by rcases C.out with e | e <;> subst e <;> rfl
  clear C
  go_enter Tryd.func12, Tryd.ntmps12
  go_wp2_with fail
  refine NB.out.mono ?_
  rintro e w2 ⟨rfl, rfl⟩
  go_wp2_with fail
  go_loopw [7, 17] (fun ev i wr => ∃ k : Nat, k ≤ len ∧ i = .int .i64 (k : Int) ∧ ev = .int .i64 ec ∧ Fr Nil w wr) (fun _ i _ => len - (intOf i).toNat)
  case atStart => exact ⟨0, Nat.zero_le _, rfl, rfl, Fr.refl _ _⟩
  case round =>
    obtain ⟨k, hk, rfl, rfl, hF⟩ := hrel
    have HF := Lib.hid hF
    clear hF
    by_cases hlt : k < len
    · have HK := Lib.hid hlt
      have kn : (k : Int) < (len : Int) := by omega
      obtain ⟨b, off, hab, hb, h0, h1⟩ := HP.out.fr0 HF.out k hlt
      subst hab
      have F3 := Lib.hid (HF.out.alloc (.cells #[.int .i64 (P k).1, .int .i64 (P k).2] 60))
      clear hk hlt hb HF
      go_upto_region 5 with fail
      clear h0 h1
      generalize (wr.alloc (.cells #[.int .i64 (P k).1, .int .i64 (P k).2] 60)) = w3 at *
      go_wp2_with fail
      go_roundw
      case rel => exact ⟨k + 1, HK.out, by go_num, rfl, F3.out⟩
      case measure => have := HK.out; simp [intOf]; omega
    · obtain rfl : k = len := by omega
      have l1 : decide (k < k) = false := by simp
      clear hk hlt
      go_wp2_with fail
      go_ret2
      exact ⟨rfl, HF.out⟩
set_option maxHeartbeats 1000000 in
theorem rof_ok (n : Nat) (a0 : Option Addr) (len cap : Nat) (P : Nat → Int × Int) (w : World) (hn : n ≤ 64) (hP : Prs w a0 len P) (hl : (len : Int) ≤ 9223372036854775807) : Calls Tryd.prog 11 #[.int .i64 (n : Int), .slice a0 len cap] w (RofTo w n (ofS n P len)) := by
  have NW := Lib.hid (rnew_ok n w hn)
  have HP := Lib.hid hP
  clear hn hP
  go_enter Tryd.func11, Tryd.ntmps11
  go_wp2_with fail
  refine NW.out.mono ?_
  rintro e w2 ⟨g, rfl, h2, f2, hg⟩
  have R2 := Lib.hid h2
  have F2 := Lib.hid f2
  have HG := Lib.hid hg
  clear h2 f2 hg NW
  go_wp2_with fail
  go_loopw [7, 8] (fun ev i wr => ∃ k : Nat, k ≤ len ∧ i = .int .i64 (k : Int) ∧ ev = .int .i64 (code (ofS n P k).2) ∧ RefAt wr g n (ofS n P k).1 ∧ Fr Nil w wr) (fun _ i _ => len - (intOf i).toNat)
  case atStart => exact ⟨0, Nat.zero_le _, rfl, rfl, R2.out, F2.out⟩
  case round =>
    obtain ⟨k, hk, rfl, rfl, hR, hF⟩ := hrel
    clear R2 F2
    have HR := Lib.hid hR
    have HF := Lib.hid hF
    clear hR hF
    by_cases hlt : k < len
    · have HK := Lib.hid hlt
      have kn : (k : Int) < (len : Int) := by omega
      cases hok : (ofS n P k).2
      · have E := Lib.hid (ofS_stop n P hok len hk)
        have HOK := Lib.hid hok
        have e1 : code false = 1 := rfl
        rw [e1]
        clear hok hk hlt
        go_wp2_with fail
        go_ret2
        unfold RofTo
        rw [E.out, HOK.out]
        exact ⟨rfl, HF.out⟩
      · obtain ⟨b, off, hab, hb, h0, h1⟩ := HP.out.fr0 HF.out k hlt
        subst hab
        have E := Lib.hid (show ofS n P (k + 1) = (putR n (ofS n P k).1 (P k), inP n (P k)) by
          conv => lhs; unfold ofS
          rw [hok]
          unfold putR
          cases inP n (P k) <;> rfl)
        have PT := Lib.hid (rput_ok g n (ofS n P k).1 (P k).1 (P k).2 wr.drew (HR.out.fr0 (Fr.refl Nil wr).drew))
        have h0' : wr.drew.cell? _ = _ := h0
        have h1' : wr.drew.cell? _ = _ := h1
        have F3 := Lib.hid HF.out.drew
        have e1 : code true = 0 := rfl
        rw [e1]
        clear hok hk hlt hb HR HF
        go_upto_region 5 with fail
        refine wp_region_still_tail 11 (by kernel_rfl) (by kernel_rfl) ?_
        simp only [List.take_succ_cons, List.take_zero, List.drop_succ_cons, List.drop_zero]
        refine SG.out ?_
        iterate 11 (refine SG.step (fun K hK => ?_); go_simp; refine hK _ ?_; clear hK K)
        refine SG.nil ?_
        change wpList _ _ _ _ _ wr.drew
        clear h0 h1 h0' h1'
        generalize wr.drew = w4 at *
        go_wp2_with (go_at_call 41; refine PT.out.mono ?_; rintro e w5 ⟨rfl, h4, f4⟩; have R4 := Lib.hid h4; have F4 := Lib.hid (F3.out.own1 f4 HG.out); clear h4 f4)
        go_roundw
        case rel => exact ⟨k + 1, HK.out, by go_num, by rw [E.out], by rw [E.out]; exact R4.out, F4.out⟩
        case measure => have := HK.out; simp [intOf]; omega
    · obtain rfl : k = len := by omega
      have l1 : decide (k < k) = false := by simp
      clear hk hlt
      cases hok : (ofS n P k).2
      · have HOK := Lib.hid hok
        have e1 : code false = 1 := rfl
        rw [e1]
        clear hok
        go_wp2_with fail
        go_ret2
        unfold RofTo
        rw [HOK.out]
        exact ⟨rfl, HF.out⟩
      · have HOK := Lib.hid hok
        have e1 : code true = 0 := rfl
        rw [e1]
        clear hok
        go_wp2_with fail
        go_ret2
        unfold RofTo
        rw [HOK.out]
        exact ⟨⟨g, rfl, HR.out, HG.out⟩, HF.out⟩
end Go.Proofs.YtpcpjmbfinpmlaaDoor
