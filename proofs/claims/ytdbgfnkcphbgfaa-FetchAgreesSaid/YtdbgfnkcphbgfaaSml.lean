/- Chapter 15: the small functions of the statements. -/
import Derived.Test.YtdbgfnkcphbgfaaMay
namespace Go.Proofs.Ytdbgfnkcphbgfaa
open Go.RowKit
set_option linter.unusedVariables false

set_option maxHeartbeats 1000000 in
theorem ic_ok (a : Int) (w : World) : Calls Try.prog 8 #[.int .u64 a] w fun e w' => e = .returned (nv ⟨2, 0, a, 0⟩) ∧ Fr Nil w w' := by
  go_enter Try.func8, Try.ntmps8
  go_wp2
  exact bodyPost_ret (v := nv ⟨2, 0, a, 0⟩) (by simp [results, Try.results8, go_sem, nv]) rfl ⟨rfl, by repeat (first | exact (Fr.refl Nil w).alloc _ | refine Fr.setNew ?_ (Nat.le_refl _) _)⟩
set_option maxHeartbeats 1000000 in
theorem write_ok (a x : Int) (w : World) : Calls Try.prog 9 #[.int .u64 a, .int .u32 x] w fun e w' => e = .returned (nv ⟨1, 0, a, x⟩) ∧ Fr Nil w w' := by
  go_enter Try.func9, Try.ntmps9
  go_wp2
  exact bodyPost_ret (v := nv ⟨1, 0, a, x⟩) (by simp [results, Try.results9, go_sem, nv]) rfl ⟨rfl, by repeat (first | exact (Fr.refl Nil w).alloc _ | refine Fr.setNew ?_ (Nat.le_refl _) _)⟩
set_option maxHeartbeats 1000000 in
theorem isb_ok (c : Int) (w : World) : Calls Try.prog 10 #[.int .i64 c] w fun e w' => e = .returned (nv ⟨4, c, 0, 0⟩) ∧ Fr Nil w w' := by
  go_enter Try.func10, Try.ntmps10
  go_wp2
  exact bodyPost_ret (v := nv ⟨4, c, 0, 0⟩) (by simp [results, Try.results10, go_sem, nv]) rfl ⟨rfl, by repeat (first | exact (Fr.refl Nil w).alloc _ | refine Fr.setNew ?_ (Nat.le_refl _) _)⟩
theorem seven_ok (a : Int) (w : World) : Calls Try.prog 15 #[.int .u64 a] w fun e w' => e = .returned (.int .u32 7) ∧ w = w' := by
  go_enter Try.func15, Try.ntmps15
  go_wp2
  go_ret
  exact ⟨rfl, rfl⟩
theorem none_ok (a x : Int) (b : Nat) (w : World) (hb : w.cell? ⟨b, 0, none⟩ = some (.int .u32 x)) : Calls Try.prog 13 #[.int .u64 a, .pointer (some ⟨b, 0, none⟩)] w fun e w' => e = .returned (.int .u32 x) ∧ w = w' := by
  go_enter Try.func13, Try.ntmps13
  go_wp2
  go_ret
  exact ⟨rfl, rfl⟩
set_option maxHeartbeats 1000000 in
theorem in_ok (l : List Int) (x : Int) (a : Option Addr) (cap : Nat) (w : World) (hl : l.length ≤ maxLen) (hc : l.length ≤ cap) (hm : Wds w a l) :
    Calls Try.prog 11 #[.slice a l.length cap, .int .u32 x] w fun e w' => e = .returned (.bool (l.contains x)) ∧ w = w' := by
  unfold maxLen at hl
  have HM := Lib.hid hm
  clear hm
  go_enter Try.func11, Try.ntmps11
  go_wp2
  go_loop [5] (fun i => ∃ k : Nat, k ≤ l.length ∧ i = .int .i64 (k : Int) ∧ Hid ((l.take k).contains x = false)) (fun i => l.length - (intOf i).toNat)
  case atStart => exact ⟨0, Nat.zero_le _, rfl, Lib.hid (by simp)⟩
  case round =>
    obtain ⟨k, hk, rfl, hr⟩ := hrel
    by_cases hlt : k < l.length
    · obtain ⟨b, off, ha, hb, c0⟩ := HM.out k l[k] (List.getElem?_eq_getElem hlt)
      subst ha
      have hT : Hid ((l.take (k + 1)).contains x = ((l.take k).contains x || x == l[k])) := Lib.hid (contains_take l x k hlt)
      cases hq : (l[k] == x) with
      | false =>
        have hq' : (x == l[k]) = false := by
          simp only [beq_eq_false_iff_ne] at hq ⊢
          exact fun e => hq e.symm
        rw [hq'] at hT
        clear hq'
        go_wp2
        go_round
        case rel => exact ⟨k + 1, by omega, by go_num, Lib.hid (by rw [hT.out, hr.out]; rfl)⟩
        case measure => simp [intOf]; omega
      | true =>
        have hb : Hid (l.contains x = true) := Lib.hid (by rw [← eq_of_beq hq]; exact contains_at hlt)
        go_wp2
        go_ret
        exact ⟨ret_bool (by simpa using hb.out), rfl⟩
    · have hk' : k = l.length := by omega
      subst hk'
      have hd : decide (l.length < l.length) = false := by simp
      go_wp2
      go_ret
      have := hr.out
      rw [List.take_length] at this
      exact ⟨ret_bool (by simpa using this), rfl⟩
set_option maxHeartbeats 1000000 in
theorem same_ok (l : List Int) (a a' : Option Addr) (cap cap' : Nat) (w : World) (hl : l.length ≤ maxLen) (hc : l.length ≤ cap) (hc' : l.length ≤ cap') (hm : Wds w a l) (hm' : Wds w a' l) :
    Calls Try.prog 12 #[.slice a l.length cap, .slice a' l.length cap'] w fun e w' => e = .returned (.bool true) ∧ Fr Nil w w' := by
  unfold maxLen at hl
  have HM := Lib.hid hm
  have HM' := Lib.hid hm'
  clear hm hm'
  go_enter Try.func12, Try.ntmps12
  go_wp2
  go_loopw [5] (fun i wr => ∃ k : Nat, k ≤ l.length ∧ i = .int .i64 (k : Int) ∧ Fr Nil w wr) (fun i _ => l.length - (intOf i).toNat)
  case atStart => exact ⟨0, Nat.zero_le _, rfl, Fr.refl _ _⟩
  case round =>
    obtain ⟨k, hk, rfl, hf⟩ := hrel
    by_cases hlt : k < l.length
    · obtain ⟨b, off, ha, hb, c0⟩ := HM.out.fr hf k l[k] (List.getElem?_eq_getElem hlt)
      obtain ⟨b', off', ha', hb', c0'⟩ := HM'.out.fr hf k l[k] (List.getElem?_eq_getElem hlt)
      subst ha ha'
      go_wp2_with fail
      go_quiet (fail)
      go_wp2_with fail
      go_roundw
      case rel => exact ⟨k + 1, by omega, by go_num, Fr.drewN hf _⟩
      case measure => simp [intOf]; omega
    · have hk' : k = l.length := by omega
      subst hk'
      have hd : decide (l.length < l.length) = false := by simp
      go_wp2
      go_ret
      exact ⟨rfl, hf⟩
end Go.Proofs.Ytdbgfnkcphbgfaa
