/- What is sent. -/
import Derived.Test.YtnmakbippgnekaaGrun
set_option linter.unusedSimpArgs false
set_option linter.unusedSectionVars false
namespace Go.Proofs.Ytnmakbippgnekaa
open Go.RowKit
set_option linter.unusedVariables false
set_option maxRecDepth 100000

def fits (s : GS) (t id : Int) : Bool := decide (0 ≤ id) && decide (id ≤ 15) && decide (0 ≤ t) && decide (t < 2 ^ s.c)
def bitB (t : Int) (k : Nat) : Bool := bits BinOp.and IntKind.i64 (t / 2 ^ k) 1 == 1
def GS.sendK (s : GS) (t : Int) (id : Nat) : Nat → GS
  | 0 => s
  | k + 1 => if bitB t k = true then (s.sendK t id k).put k id { (s.sendK t id k).get k id with la := true } else s.sendK t id k
def GS.send (s : GS) (t id : Int) : GS := if fits s t id = true then s.sendK t id.toNat s.c else s
def GS.sendC (s : GS) (t id : Int) : Int := code (fits s t id)
theorem GS.sendK_c (s : GS) (t : Int) (id k : Nat) : (s.sendK t id k).c = s.c := by
  induction k with
  | zero => rfl
  | succ k ih => unfold GS.sendK; split; rw [GS.put_c]; exact ih; exact ih
set_option maxHeartbeats 1000000 in
theorem send_ok (K : Nat → Prop) (gb : Nat) (s : GS) (t id : Int) (w : World) (h : Gk K w gb s) :
    Calls Try.prog 30 #[.pointer (some ⟨gb, 0, none⟩), .int .i64 t, .int .i64 id] w (Tn K gb w (s.send t id) (.int .i64 (s.sendC t id))) := by
  obtain ⟨cb, av, hg, hf⟩ := h.mem
  have HK := Lib.hid h
  have HF := Lib.hid hf
  have HG := Lib.hid hg
  have c0 := hg.cores_c
  have c8 : (s.c : Int) ≤ 8 := by have := h.c8; omega
  have pw : wrap64 ((2 : Int) ^ s.c) = 2 ^ s.c := by
    have h8 := h.c8
    generalize s.c = n at h8
    have : n = 0 ∨ n = 1 ∨ n = 2 ∨ n = 3 ∨ n = 4 ∨ n = 5 ∨ n = 6 ∨ n = 7 ∨ n = 8 := by omega
    rcases this with rfl | rfl | rfl | rfl | rfl | rfl | rfl | rfl | rfl <;> simp [wrap64]
  cases hk : fits s t id
  · have E1 : s.send t id = s := by unfold GS.send; rw [hk]; rfl
    have E2 : s.sendC t id = 1 := by unfold GS.sendC; rw [hk]; rfl
    rw [E1, E2]
    have hk2 : decide (id < 0) = true ∨ (decide (id < 0) = false ∧ decide (15 < id) = true) ∨ (decide (id < 0) = false ∧ decide (15 < id) = false ∧ decide (t < 0) = true) ∨ (decide (id < 0) = false ∧ decide (15 < id) = false ∧ decide (t < 0) = false ∧ decide (wrap64 (2 ^ s.c) ≤ t) = true) := by
      rw [pw]
      simp only [fits, Bool.and_eq_false_iff, decide_eq_false_iff_not] at hk
      simp only [decide_eq_true_eq, decide_eq_false_iff_not]
      generalize (2 : Int) ^ s.c = z at *
      omega
    clear hk E1 E2 pw h hg hf
    rcases hk2 with h1 | ⟨h1, h2⟩ | ⟨h1, h2, h3⟩ | ⟨h1, h2, h3, h4⟩
    all_goals
      go_enter Try.func30, Try.ntmps30
      go_wp2
      go_ret
      exact Tn.of HK.out HF.out (Fr.refl Nil w) HG.out (Fr.refl _ w) rfl fun i k hi hk => .inl hk
  · have E1 : s.send t id = s.sendK t id.toNat s.c := by unfold GS.send; rw [hk]; rfl
    have E2 : s.sendC t id = 0 := by unfold GS.sendC; rw [hk]; rfl
    rw [E1, E2]
    simp only [fits, Bool.and_eq_true, decide_eq_true_eq] at hk
    obtain ⟨⟨⟨k1, k2⟩, k3⟩, k4⟩ := hk
    obtain ⟨id, rfl⟩ : ∃ n : Nat, id = (n : Int) := ⟨id.toNat, by omega⟩
    rw [Int.toNat_natCast]
    have b1 : decide ((id : Int) < 0) = false := by simp
    have b2 : decide (15 < (id : Int)) = false := by simp; omega
    have b3 : decide (t < 0) = false := by simp; omega
    have b4 : decide (wrap64 (2 ^ s.c) ≤ t) = false := by rw [pw]; simp; exact k4
    have i15 : (id : Int) ≤ 15 := by omega
    have I15 := Lib.hid (show id < 32 by omega)
    have C8 := Lib.hid h.c8
    clear h hg hf E1 E2 k1 k2 k3 k4 pw
    go_enter Try.func30, Try.ntmps30
    go_wp2
    go_loopw [33] (fun i wr => ∃ k : Nat, k ≤ s.c ∧ i = .int .i64 (k : Int) ∧ GicAt wr gb cb av (s.sendK t id k) ∧ Fr (Foot gb cb av s.c) w wr) (fun i _ => s.c - (intOf i).toNat)
    case atStart => exact ⟨0, Nat.zero_le _, rfl, HG.out, Fr.refl _ _⟩
    case round =>
      obtain ⟨k, hk, rfl, hG, hF⟩ := hrel
      have HG2 := Lib.hid hG
      have HF2 := Lib.hid hF
      by_cases hlt : k < s.c
      · have SP := Lib.hid (hG.spOwn (c := k) (id := id) (by rw [GS.sendK_c]; exact hlt) I15.out)
        have d0 := hG.cores_c
        rw [GS.sendK_c] at d0
        have d1 := SP.out.cell 1 _ rfl
        have d2 := SP.out.frz (k * 194 + id * 6 + 1)
        have kn : (k : Int) < (s.c : Int) := by omega
        clear hG hF
        cases hb : bitB t k
        · have hb' : (bits BinOp.and IntKind.i64 (t / 2 ^ k) 1 == 1) = false := hb
          have EK : Hid (s.sendK t id (k + 1) = s.sendK t id k) := Lib.hid (by conv => lhs; unfold GS.sendK
                                                                               rw [hb]; rfl)
          clear hb
          go_wp2
          go_roundw
          case rel => exact ⟨k + 1, by omega, by go_num, by rw [EK.out]; exact HG2.out, HF2.out⟩
          case measure => simp [intOf]; omega
        · have hb' : (bits BinOp.and IntKind.i64 (t / 2 ^ k) 1 == 1) = true := hb
          have EK : Hid (s.sendK t id (k + 1) = (s.sendK t id k).put k id { (s.sendK t id k).get k id with la := true }) := Lib.hid (by conv => lhs; unfold GS.sendK
                                                                                                                                        rw [hb]; rfl)
          clear hb
          go_wp2
          go_roundw
          case rel => exact ⟨k + 1, by omega, by go_num, by rw [EK.out]; exact SP.out.set 1 _ _ (by omega) rfl, HF2.out.setCell (.inl (.inr (.inl rfl))) _⟩
          case measure => simp [intOf]; omega
      · have hk' : k = s.c := by omega
        subst hk'
        have hd : decide (s.c < s.c) = false := by simp
        clear hG hF
        go_wp2
        go_ret
        exact Tn.of HK.out HF.out (Fr.refl Nil w) HG2.out HF2.out (GS.sendK_c _ _ _ _) fun i k hi hk => .inl hk
end Go.Proofs.Ytnmakbippgnekaa
