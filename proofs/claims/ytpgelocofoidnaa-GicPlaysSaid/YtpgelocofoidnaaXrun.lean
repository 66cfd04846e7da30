/- The document's Send, Running. -/
import Derived.Test.YtpgelocofoidnaaXset
set_option linter.unusedSimpArgs false
set_option linter.unusedVariables false
set_option linter.unusedSectionVars false
namespace Go.Proofs.Ytpgelocofoidnaa
open Go.RowKit
set_option maxRecDepth 100000
set_option maxHeartbeats 1000000

theorem rsend_ok (rb : Nat) (L : Lay) (r : RS) (t id : Int) (w : World) (h : RefAt w rb L r) : Calls Try.prog 49 #[.pointer (some ⟨rb, 0, none⟩), .int .i64 t, .int .i64 id] w (Rt w rb L (r.sendR t id) (.int .i64 (code (fitsR r t id)))) := by
  have HG := Lib.hid h
  have c0 := h.c_c
  have c8 : (r.c : Int) ≤ 8 := by have := h.c8; omega
  have pw : wrap64 ((2 : Int) ^ r.c) = 2 ^ r.c := by
    have h8 := h.c8
    generalize r.c = n at h8
    have : n = 0 ∨ n = 1 ∨ n = 2 ∨ n = 3 ∨ n = 4 ∨ n = 5 ∨ n = 6 ∨ n = 7 ∨ n = 8 := by omega
    rcases this with rfl | rfl | rfl | rfl | rfl | rfl | rfl | rfl | rfl <;> simp [wrap64]
  cases hk : fitsR r t id
  · have E1 : r.sendR t id = r := by unfold RS.sendR; rw [hk]; rfl
    rw [E1]
    have hk2 : decide (id < 0) = true ∨ (decide (id < 0) = false ∧ decide (15 < id) = true) ∨ (decide (id < 0) = false ∧ decide (15 < id) = false ∧ decide (t < 0) = true) ∨ (decide (id < 0) = false ∧ decide (15 < id) = false ∧ decide (t < 0) = false ∧ decide (wrap64 (2 ^ r.c) ≤ t) = true) := by
      rw [pw]
      simp only [fitsR, Bool.and_eq_false_iff, decide_eq_false_iff_not] at hk
      simp only [decide_eq_true_eq, decide_eq_false_iff_not]
      generalize (2 : Int) ^ r.c = z at *
      omega
    clear hk E1 pw h
    rcases hk2 with h1 | ⟨h1, h2⟩ | ⟨h1, h2, h3⟩ | ⟨h1, h2, h3, h4⟩
    all_goals
      go_enter Try.func49, Try.ntmps49
      go_wp2
      go_ret
      exact ⟨rfl, HG.out, Fr.refl _ _⟩
  · have E1 : r.sendR t id = r.sendK t id.toNat r.c := by unfold RS.sendR; rw [hk]; rfl
    rw [E1]
    simp only [fitsR, Bool.and_eq_true, decide_eq_true_eq] at hk
    obtain ⟨⟨⟨k1, k2⟩, k3⟩, k4⟩ := hk
    obtain ⟨id, rfl⟩ : ∃ n : Nat, id = (n : Int) := ⟨id.toNat, by omega⟩
    rw [Int.toNat_natCast]
    have b1 : decide ((id : Int) < 0) = false := by simp
    have b2 : decide (15 < (id : Int)) = false := by simp; omega
    have b3 : decide (t < 0) = false := by simp; omega
    have b4 : decide (wrap64 (2 ^ r.c) ≤ t) = false := by rw [pw]; simp; exact k4
    have i15 : (id : Int) ≤ 15 := by omega
    have I15 := Lib.hid (show id < 32 by omega)
    clear h E1 k1 k2 k3 k4 pw
    go_enter Try.func49, Try.ntmps49
    go_wp2
    go_loopw [7] (fun i wr => ∃ k : Nat, k ≤ r.c ∧ i = .int .i64 (k : Int) ∧ RefAt wr rb L (r.sendK t id k) ∧ Fr (RFoot rb L r.c) w wr) (fun i _ => r.c - (intOf i).toNat)
    case atStart => exact ⟨0, Nat.zero_le _, rfl, HG.out, Fr.refl _ _⟩
    case round =>
      obtain ⟨k, hk, rfl, hG, hF⟩ := hrel
      have HG2 := Lib.hid hG
      have HF2 := Lib.hid hF
      have CE := RS.sendK_c r t id k
      have d0 := hG.c_c
      rw [CE] at d0
      by_cases hlt : k < r.c
      · have HK := Lib.hid hlt
        have kn : (k : Int) < (r.c : Int) := by omega
        have k8 : (k : Int) < 8 := by omega
        have hB : spB L k id = L.ib k := by unfold spB; rw [if_pos I15.out]
        have hO : spO L k id = L.io k + id * 8 := by unfold spO; rw [if_pos I15.out]
        have hk' : k < (r.sendK t id k).c := by rw [CE]; exact hlt
        have d1 := hG.own_c
        rw [CE] at d1
        have d2 := hG.iv_c hk'
        unfold Lay.iv at d2
        have d3 := hG.sp_c hk' (id := id) (by have := I15.out; omega) (j := 1) rfl
        have z3 := hG.sp_z hk' (id := id) (spO L k id + 1)
        rw [hB, hO] at d3 z3
        cases hb : bitB t k
        · have E := Lib.hid (show r.sendK t id (k + 1) = r.sendK t id k by (conv => lhs; unfold RS.sendK); rw [hb]; rfl)
          unfold bitB at hb
          clear hG hF hk hlt CE hB hO hk'
          go_wp2_with fail
          go_roundw
          case rel => exact ⟨k + 1, HK.out, by go_num, by rw [E.out]; exact HG2.out, HF2.out⟩
          case measure => have := HK.out; simp [intOf]; omega
        · have E : r.sendK t id (k + 1) = (r.sendK t id k).put k id ⟨{ ((r.sendK t id k).get k id).x with la := true }, ((r.sendK t id k).get k id).by_, ((r.sendK t id k).get k id).was⟩ := by conv => lhs; unfold RS.sendK; rw [hb, if_pos rfl]
          have G3 := Lib.hid (show RefAt (wr.setCell ⟨L.ib k, L.io k + id * 8 + 1, none⟩ (.bool true)) rb L (r.sendK t id (k + 1)) by
            rw [E, ← hB, ← hO]
            exact hG.sp_set hk' (by have := I15.out; omega) (by decide) rfl)
          have F3 := Lib.hid (show Fr (RFoot rb L r.c) w (wr.setCell ⟨L.ib k, L.io k + id * 8 + 1, none⟩ (.bool true)) from hF.setCell (.inl (.inr (.inr (.inr (.inr ⟨k, hlt, rfl⟩))))) _)
          unfold bitB at hb
          clear hG hF hk hlt CE hB hO hk' E
          go_wp2_with fail
          go_roundw
          case rel => exact ⟨k + 1, HK.out, by go_num, G3.out, F3.out⟩
          case measure => have := HK.out; simp [intOf]; omega
      · obtain rfl : k = r.c := by omega
        have l1 : decide (r.c < r.c) = false := by simp
        clear hG hF hk hlt
        go_wp2_with fail
        go_ret
        exact ⟨rfl, HG2.out, by rw [CE]; exact HF2.out⟩
theorem rrun_ok (rb : Nat) (L : Lay) (r : RS) (c : Nat) (w : World) (h : RefAt w rb L r) (hc : c < r.c) : Calls Try.prog 54 #[.pointer (some ⟨rb, 0, none⟩), .int .i64 (c : Int)] w fun e w' => e = .returned (.int .i64 (rrun r c 64)) ∧ w = w' := by
  have HG := Lib.hid h
  have HC := Lib.hid hc
  have OF := Lib.hid (fun id (hi : id < 64) => rof_ok rb L r c id w h hc hi)
  clear h hc
  go_enter Try.func54, Try.ntmps54
  go_wp2_with fail
  go_loop [5, 6] (fun n i => ∃ k : Nat, k ≤ 64 ∧ i = .int .i64 (k : Int) ∧ n = .int .i64 (rrun r c k)) (fun _ i => 64 - (intOf i).toNat)
  case atStart => exact ⟨0, by omega, rfl, rfl⟩
  case round =>
    obtain ⟨k, hk, rfl, rfl⟩ := hrel
    by_cases hlt : k < 64
    · have HK := Lib.hid hlt
      have k64 : (k : Int) < 64 := by omega
      have O1 := Lib.hid (OF.out k hlt)
      have d0 := HG.out.sp_c HC.out hlt (j := 3) rfl
      have d1 := HG.out.sp_c HC.out hlt (j := 6) rfl
      have d2 := HG.out.sp_c HC.out hlt (j := 7) rfl
      have E : rrun r c (k + 1) = if ((r.get c k).x.ac && (r.get c k).by_ == (c : Int) && decide ((r.get c k).was < rrun r c k)) = true then (r.get c k).was else rrun r c k := rfl
      have HE := Lib.hid E
      clear E hk hlt
      generalize spB L c k = sb at *
      generalize spO L c k = so at *
      generalize (r.get c k).x.ac = ac at *
      generalize (r.get c k).by_ = by_ at *
      generalize (r.get c k).was = was at *
      generalize hn : rrun r c k = n at *
      cases ac
      · go_wp2_with (go_at_call 55; refine O1.out.mono ?_; rintro e w2 ⟨rfl, rfl⟩)
        go_round
        case rel => exact ⟨k + 1, HK.out, by go_num, by rw [HE.out]; simp⟩
        case measure => have := HK.out; simp [intOf]; omega
      · cases hb : (by_ == (c : Int))
        · go_wp2_with (go_at_call 55; refine O1.out.mono ?_; rintro e w2 ⟨rfl, rfl⟩)
          go_round
          case rel => exact ⟨k + 1, HK.out, by go_num, by rw [HE.out, hb]; simp⟩
          case measure => have := HK.out; simp [intOf]; omega
        · cases hl : decide (was < n)
          · go_wp2_with (go_at_call 55; refine O1.out.mono ?_; rintro e w2 ⟨rfl, rfl⟩)
            go_round
            case rel => exact ⟨k + 1, HK.out, by go_num, by rw [HE.out, hb, hl]; simp⟩
            case measure => have := HK.out; simp [intOf]; omega
          · go_wp2_with (go_at_call 55; refine O1.out.mono ?_; rintro e w2 ⟨rfl, rfl⟩)
            go_round
            case rel => exact ⟨k + 1, HK.out, by go_num, by rw [HE.out, hb, hl]; simp⟩
            case measure => have := HK.out; simp [intOf]; omega
    · obtain rfl : k = 64 := by omega
      clear hk hlt
      go_wp2_with fail
      go_ret
      exact ⟨rfl, rfl⟩
end Go.Proofs.Ytpgelocofoidnaa
