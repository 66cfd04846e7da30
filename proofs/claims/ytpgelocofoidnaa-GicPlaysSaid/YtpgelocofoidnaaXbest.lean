/- The document's Best. -/
import Derived.Test.YtpgelocofoidnaaXrun
set_option linter.unusedSimpArgs false
set_option linter.unusedVariables false
set_option linter.unusedSectionVars false
namespace Go.Proofs.Ytpgelocofoidnaa
open Go.RowKit
set_option maxRecDepth 100000

def RbestTo (w : World) (r : RS) (c : Int) (e : Ending) (w' : World) : Prop :=
  (if okR r c 0 = true then ∃ b, BestP r c.toNat (rrun r c.toNat 64) 64 b ∧ e = .returned (.tuple #[.int .i64 (bestV b).1, .bool (bestV b).2]) else e = .returned (.tuple #[.int .i64 0, .bool false])) ∧ Fr Nil w w'
set_option maxHeartbeats 4000000 in
theorem rbest_ok (rb : Nat) (L : Lay) (r : RS) (c : Int) (w : World) (h : RefAt w rb L r) : Calls Try.prog 53 #[.pointer (some ⟨rb, 0, none⟩), .int .i64 c] w (RbestTo w r c) := by
  have BD := Lib.hid (bad_ok rb L r c 0 w h)
  cases hk : okR r c 0
  · rw [hk] at BD
    have HR := Lib.hid (show RbestTo w r c (.returned (.tuple #[.int .i64 0, .bool false])) w from ⟨by rw [hk]; rfl, Fr.refl _ _⟩)
    clear h hk
    go_enter Try.func53, Try.ntmps53
    go_wp2_with (go_at_call 52; refine BD.out.mono ?_; rintro e w2 ⟨rfl, rfl⟩)
    go_ret2
    exact HR.out
  · rw [hk] at BD
    have HK0 := Lib.hid hk
    obtain ⟨c, -, rfl, -, h1, -⟩ := okR_nat hk
    have RN := Lib.hid (rrun_ok rb L r c w h h1)
    have HG := Lib.hid h
    have HC := Lib.hid h1
    have OF := Lib.hid (fun wr (hw : Fr Nil w wr) id (hi : id < 64) => rof_ok rb L r c id wr (h.fr0 hw) h1 hi)
    have cn : (c : Int) < (r.c : Int) := by omega
    have n8 : (r.c : Int) ≤ 8 := by have := h.c8; omega
    have HD := Lib.hid (show ∀ b w', BestP r c (rrun r c 64) 64 b → Fr Nil w w' → RbestTo w r (c : Int) (.returned (.tuple #[.int .i64 (bestV b).1, .bool (bestV b).2])) w' from fun b w' hb hf => ⟨by rw [HK0.out, if_pos rfl, Int.toNat_natCast]; exact ⟨b, hb, rfl⟩, hf⟩)
    clear h hk h1
    generalize hrn : rrun r c 64 = rn at *
    clear hrn
    go_enter Try.func53, Try.ntmps53
    go_wp2_with (first | (go_at_call 52; refine BD.out.mono ?_; rintro e w2 ⟨rfl, rfl⟩) | (go_at_call 54; refine RN.out.mono ?_; rintro e w2 ⟨rfl, rfl⟩))
    go_loopw [8, 9] (fun b i wr => ∃ (k : Nat) (bz : Int), k ≤ 64 ∧ i = .int .i64 (k : Int) ∧ b = .int .i64 bz ∧ BestP r c rn k bz ∧ Fr Nil w wr) (fun _ i _ => 64 - (intOf i).toNat)
    case atStart => exact ⟨0, -1, by omega, rfl, rfl, BestP.first _ _ _, Fr.refl _ _⟩
    case round =>
      obtain ⟨k, bz, hk, rfl, rfl, hb, hf⟩ := hrel
      have HB := Lib.hid hb
      have HF := Lib.hid hf
      clear hb hf
      by_cases hlt : k < 64
      · have HK := Lib.hid hlt
        have k64 : (k : Int) < 64 := by omega
        have O1 := Lib.hid (OF.out wr HF.out k hlt)
        have G2 := HG.out.fr0 HF.out
        have e0 := G2.sp_c HC.out hlt (j := 0) rfl
        have e1 := G2.sp_c HC.out hlt (j := 1) rfl
        have e2 := G2.sp_c HC.out hlt (j := 2) rfl
        have e3 := G2.sp_c HC.out hlt (j := 3) rfl
        have e4 := G2.sp_c HC.out hlt (j := 4) rfl
        have e5 := G2.sp_c HC.out hlt (j := 5) rfl
        have l0 := G2.lim_c
        have l1 := G2.lims_c HC.out
        rw [Nat.add_zero] at e0
        have HE := Lib.hid (show rcand r c rn k = (((r.get c k).x.la || (r.get c k).x.hi) && (r.get c k).x.en && !(r.get c k).x.ac && (decide (k < 32) || (r.get c k).x.dst == (c : Int)) && decide ((r.get c k).x.rk < r.lim c) && decide ((r.get c k).x.rk < rn)) from rfl)
        have RK : Hid (∀ n : Nat, n < 64 → ∀ wr', Fr Nil wr wr' → wr'.cell? ⟨spB L c n, spO L c n + 4, none⟩ = some (.int .i64 (r.get c n).x.rk)) := Lib.hid fun n hn wr' hw => (G2.fr0 hw).sp_c HC.out hn (j := 4) rfl
        have PN := Lib.hid (rpend_ok (spB L c k) (spO L c k) (r.get c k).x.la (r.get c k).x.hi wr e1 e2)
        clear G2 hk hlt e1 e2
        generalize hsb : spB L c k = sb at *
        generalize hso : spO L c k = so at *
        clear hsb hso
        generalize (r.get c k).x.la = la at *
        generalize (r.get c k).x.hi = hi at *
        generalize hpn : (la || hi) = pn at *
        clear hpn
        generalize (r.get c k).x.en = en at *
        generalize (r.get c k).x.ac = ac at *
        generalize hdst : (r.get c k).x.dst = dst at *
        clear hdst
        generalize hlm : r.lim c = lm at *
        clear hlm
        have HRK := Lib.hid (show ∃ q, q = (r.get c k).x.rk from ⟨_, rfl⟩)
        obtain ⟨rk, hrk⟩ := HRK.out
        rw [← hrk] at e4 HE
        have HR := Lib.hid hrk
        clear hrk HRK
        go_upto_region 11 with (first | (go_at_call 55; refine O1.out.mono ?_; rintro e w2 ⟨rfl, rfl⟩) | (go_at_call 56; refine PN.out.mono ?_; rintro e w2 ⟨rfl, rfl⟩))
        cases pn
        · have SK := Lib.hid (HB.out.skip (by rw [HE.out]; simp))
          go_quiet (fail)
          go_wp2_with fail
          go_roundw
          case rel => exact ⟨k + 1, bz, HK.out, by go_num, rfl, SK.out, HF.out.drewN _⟩
          case measure => have := HK.out; simp [intOf]; omega
        · cases en
          · have SK := Lib.hid (HB.out.skip (by rw [HE.out]; simp))
            go_quiet (fail)
            go_wp2_with fail
            go_roundw
            case rel => exact ⟨k + 1, bz, HK.out, by go_num, rfl, SK.out, HF.out.drewN _⟩
            case measure => have := HK.out; simp [intOf]; omega
          · cases ac
            rotate_left
            · have SK := Lib.hid (HB.out.skip (by rw [HE.out]; simp))
              go_quiet (fail)
              go_wp2_with fail
              go_roundw
              case rel => exact ⟨k + 1, bz, HK.out, by go_num, rfl, SK.out, HF.out.drewN _⟩
              case measure => have := HK.out; simp [intOf]; omega
            · by_cases k32 : k < 32
              · have k1 : (k : Int) < 32 := by omega
                have k2 : decide ((k : Int) ≥ 32) = false := by simp; omega
                cases hl : decide (rk < lm)
                · have d1 : decide (lm ≤ rk) = true := by simp at hl ⊢; omega
                  have SK := Lib.hid (HB.out.skip (by rw [HE.out]; simp [hl]))
                  go_quiet (fail)
                  go_wp2_with fail
                  go_roundw
                  case rel => exact ⟨k + 1, bz, HK.out, by go_num, rfl, SK.out, HF.out.drewN _⟩
                  case measure => have := HK.out; simp [intOf]; omega
                · have d1 : decide (lm ≤ rk) = false := by simp at hl ⊢; omega
                  cases hr : decide (rk < rn)
                  · have d2 : decide (rn ≤ rk) = true := by simp at hr ⊢; omega
                    have SK := Lib.hid (HB.out.skip (by rw [HE.out]; simp [hr]))
                    go_quiet (fail)
                    go_wp2_with fail
                    go_roundw
                    case rel => exact ⟨k + 1, bz, HK.out, by go_num, rfl, SK.out, HF.out.drewN _⟩
                    case measure => have := HK.out; simp [intOf]; omega
                  · have d2 : decide (rn ≤ rk) = false := by simp at hr ⊢; omega
                    have HC2 := Lib.hid (show rcand r c rn k = true by rw [HE.out]; simp [k32, of_decide_eq_true hl, of_decide_eq_true hr])
                    go_upto_region 11 with fail
                    go_quiet (fail)
                    have e4' : (wr.drewN nq).cell? ⟨sb, so + 4, none⟩ = some (.int .i64 rk) := e4
                    have RK5 := Lib.hid (fun n hn => RK.out n hn (wr.drewN nq) ((Fr.refl Nil wr).drewN nq))
                    have F5 := Lib.hid (HF.out.drewN nq)
                    go_upto_region 12 with fail
                    clear e0 e3 e4 e5 l0 l1
                    generalize wr.drewN nq = w5 at *
                    cases hneg : decide (bz < 0)
                    · obtain ⟨n, hbn, hn⟩ : ∃ n : Nat, bz = (n : Int) ∧ n < 64 := by
                        rcases HB.out with ⟨e, _⟩ | ⟨n, e, hn, _⟩
                        · subst e; simp at hneg
                        · exact ⟨n, e, by have := HK.out; omega⟩
                      subst hbn
                      have O2 := Lib.hid (fun j => (OF.out (w5.drewN j) (F5.out.drewN j) n hn).mono (R' := fun e w' => e = .returned (.pointer (some ⟨spB L c n, spO L c n, none⟩)) ∧ w' = w5.drewN j) fun e w' h => ⟨h.1, h.2.symm⟩)
                      have e9 := RK5.out n hn
                      have HRN := Lib.hid (show ∃ q, q = (r.get c n).x.rk from ⟨_, rfl⟩)
                      obtain ⟨rn2, hr2⟩ := HRN.out
                      rw [← hr2] at e9
                      have HR2 := Lib.hid hr2
                      clear hr2 HRN hn
                      generalize spB L c n = sb2 at *
                      generalize spO L c n = so2 at *
                      cases hless : decide (rk < rn2)
                      · have SK := Lib.hid (HB.out.keep (by rw [← HR.out, ← HR2.out]; simpa using hless))
                        go_quiet ((go_at_call 55; exact Calls.quiet_of_same (O2.out _)))
                        go_wp2_with fail
                        go_roundw
                        case rel => exact ⟨k + 1, (n : Int), HK.out, by go_num, rfl, SK.out, F5.out.drewN _⟩
                        case measure => have := HK.out; simp [intOf]; omega
                      · have SK := Lib.hid (HB.out.take HC2.out (.inr (by rw [Int.toNat_natCast, ← HR.out, ← HR2.out]; simpa using hless)))
                        go_quiet ((go_at_call 55; exact Calls.quiet_of_same (O2.out _)))
                        go_wp2_with fail
                        go_roundw
                        case rel => exact ⟨k + 1, (k : Int), HK.out, by go_num, rfl, SK.out, F5.out.drewN _⟩
                        case measure => have := HK.out; simp [intOf]; omega
                    · have SK := Lib.hid (HB.out.take HC2.out (.inl (by simpa using hneg)))
                      go_quiet (fail)
                      go_wp2_with fail
                      go_roundw
                      case rel => exact ⟨k + 1, (k : Int), HK.out, by go_num, rfl, SK.out, F5.out.drewN _⟩
                      case measure => have := HK.out; simp [intOf]; omega
              · have k1 : (32 : Int) ≤ (k : Int) := by omega
                cases hd : (dst == (c : Int))
                · have d0 : (dst != (c : Int)) = true := by rw [bne, hd]; rfl
                  have SK := Lib.hid (HB.out.skip (by rw [HE.out]; simp [hd, k32]))
                  go_quiet (fail)
                  go_wp2_with fail
                  go_roundw
                  case rel => exact ⟨k + 1, bz, HK.out, by go_num, rfl, SK.out, HF.out.drewN _⟩
                  case measure => have := HK.out; simp [intOf]; omega
                · have d0 : (dst != (c : Int)) = false := by rw [bne, hd]; rfl
                  cases hl : decide (rk < lm)
                  · have d1 : decide (lm ≤ rk) = true := by simp at hl ⊢; omega
                    have SK := Lib.hid (HB.out.skip (by rw [HE.out]; simp [hl]))
                    go_quiet (fail)
                    go_wp2_with fail
                    go_roundw
                    case rel => exact ⟨k + 1, bz, HK.out, by go_num, rfl, SK.out, HF.out.drewN _⟩
                    case measure => have := HK.out; simp [intOf]; omega
                  · have d1 : decide (lm ≤ rk) = false := by simp at hl ⊢; omega
                    cases hr : decide (rk < rn)
                    · have d2 : decide (rn ≤ rk) = true := by simp at hr ⊢; omega
                      have SK := Lib.hid (HB.out.skip (by rw [HE.out]; simp [hr]))
                      go_quiet (fail)
                      go_wp2_with fail
                      go_roundw
                      case rel => exact ⟨k + 1, bz, HK.out, by go_num, rfl, SK.out, HF.out.drewN _⟩
                      case measure => have := HK.out; simp [intOf]; omega
                    · have d2 : decide (rn ≤ rk) = false := by simp at hr ⊢; omega
                      have HC2 := Lib.hid (show rcand r c rn k = true by rw [HE.out]; simp [k32, beq_iff_eq.1 hd, of_decide_eq_true hl, of_decide_eq_true hr])
                      go_upto_region 11 with fail
                      go_quiet (fail)
                      have e4' : (wr.drewN nq).cell? ⟨sb, so + 4, none⟩ = some (.int .i64 rk) := e4
                      have RK5 := Lib.hid (fun n hn => RK.out n hn (wr.drewN nq) ((Fr.refl Nil wr).drewN nq))
                      have F5 := Lib.hid (HF.out.drewN nq)
                      go_upto_region 12 with fail
                      clear e0 e3 e4 e5 l0 l1
                      generalize wr.drewN nq = w5 at *
                      cases hneg : decide (bz < 0)
                      · obtain ⟨n, hbn, hn⟩ : ∃ n : Nat, bz = (n : Int) ∧ n < 64 := by
                          rcases HB.out with ⟨e, _⟩ | ⟨n, e, hn, _⟩
                          · subst e; simp at hneg
                          · exact ⟨n, e, by have := HK.out; omega⟩
                        subst hbn
                        have O2 := Lib.hid (fun j => (OF.out (w5.drewN j) (F5.out.drewN j) n hn).mono (R' := fun e w' => e = .returned (.pointer (some ⟨spB L c n, spO L c n, none⟩)) ∧ w' = w5.drewN j) fun e w' h => ⟨h.1, h.2.symm⟩)
                        have e9 := RK5.out n hn
                        have HRN := Lib.hid (show ∃ q, q = (r.get c n).x.rk from ⟨_, rfl⟩)
                        obtain ⟨rn2, hr2⟩ := HRN.out
                        rw [← hr2] at e9
                        have HR2 := Lib.hid hr2
                        clear hr2 HRN hn
                        generalize spB L c n = sb2 at *
                        generalize spO L c n = so2 at *
                        cases hless : decide (rk < rn2)
                        · have SK := Lib.hid (HB.out.keep (by rw [← HR.out, ← HR2.out]; simpa using hless))
                          go_quiet ((go_at_call 55; exact Calls.quiet_of_same (O2.out _)))
                          go_wp2_with fail
                          go_roundw
                          case rel => exact ⟨k + 1, (n : Int), HK.out, by go_num, rfl, SK.out, F5.out.drewN _⟩
                          case measure => have := HK.out; simp [intOf]; omega
                        · have SK := Lib.hid (HB.out.take HC2.out (.inr (by rw [Int.toNat_natCast, ← HR.out, ← HR2.out]; simpa using hless)))
                          go_quiet ((go_at_call 55; exact Calls.quiet_of_same (O2.out _)))
                          go_wp2_with fail
                          go_roundw
                          case rel => exact ⟨k + 1, (k : Int), HK.out, by go_num, rfl, SK.out, F5.out.drewN _⟩
                          case measure => have := HK.out; simp [intOf]; omega
                      · have SK := Lib.hid (HB.out.take HC2.out (.inl (by simpa using hneg)))
                        go_quiet (fail)
                        go_wp2_with fail
                        go_roundw
                        case rel => exact ⟨k + 1, (k : Int), HK.out, by go_num, rfl, SK.out, F5.out.drewN _⟩
                        case measure => have := HK.out; simp [intOf]; omega
      · obtain rfl : k = 64 := by omega
        clear hk hlt
        cases hb : decide (bz < 0)
        · have E := Lib.hid (show bestV bz = (bz, true) by unfold bestV; rw [if_neg (by simpa using hb)])
          go_wp2_with fail
          go_ret2
          have := HD.out bz _ HB.out HF.out
          rw [E.out] at this
          exact this
        · have E := Lib.hid (show bestV bz = (0, false) by unfold bestV; rw [if_pos (by simpa using hb)])
          go_wp2_with fail
          go_ret2
          have := HD.out bz _ HB.out HF.out
          rw [E.out] at this
          exact this
end Go.Proofs.Ytpgelocofoidnaa
