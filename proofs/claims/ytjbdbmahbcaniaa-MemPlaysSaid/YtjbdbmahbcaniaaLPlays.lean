/- MemPlays: the walk. -/
import Derived.Test.YtjbdbmahbcaniaaYk
import Derived.Test.YtjbdbmahbcaniaaKnow
import Derived.Test.YtjbdbmahbcaniaaPlay
set_option linter.unusedSimpArgs false
set_option linter.unusedVariables false
set_option linter.unusedSectionVars false
namespace Go.Proofs.Ytjbdbmahbcaniaa
open Go.RowKit
set_option maxRecDepth 100000

set_option maxHeartbeats 4000000 in
theorem memPlays_walk (x1 x2 x3 : Int) (a0 : Option Addr) (len cap : Nat) (V : Nat → Nat → Int) (w : World) (w1 : (Lit.int .i64 x1).wf = true) (w2 : (Lit.int .i64 x2).wf = true) (w3 : (Lit.int .i64 x3).wf = true) (hl : len ≤ cap) (hcap : cap ≤ maxLen) (hs : SlRows [.i64, .i64, .u64, .u64] w a0 len V) :
    Calls Try.prog 10 #[.int .i64 x1, .int .i64 x2, .int .i64 x3, .slice a0 len cap] w fun e w' => e = .returned (.bool true) ∧ Below w.heap.size w w' := by
  obtain ⟨p1, p2⟩ := i64_rng w1
  obtain ⟨p3, p4⟩ := i64_rng w2
  obtain ⟨p5, p6⟩ := i64_rng w3
  obtain ⟨n0, hn, hn2⟩ := pk_nat x1 12 (by omega)
  obtain ⟨c0, hc, hc2⟩ := pk_nat x2 8 (by omega)
  obtain ⟨d0, hd, hd2⟩ := pk_nat x3 5 (by omega)
  have P1 := fun w => pick_ok x1 12 w p1 p2 (by omega) (by omega)
  have P2 := fun w => pick_ok x2 8 w p3 p4 (by omega) (by omega)
  have P3 := fun w => pick_ok x3 5 w p5 p6 (by omega) (by omega)
  rw [show pk x1 12 = (n0 : Int) from hn] at P1
  rw [show pk x2 8 = (c0 : Int) from hc] at P2
  rw [show pk x3 5 = (d0 : Int) from hd] at P3
  have P1 := Lib.hid P1
  have P2 := Lib.hid P2
  have P3 := Lib.hid P3
  have KN := Lib.hid (known_ok w)
  have HS := Lib.hid hs
  have hlen : (len : Int) ≤ 9223372036854775807 := by simp only [maxLen] at hcap; omega
  obtain ⟨n, hnn⟩ : ∃ n : Nat, 1 + n0 = n := ⟨_, rfl⟩
  obtain ⟨c, hcc⟩ : ∃ c : Nat, 1 + c0 = c := ⟨_, rfl⟩
  obtain ⟨d, hdd⟩ : ∃ d : Nat, 1 + d0 = d := ⟨_, rfl⟩
  have EN := Lib.hid (show 1 + (n0 : Int) = (n : Int) by omega)
  have EC := Lib.hid (show 1 + (c0 : Int) = (c : Int) by omega)
  have ED := Lib.hid (show 1 + (d0 : Int) = (d : Int) by omega)
  have HN := Lib.hid (show 1 ≤ n ∧ n ≤ 8192 by omega)
  have HC := Lib.hid (show 1 ≤ c ∧ c ≤ 8 by omega)
  have HD := Lib.hid (show 1 ≤ d ∧ d ≤ 32 by omega)
  have z1 : (n0 : Int) < 12 := by omega
  have z2 : (c0 : Int) < 8 := by omega
  have z3 : (d0 : Int) < 5 := by omega
  clear p1 p2 p3 p4 p5 p6 hn hn2 hc hc2 hd hd2 w1 w2 w3 hl hcap hs hnn hcc hdd
  go_enter Try.func10, Try.ntmps10
  go_wp2_with fail
  refine KN.out.mono ?_
  rintro e wa ⟨rfl, f1⟩
  have F1 := Lib.hid f1
  clear f1 KN
  go_wp2_with fail
  refine (P1.out _).mono ?_
  rintro e w2 ⟨rfl, rfl⟩
  go_wp2_with fail
  refine (P2.out _).mono ?_
  rintro e w2 ⟨rfl, rfl⟩
  go_wp2_with fail
  refine (P3.out _).mono ?_
  rintro e w2 ⟨rfl, rfl⟩
  go_upto_region 5 with fail
  rw [EN.out, EC.out, ED.out]
  clear P1 P2 P3 z1 z2 z3
  go_wp2_with fail
  refine (new_ok n c d wa HN.out.1 HN.out.2 HC.out.1 HC.out.2 HD.out.1 HD.out.2).mono ?_
  rintro e w4 ⟨q, rfl, hm, f4, o4⟩
  have M4 := Lib.hid hm
  have F4 := Lib.hid f4
  have O4 := Lib.hid o4
  clear hm f4 o4
  go_wp2_with fail
  refine (rnew_ok n c d w4 HN.out.2).mono ?_
  rintro e w5 ⟨rb, fv, rfl, hr, f5, o5⟩
  have PW := Lib.hid (Pw.start F1.out M4.out F4.out O4.out hr f5 o5 HN.out HC.out HD.out)
  clear hr f5 o5 M4 F4 O4 F1
  go_upto_region 9 with fail
  generalize (w5.alloc (.cells #[.pointer (some ⟨q.b, 0, none⟩), .pointer (some ⟨rb, 0, none⟩)] 66)) = w6 at *
  generalize w5.heap.size = wb at *
  generalize q.b = mb at *
  clear EN EC ED HN HC HD
  go_wp2_with fail
  go_loopw [16] (fun i wr => ∃ (k : Nat) (g : List G), k ≤ len ∧ k ≤ 200 ∧ i = .int .i64 (k : Int) ∧ Pw w wr wb mb rb fv n c d g k) (fun i _ => 200 - (intOf i).toNat)
  case atStart => exact ⟨0, [], Nat.zero_le _, by omega, rfl, PW.out⟩
  case round =>
    clear PW
    obtain ⟨k, g, hk, hk2, rfl, hW⟩ := hrel
    have HW := Lib.hid hW
    clear hW
    by_cases hlt : k < len ∧ k < 200
    · have HK := Lib.hid hlt
      have kn : (k : Int) < (len : Int) := by omega
      have k200 : (k : Int) < 200 := by omega
      obtain ⟨b, off, hab, hb, hcell⟩ := HS.out k hlt.1
      subst hab
      have c0 := ((HW.out.fr.cell (p := ⟨b, off + k * 4 + 0, none⟩) hb id).trans (hcell 0 .i64 rfl).1)
      have c1 := ((HW.out.fr.cell (p := ⟨b, off + k * 4 + 1, none⟩) hb id).trans (hcell 1 .i64 rfl).1)
      have c2 := ((HW.out.fr.cell (p := ⟨b, off + k * 4 + 2, none⟩) hb id).trans (hcell 2 .u64 rfl).1)
      have c3 := ((HW.out.fr.cell (p := ⟨b, off + k * 4 + 3, none⟩) hb id).trans (hcell 3 .u64 rfl).1)
      rw [Nat.add_zero] at c0
      have HA := Lib.hid (u64_rng (hcell 2 .u64 rfl).2)
      have HV := Lib.hid (u64_rng (hcell 3 .u64 rfl).2)
      clear hk hk2 hlt hcell
      go_wp2_with fail
      refine (HW.out.step (by have := HK.out; omega) (V k 0) (V k 1) (V k 2) (V k 3) HA.out HV.out).mono ?_
      rintro e w7 ⟨rfl, g7, h7⟩
      have W7 := Lib.hid h7
      obtain ⟨l7, ⟨ao, cp, s3⟩, t7⟩ := h7.count (by have := HK.out; omega)
      have TK := Lib.hid (fun n => t7 (w7.drewN n) (Fr.drewN (Fr.refl Nil w7) n))
      have u0 := h7.b.cellv (i := 0) rfl
      have u1 := h7.b.cellv (i := 1) rfl
      have gl : (g7.length : Int) ≤ 200 := by omega
      clear t7 h7 l7 c0 c1 c2 c3
      generalize g7.length = gn at *
      go_upto_region 13 with fail
      go_quiet ((go_at_call 21; exact Calls.quiet_of_same (TK.out _)))
      have W8 := Lib.hid (W7.out.still (Fr.drewN (Fr.refl Nil w7) nq))
      clear u0 u1 s3 W7 TK gl
      generalize w7.drewN nq = w8 at *
      go_wp2_with fail
      go_roundw
      case rel => exact ⟨k + 1, g7, by have := HK.out; omega, by have := HK.out; omega, by go_num, W8.out⟩
      case measure => have := HK.out; simp [intOf]; omega
    · have hx : (decide ((k : Int) < (len : Int)) = false ∧ decide (k < len) = false) ∨ ((k : Int) < (len : Int) ∧ k = 200) := by
        by_cases h : k < len
        · exact .inr ⟨by omega, by omega⟩
        · exact .inl ⟨by simp; omega, by simp; omega⟩
      obtain ⟨od, ol, O1, O2, ST0, ST1⟩ := HW.out.orders hk2
      obtain ⟨l7, ⟨ao, cp, s3⟩, t7⟩ := HW.out.count hk2
      have hc3 := fun w' (f : Fr Nil wr w') => ((HW.out.still f).count hk2).2.1
      have u0 := HW.out.b.cellv (i := 0) rfl
      have u1 := HW.out.b.cellv (i := 1) rfl
      have OD := Lib.hid O1
      have RD := Lib.hid O2
      have SZ := Lib.hid ST0
      have SO := Lib.hid ST1
      have OL := Lib.hid ol
      have GL := Lib.hid l7
      have gl : (g.length : Int) ≤ 200 := by omega
      clear hk hk2 hlt t7 O1 O2 ST0 ST1 ol l7
      generalize g.length = gn at *
      rcases hx with ⟨x1, x2⟩ | ⟨x1, rfl⟩
      all_goals
        go_wp2_with fail
        refine (OD.out _ (Fr.refl Nil _)).mono ?_
        rintro e w7 ⟨a1, cap1, rfl, hw1, f1, o1⟩
        have W1 := Lib.hid hw1
        have F7 := Lib.hid f1
        have u1' := (HW.out.still f1).b.cellv (i := 1) rfl
        clear hw1 f1 o1 u0 u1
        go_wp2_with fail
        refine (RD.out _ F7.out).mono ?_
        rintro e w8 ⟨a2, cap2, rfl, hw2, f2, o2⟩
        have W2 := Lib.hid hw2
        have W18 := Lib.hid (W1.out.fr f2 fun _ _ => id)
        have F8 := Lib.hid (F7.out.trans f2)
        have H8 := Lib.hid (HW.out.still F8.out)
        have v0 := H8.out.b.cellv (i := 0) rfl
        have v1 := H8.out.b.cellv (i := 1) rfl
        obtain ⟨ao', cp', s3'⟩ := hc3 _ F8.out
        clear hw2 f2 o2 W1 F7 u1' s3 hc3
        go_wp2_with fail
        refine (SZ.out _ F8.out 0 (.inl (by decide))).mono ?_
        rintro e w9 ⟨rfl, rfl⟩
        go_wp2_with fail
        refine (SZ.out _ F8.out (-1) (.inl (by decide))).mono ?_
        rintro e w9 ⟨rfl, rfl⟩
        go_wp2_with fail
        refine (SZ.out _ F8.out ((gn : Int) + 1) (.inr (by omega))).mono ?_
        rintro e w9 ⟨rfl, rfl⟩
        have HO := Lib.hid (show (od.length : Int) ≤ 200 by have := OL.out; omega)
        clear v0 v1 s3' gl
        go_wp2_with fail
        go_loopw [20] (fun i wr => ∃ j : Nat, j ≤ od.length ∧ i = .int .i64 (j : Int) ∧ Fr Nil w8 wr) (fun i _ => 200 - (intOf i).toNat)
        case atStart => exact ⟨0, Nat.zero_le _, rfl, Fr.refl _ _⟩
        case round =>
          obtain ⟨j, hj, rfl, hf⟩ := hrel
          have HF := Lib.hid hf
          clear hf
          by_cases hlt : j < od.length
          · have HJ := Lib.hid hlt
            have jn : (j : Int) < (od.length : Int) := by omega
            obtain ⟨t, ht⟩ : ∃ t, od[j]? = some t := ⟨_, List.getElem?_eq_getElem hlt⟩
            obtain ⟨g1, off1, cap1', ev1, -, -, -, hc1, -⟩ := (W18.out.fr HF.out fun _ _ => id).form (by omega)
            cases ev1
            obtain ⟨g2, off2, cap2', ev2, -, -, -, hc2, -⟩ := (W2.out.fr HF.out fun _ _ => id).form (by omega)
            cases ev2
            have q1 := hc1 j (.int .i64 (t : Int)) (its_get ht)
            have q2 := hc2 j (.int .i64 (t : Int)) (its_get ht)
            have HQ := Lib.hid (fun n => SO.out (wr.drewN n) (F8.out.trans (Fr.drewN HF.out n)) j t ht)
            have o200 := HO.out
            clear hc1 hc2 hj hlt ht
            go_upto_region 22 with fail
            go_quiet ((go_at_call 30; exact Calls.quiet_of_same (HQ.out _)))
            clear HQ q1 q2
            go_wp2_with fail
            go_roundw
            case rel => exact ⟨j + 1, HJ.out, by go_num, Fr.drewN HF.out _⟩
            case measure => have := HJ.out; have := OL.out; simp [intOf]; omega
          · obtain rfl : j = od.length := by omega
            have lx : decide (od.length < od.length) = false := by simp
            clear hj hlt
            go_wp2_with fail
            go_ret
            exact ⟨rfl, (H8.out.fr.trans HF.out).below (Nat.le_refl _) fun _ _ x => x⟩
end Go.Proofs.Ytjbdbmahbcaniaa
