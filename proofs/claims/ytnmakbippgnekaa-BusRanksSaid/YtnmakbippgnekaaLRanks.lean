/- BusRanks: the walk. -/
import Derived.Test.YtnmakbippgnekaaPk
set_option linter.unusedSimpArgs false
set_option linter.unusedVariables false
set_option linter.unusedSectionVars false
namespace Go.Proofs.Ytnmakbippgnekaa
open Go.RowKit
set_option maxRecDepth 100000

set_option maxHeartbeats 4000000 in
theorem busRanks_walk (z : Int) (a1 : Option Addr) (n1 cap1 : Nat) (Z : Nat → Int) (a2 : Option Addr) (n2 cap2 : Nat) (V : Nat → Int) (w : World) (w1 : (Lit.int .i64 z).wf = true)
    (hl1 : n1 ≤ cap1) (hcap1 : cap1 ≤ maxLen) (hs1 : SlInts .i64 w a1 n1 Z) (hl2 : n2 ≤ cap2) (hcap2 : cap2 ≤ maxLen) (hs2 : SlInts .u64 w a2 n2 V) :
    Calls Try.prog 5 #[.int .i64 z, .slice a1 n1 cap1, .slice a2 n2 cap2] w fun e w' => e = .returned (.bool true) ∧ Below w.heap.size w w' := by
  obtain ⟨z0, z1⟩ := i64_rng w1
  have KN := Lib.hid (known_ok w)
  obtain ⟨c, hcp, hc⟩ := pk3 (x := z) (n := 4) (by omega)
  have PI := fun w => pick_ok z 4 w z0 z1 (by omega) (by omega)
  rw [show pk z 4 = (c : Int) from hcp] at PI
  have PI := Lib.hid PI
  have HC := Lib.hid hc
  have HS1 := Lib.hid hs1
  have HS2 := Lib.hid hs2
  have l1 : (n1 : Int) ≤ 9223372036854775807 := by simp only [maxLen] at hcap1; omega
  have l2 : (n2 : Int) ≤ 9223372036854775807 := by simp only [maxLen] at hcap2; omega
  have c2 : (c : Int) < 4 := by omega
  clear hc hcp z0 z1 w1 hl1 hcap1 hs1 hl2 hcap2 hs2
  go_enter Try.func5, Try.ntmps5
  go_wp2_with fail
  refine KN.out.mono ?_
  rintro e wa ⟨rfl, f1⟩
  have F1 := Lib.hid f1
  clear f1 KN
  go_wp2_with fail
  refine (bw_new (w0 := w) F1.out.nil 4 rfl (by decide) (by decide)).mono ?_
  rintro e w1 ⟨bb, gb, tb, rfl, h1⟩
  have H1 := Lib.hid h1
  clear h1 F1
  go_wp2_with fail
  refine (PI.out _).mono ?_
  rintro e w2 ⟨rfl, rfl⟩
  have H2 := Lib.hid (Rw.start H1.out)
  clear H1
  go_upto_region 8 with fail
  generalize ((w1.alloc (.cells #[.int .u64 0, .int .u64 0, .int .u64 0, .int .u64 0, .int .u64 0, .int .u64 0, .int .u64 0, .int .u64 0, .int .u64 0, .int .u64 0, .int .u64 0, .int .u64 0, .int .u64 0, .int .u64 0, .int .u64 0, .int .u64 0, .int .u64 0, .int .u64 0, .int .u64 0, .int .u64 0, .int .u64 0, .int .u64 0, .int .u64 0, .int .u64 0, .int .u64 0, .int .u64 0, .int .u64 0, .int .u64 0, .int .u64 0, .int .u64 0, .int .u64 0, .int .u64 0, .int .u64 0, .int .u64 0, .int .u64 0, .int .u64 0, .int .u64 0, .int .u64 0, .int .u64 0, .int .u64 0, .int .u64 0, .int .u64 0, .int .u64 0, .int .u64 0, .int .u64 0, .int .u64 0, .int .u64 0, .int .u64 0, .int .u64 0, .int .u64 0, .int .u64 0, .int .u64 0, .int .u64 0, .int .u64 0, .int .u64 0, .int .u64 0, .int .u64 0, .int .u64 0, .int .u64 0, .int .u64 0, .int .u64 0, .int .u64 0, .int .u64 0, .int .u64 0] 46)).alloc (.cells #[.int .u64 0, .int .u64 0, .int .u64 0, .int .u64 0, .int .u64 0, .int .u64 0, .int .u64 0, .int .u64 0, .int .u64 0, .int .u64 0, .int .u64 0, .int .u64 0, .int .u64 0, .int .u64 0, .int .u64 0, .int .u64 0, .int .u64 0, .int .u64 0, .int .u64 0, .int .u64 0, .int .u64 0, .int .u64 0, .int .u64 0, .int .u64 0, .int .u64 0, .int .u64 0, .int .u64 0, .int .u64 0, .int .u64 0, .int .u64 0, .int .u64 0, .int .u64 0, .int .u64 0, .int .u64 0, .int .u64 0, .int .u64 0, .int .u64 0, .int .u64 0, .int .u64 0, .int .u64 0, .int .u64 0, .int .u64 0, .int .u64 0, .int .u64 0, .int .u64 0, .int .u64 0, .int .u64 0, .int .u64 0, .int .u64 0, .int .u64 0, .int .u64 0, .int .u64 0, .int .u64 0, .int .u64 0, .int .u64 0, .int .u64 0, .int .u64 0, .int .u64 0, .int .u64 0, .int .u64 0, .int .u64 0, .int .u64 0, .int .u64 0, .int .u64 0] 46)) = w3 at *
  generalize hb2 : w1.heap.size + 1 = b2 at *
  generalize w1.heap.size = b1 at *
  clear hb2
  go_wp2_with fail
  go_loopw [13] (fun i wr => ∃ k : Nat, k ≤ 64 ∧ i = .int .i64 (k : Int) ∧ Rw w wr bb gb tb b1 b2 (B0 4) (ini k) (fun _ => 0)) (fun i _ => 64 - (intOf i).toNat)
  case atStart => exact ⟨0, by omega, rfl, H2.out⟩
  case round =>
    clear H2
    obtain ⟨k, hk, rfl, hW⟩ := hrel
    have HW := Lib.hid hW
    by_cases hlt : k < 64
    · have HK := Lib.hid hlt
      have kn : (k : Int) < 64 := by omega
      have q0 := hW.r.cellv (uarr_get (f := ini k) hlt)
      have q1 := hW.r.frozen k
      clear hk hW hlt
      go_upto_region 10 with fail
      have H5 := Lib.hid (HW.out.setR k 160)
      rw [ini_next] at H5
      generalize wr.setCell ⟨b1, k, none⟩ (.int .u64 160) = w5 at *
      clear q0 q1
      go_wp2_with fail
      go_roundw
      case rel => exact ⟨k + 1, HK.out, by go_num, H5.out⟩
      case measure => have := HK.out; simp [intOf]; omega
    · obtain rfl : k = 64 := by omega
      have H3 := Lib.hid (show Rw w wr bb gb tb b1 b2 (B0 4) (fun _ => 160) (fun _ => 0) from ⟨hW.mem, hW.r.cast (uarr_congr fun k hk => by unfold ini; rw [if_pos hk]), hW.t, hW.ne, hW.n1, hW.n2, hW.fr⟩)
      clear hk hW hlt HW
      go_wp2_with fail
      go_loopw [14, 15] (fun i d wr => ∃ (k : Nat) (B : BS) (R T : Nat → Int), k ≤ n1 ∧ k ≤ n2 ∧ k ≤ 60 ∧ i = .int .i64 (k : Int) ∧ Rw w wr bb gb tb b1 b2 B R T ∧ Pr B c R T) (fun i _ _ => 60 - (intOf i).toNat)
      case atStart => exact ⟨0, _, _, _, Nat.zero_le _, Nat.zero_le _, by omega, rfl, H3.out, Pr.start c⟩
      case round =>
        clear H3
        obtain ⟨k, B, R, T, hk1, hk2, hk3, rfl, hW, hP⟩ := hrel
        have HW := Lib.hid hW
        have PP := Lib.hid hP
        clear hW hP
        by_cases hlt : k < n1 ∧ k < n2 ∧ k < 60
        · have HK := Lib.hid hlt
          have e1 : (k : Int) < (n1 : Int) := by omega
          have e2 : (k : Int) < (n2 : Int) := by omega
          have e3 : (k : Int) < 60 := by omega
          obtain ⟨g1, o1, ha1, hg1, hz, hzw⟩ := HS1.out k hlt.1
          obtain ⟨g2, o2, ha2, hg2, hv, hvw⟩ := HS2.out k hlt.2.1
          subst ha1
          subst ha2
          obtain ⟨y0, y1⟩ := i64_rng hzw
          obtain ⟨x0, x1⟩ := u64_rng hvw
          have VZ := Lib.hid (fun W (f : Fr (fun k => ¬ k < w.heap.size) w W) => (f.cell (p := ⟨g1, o1 + k, none⟩) hg1 (fun hn => hn hg1)).trans hz)
          have VV := Lib.hid (fun W (f : Fr (fun k => ¬ k < w.heap.size) w W) => (f.cell (p := ⟨g2, o2 + k, none⟩) hg2 (fun hn => hn hg2)).trans hv)
          obtain ⟨id, hid, hi⟩ := pk3 (x := Z k) (n := 64) (by omega)
          have PJ := fun w => pick_ok (Z k) 64 w y0 y1 (by omega) (by omega)
          rw [show pk (Z k) 64 = (id : Int) from hid] at PJ
          have PJ := Lib.hid PJ
          have HI := Lib.hid hi
          have i64 : (id : Int) < 64 := by omega
          have q0 := VZ.out wr HW.out.fr
          have q1 := VV.out wr HW.out.fr
          have HX := Lib.hid (And.intro x0 x1)
          obtain ⟨W3, F3⟩ := wr3 B c id (V k) PP.out.n HC.out hi
          have E3 := Lib.hid (And.intro W3 F3)
          have P1 := Lib.hid (PP.out.rank HC.out id hi (V k % 256) (by omega) (by omega))
          have aa := and255 (V k) x0 x1
          generalize Z k = zz at *
          generalize V k = x at *
          obtain ⟨xm, hxm⟩ : ∃ xm, xm = x % 256 := ⟨_, rfl⟩
          have XM := Lib.hid (show 0 ≤ xm ∧ xm ≤ 255 by omega)
          rw [← hxm] at aa P1 E3
          obtain ⟨xd, hxd⟩ : ∃ xd, x / 256 = xd := ⟨_, rfl⟩
          have XD := Lib.hid (show 0 ≤ xd ∧ xd ≤ 18446744073709551615 by omega)
          have xd0 : 0 ≤ xd := XD.out.1
          have XE := Lib.hid hxd
          clear hk1 hk2 hk3 hlt hg1 hg2 hz hzw hv hvw y0 y1 hid hi W3 F3 hxm
          go_wp2_with fail
          refine (PJ.out _).mono ?_
          rintro e w5 ⟨rfl, rfl⟩
          go_wp2_with fail
          refine (HW.out.write (c : Int) (134218240 + 8 * (id : Int)) x (by omega) (by have := HI.out; omega) HX.out.1 HX.out.2 E3.out.2 E3.out.1).mono ?_
          rintro e w5 ⟨rfl, h5⟩
          have H5 := Lib.hid h5
          have q1 := VV.out w5 h5.fr
          have u0 := h5.r.cellv (uarr_get (f := R) HI.out)
          have u1 := h5.r.frozen id
          clear h5 HW E3
          go_upto_region 19 with fail
          have H6 := Lib.hid (H5.out.setR id xm)
          generalize w5.setCell ⟨b1, id, none⟩ (.int .u64 xm) = w6 at *
          clear H5 u0 u1 q1 aa
          have q1 := VV.out w6 H6.out.fr
          by_cases h32 : 32 ≤ id
          · have i32 : (32 : Int) ≤ (id : Int) := by omega
            have d32 : decide (32 ≤ id) = true := by simpa using h32
            obtain ⟨W4, F4⟩ := wr4 { B with g := B.g.rank (c : Int) (id : Int) xm } c id xd P1.out.n HC.out h32 HI.out
            have E4 := Lib.hid (And.intro W4 F4)
            have H32 := Lib.hid h32
            clear h32 W4 F4
            go_upto_region 20 with fail
            cases hd : decide (xd < 4)
            · rw [hd, if_neg (by simp)] at E4
              go_wp2_with fail
              refine (H6.out.write (c : Int) (134218752 + 8 * ((id : Int) - 32)) xd (by have := H32.out; omega) (by have := HI.out; omega) XD.out.1 XD.out.2 E4.out.2 E4.out.1).mono ?_
              rintro e w7 ⟨rfl, h7⟩
              have H7 := Lib.hid h7
              have q1 := VV.out w7 h7.fr
              clear h7 H6 E4
              go_wp2_with fail
              go_roundw
              case rel => (repeat apply Exists.intro); exact ⟨⟨k + 1, _, _, _, HK.out.1, HK.out.2.1, HK.out.2.2, (show Value.int .i64 ((k : Int) + 1) = .int .i64 ((k + 1 : Nat) : Int) by simp), H7.out, P1.out⟩, rfl⟩
              case measure => have := HK.out; simp [intOf]; omega
            · rw [hd, if_pos rfl] at E4
              go_wp2_with fail
              refine (H6.out.write (c : Int) (134218752 + 8 * ((id : Int) - 32)) xd (by have := H32.out; omega) (by have := HI.out; omega) XD.out.1 XD.out.2 E4.out.2 E4.out.1).mono ?_
              rintro e w7 ⟨rfl, h7⟩
              have H7 := Lib.hid h7
              have q1 := VV.out w7 h7.fr
              have u0 := h7.t.cellv (uarr_get (f := T) HI.out)
              have u1 := h7.t.frozen id
              have P2 := Lib.hid (P1.out.route HC.out id HI.out H32.out xd XD.out.1 (of_decide_eq_true hd))
              clear h7 H6 E4
              go_upto_region 14 with fail
              have H8 := Lib.hid (H7.out.setT id xd)
              generalize w7.setCell ⟨b2, id, none⟩ (.int .u64 xd) = w8 at *
              clear u0 u1 q1 H7
              go_wp2_with fail
              go_roundw
              case rel => (repeat apply Exists.intro); exact ⟨⟨k + 1, _, _, _, HK.out.1, HK.out.2.1, HK.out.2.2, (show Value.int .i64 ((k : Int) + 1) = .int .i64 ((k + 1 : Nat) : Int) by simp), H8.out, P2.out⟩, rfl⟩
              case measure => have := HK.out; simp [intOf]; omega
          · have d32 : decide (32 ≤ id) = false := by simpa using h32
            have i32 : (id : Int) < 32 := by omega
            clear h32
            go_wp2_with fail
            go_roundw
            case rel => (repeat apply Exists.intro); exact ⟨⟨k + 1, _, _, _, HK.out.1, HK.out.2.1, HK.out.2.2, (show Value.int .i64 ((k : Int) + 1) = .int .i64 ((k + 1 : Nat) : Int) by simp), H6.out, P1.out⟩, rfl⟩
            case measure => have := HK.out; simp [intOf]; omega
        · have hx : decide (k < n1) = false ∨ ((k : Int) < (n1 : Int) ∧ decide (k < n2) = false) ∨ ((k : Int) < (n1 : Int) ∧ (k : Int) < (n2 : Int) ∧ k = 60) := by
            by_cases h1 : k < n1
            · by_cases h2 : k < n2
              · exact .inr (.inr ⟨by omega, by omega, by omega⟩)
              · exact .inr (.inl ⟨by omega, by simpa using h2⟩)
            · exact .inl (by simpa using h1)
          clear hlt hk1 hk2 hk3
          rcases hx with x1 | ⟨x1, x2⟩ | ⟨x1, x2, rfl⟩
          all_goals
            go_wp2_with fail
            go_loopw [16, 17, 18, 19, 20] (fun i _ _ _ _ wr => ∃ k : Nat, k ≤ 64 ∧ i = .int .i64 (k : Int) ∧ Rw w wr bb gb tb b1 b2 B R T) (fun i _ _ _ _ _ => 64 - (intOf i).toNat)
            case atStart => exact ⟨0, by omega, rfl, HW.out⟩
            case round =>
              clear HW
              obtain ⟨k, hk, rfl, hW⟩ := hrel
              have HW := Lib.hid hW
              clear hW
              by_cases hlt : k < 64
              · have HK := Lib.hid hlt
                have kn : (k : Int) < 64 := by omega
                obtain ⟨R3, RT⟩ := rd3 PP.out HC.out hlt
                have R3 := Lib.hid R3
                have RR := Lib.hid RT
                have rr := PP.out.rk k hlt
                obtain ⟨-, r0, r1⟩ := rr
                have RX := Lib.hid (uarr_get (f := R) hlt)
                have TX := Lib.hid (uarr_get (f := T) hlt)
                generalize R k = rk at *
                clear hk hlt RT
                go_wp2_with fail
                refine (HW.out.read (c : Int) (134218240 + 8 * (k : Int)) (by omega) (by have := HK.out; omega) R3.out).mono ?_
                rintro e w5 ⟨rfl, h5⟩
                have H5 := Lib.hid h5
                have q0 := h5.r.cellv RX.out
                have CG := Lib.hid (fun n => (gicp_ok (w5.drewN n) (h5.mem.still (Fr.drewN (Fr.refl _ _) n))).mono fun e w' h => And.intro h.1 h.2.symm)
                have CR := Lib.hid (fun n => ((h5.mem.still (Fr.drewN (Fr.refl _ _) n)).gicR (w := w5.drewN n) fun K' hg => hg.rate (c : Int) (k : Int)).mono fun e w' h => And.intro h.1 h.2.symm)
                rw [RR.out] at CR
                clear h5 HW
                go_upto_region 28 with fail
                go_quiet (first | (go_at_call 18; exact Calls.quiet_of_same (CG.out _)) | (go_at_call 19; exact Calls.quiet_of_same (CR.out _)))
                have H6 := Lib.hid (H5.out.still (Fr.drewN (Fr.refl _ w5) nq))
                generalize w5.drewN nq = w6 at *
                clear q0 CG CR H5
                by_cases h32 : 32 ≤ k
                · have i32 : (32 : Int) ≤ (k : Int) := by omega
                  have d32 : decide (32 ≤ k) = true := by simpa using h32
                  have R4 := Lib.hid (rd4 PP.out HC.out h32 HK.out)
                  generalize T k = tk at *
                  have H32 := Lib.hid h32
                  clear h32
                  go_wp2_with fail
                  refine (H6.out.read (c : Int) (134218752 + 8 * ((k : Int) - 32)) (by have := H32.out; omega) (by have := HK.out; omega) R4.out).mono ?_
                  rintro e w7 ⟨rfl, h7⟩
                  have HH := Lib.hid h7
                  have q0 := h7.t.cellv TX.out
                  clear h7 H6
                  go_wp2_with fail
                  go_roundw
                  case rel => first | exact ⟨k + 1, HK.out, by go_num, HH.out⟩ | ((repeat apply Exists.intro); exact ⟨⟨k + 1, HK.out, (show Value.int .i64 ((k : Int) + 1) = .int .i64 ((k + 1 : Nat) : Int) by simp), HH.out⟩, rfl⟩)
                  case measure => have := HK.out; simp [intOf]; omega
                · have i32 : (k : Int) < 32 := by omega
                  have d32 : decide (32 ≤ k) = false := by simpa using h32
                  have HH := H6
                  clear h32
                  go_wp2_with fail
                  go_roundw
                  case rel => first | exact ⟨k + 1, HK.out, by go_num, HH.out⟩ | ((repeat apply Exists.intro); exact ⟨⟨k + 1, HK.out, (show Value.int .i64 ((k : Int) + 1) = .int .i64 ((k + 1 : Nat) : Int) by simp), HH.out⟩, rfl⟩)
                  case measure => have := HK.out; simp [intOf]; omega
              · obtain rfl : k = 64 := by omega
                clear hk hlt
                go_wp2_with fail
                go_ret
                exact ⟨rfl, HW.out.below⟩
end Go.Proofs.Ytnmakbippgnekaa
