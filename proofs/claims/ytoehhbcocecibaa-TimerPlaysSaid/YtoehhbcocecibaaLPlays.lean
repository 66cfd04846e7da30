/- TimerPlays, walked (lines printed by gen_plays11.py). -/
import Derived.Test.YtoehhbcocecibaaRef
import Derived.Test.YtoehhbcocecibaaLApart
namespace Go.Proofs.Ytoehhbcocecibaa
open Go.RowKit
set_option linter.unusedVariables false
set_option maxRecDepth 100000

/-- A timer that a law has made, and the document's beside it. -/
structure PR (w : World) (b r : Nat) (s : Ts) (q gc gv : Nat) (s2 : Ts) (w' : World) : Prop where
  m1 : TM w b r s w'
  m2 : RfAt w' q gc gv s2
  lq : w.heap.size ≤ q
  lc : w.heap.size ≤ gc
  lv : w.heap.size ≤ gv
  n1 : ¬ Two b r q
  n2 : ¬ Two b r gc
  n3 : ¬ Two b r gv
section
variable {w w1 w2 : World} {b r q gc gv : Nat} {s s' s2 s2' : Ts}
theorem PR.still (h : PR w b r s q gc gv s2 w1) (hf : Fr Nil w1 w2) : PR w b r s q gc gv s2 w2 := ⟨h.m1.still hf, h.m2.fr0 hf, h.lq, h.lc, h.lv, h.n1, h.n2, h.n3⟩
theorem PR.left (h : PR w b r s q gc gv s2 w1) (hm : TM w b r s' w2) (hf : Fr (Two b r) w1 w2) : PR w b r s' q gc gv s2 w2 := ⟨hm, h.m2.fr hf h.n1 h.n2 h.n3, h.lq, h.lc, h.lv, h.n1, h.n2, h.n3⟩
theorem PR.right (h : PR w b r s q gc gv s2 w1) (hm : RfAt w2 q gc gv s2') (hf : Fr (Three q gc gv) w1 w2) : PR w b r s q gc gv s2' w2 := by
  refine ⟨⟨h.m1.mem.fr hf ?_ ?_, h.m1.fr.step hf ?_, h.m1.lb, h.m1.lr, h.m1.right⟩, hm, h.lq, h.lc, h.lv, h.n1, h.n2, h.n3⟩
  · rintro (e | e | e)
    · exact h.n1 (.inl e.symm)
    · exact h.n2 (.inl e.symm)
    · exact h.n3 (.inl e.symm)
  · rintro (e | e | e)
    · exact h.n1 (.inr e.symm)
    · exact h.n2 (.inr e.symm)
    · exact h.n3 (.inr e.symm)
  · rintro i _ (e | e | e)
    · exact .inr (by rw [e]; exact h.lq)
    · exact .inr (by rw [e]; exact h.lc)
    · exact .inr (by rw [e]; exact h.lv)
end
theorem PR.make {w w1 w2 : World} {b r q gc gv : Nat} {s s2 : Ts} (h : TM w b r s w1) (hm : RfAt w2 q gc gv s2) (hf : Fr Nil w1 w2) (l1 : w1.heap.size ≤ q) (l2 : w1.heap.size ≤ gc) (l3 : w1.heap.size ≤ gv) : PR w b r s q gc gv s2 w2 := by
  have hb := h.mem.top.lt
  have hr := h.mem.regs.lt
  have hs := h.fr.size
  refine ⟨h.still hf, hm, by omega, by omega, by omega, ?_, ?_, ?_⟩ <;> rintro (e | e) <;> omega
theorem wrS_n (s : Ts) (i sys x : Int) : (wrS s i sys x).n = s.n := by
  unfold wrS
  split
  · split
    · rfl
    · split <;> rfl
  · rfl
set_option maxHeartbeats 8000000 in
theorem timerPlays_walk (cores : Int) (a1 : Option Addr) (len cap : Nat) (V : Nat → Nat → Int) (w : World) (w1 : (Lit.int .i64 cores).wf = true) (hl : len ≤ cap) (hcap : cap ≤ maxLen) (hs : SlRows [.i64, .i64, .i64, .u64] w a1 len V) :
    Calls Try.prog 3 #[.int .i64 cores, .slice a1 len cap] w fun e w' => e = .returned (.bool true) ∧ Below w.heap.size w w' := by
  have HS := Lib.hid hs
  have hlen : (len : Int) ≤ 9223372036854775807 := by simp only [maxLen] at hcap; omega
  clear hs hl hcap w1
  by_cases hc : cores < 1 ∨ 8 < cores
  · have NB := Lib.hid (fun w' => new_bad cores w' hc)
    by_cases h1 : cores < 1
    · clear hc
      go_enter Try.func3, Try.ntmps3
      go_wp2_with fail
      refine (known_ok w).mono ?_
      rintro e wa ⟨rfl, f0⟩
      have F0 := Lib.hid f0
      clear f0
      go_wp2_with fail
      refine (NB.out wa).mono ?_
      rintro e wb ⟨rfl, rfl⟩
      go_wp2_with fail
      go_ret
      exact ⟨rfl, F0.out.bel⟩
    · have h2 : 8 < cores := by omega
      clear hc h1
      go_enter Try.func3, Try.ntmps3
      go_wp2_with fail
      refine (known_ok w).mono ?_
      rintro e wa ⟨rfl, f0⟩
      have F0 := Lib.hid f0
      clear f0
      go_wp2_with fail
      refine (NB.out wa).mono ?_
      rintro e wb ⟨rfl, rfl⟩
      go_wp2_with fail
      go_ret
      exact ⟨rfl, F0.out.bel⟩
  · obtain ⟨n, rfl⟩ : ∃ n : Nat, cores = (n : Int) := ⟨cores.toNat, by omega⟩
    have N1 := Lib.hid (show 1 ≤ n by omega)
    have N8 := Lib.hid (show n ≤ 8 by omega)
    have n1 : (1 : Int) ≤ (n : Int) := by omega
    have n8 : (n : Int) ≤ 8 := by omega
    clear hc
    go_enter Try.func3, Try.ntmps3
    go_wp2_with fail
    refine (known_ok w).mono ?_
    rintro e wa ⟨rfl, f0⟩
    have F0 := Lib.hid f0
    clear f0
    go_wp2_with fail
    refine (new_ok n wa rfl N1.out N8.out).mono ?_
    rintro e wb ⟨b, r, rfl, t0⟩
    have T0' := Lib.hid t0
    clear t0
    go_wp2_with fail
    refine (rnew_ok n wb N1.out N8.out).mono ?_
    rintro e wc ⟨q, gc, gv, rfl, rf, fc, l1, l2, l3⟩
    have P0 := Lib.hid (PR.make T0'.out rf fc l1 l2 l3)
    clear rf fc l1 l2 l3 T0'
    go_wp2_with fail
    go_loopw [9] (fun i wr => ∃ (k : Nat) (s : Ts), i = .int .i64 (k : Int) ∧ k ≤ 200 ∧ k ≤ len ∧ PR wa b r s q gc gv s wr ∧ s.n = n) (fun i _ => 200 - (intOf i).toNat)
    case atStart => exact ⟨0, _, rfl, by omega, by omega, P0.out, rfl⟩
    case round =>
      obtain ⟨k, s, rfl, hk1, hk2, mn, sn⟩ := hrel
      have MN := Lib.hid mn
      have SN := Lib.hid sn
      clear mn sn P0
      by_cases hgo : k < len ∧ k < 200
      · obtain ⟨hkl, hk60⟩ := hgo
        obtain ⟨bs, off, ha, hbs, hcell⟩ := HS.out k hkl
        have hbs2 : bs < wa.heap.size := Nat.lt_of_lt_of_le hbs F0.out.size
        have hcr : ∀ j, wr.cell? ⟨bs, off + k * 4 + j, none⟩ = w.cell? ⟨bs, off + k * 4 + j, none⟩ := fun j => (MN.out.m1.fr.cell (p := ⟨bs, off + k * 4 + j, none⟩) hbs2 id).trans (F0.out.cell (p := ⟨bs, off + k * 4 + j, none⟩) hbs id)
        have q0 : wr.cell? ⟨bs, off + k * 4, none⟩ = some (.int .i64 (V k 0)) := (hcr 0).trans (hcell 0 .i64 rfl).1
        have q1 : wr.cell? ⟨bs, off + k * 4 + 1, none⟩ = some (.int .i64 (V k 1)) := (hcr 1).trans (hcell 1 .i64 rfl).1
        have q2 : wr.cell? ⟨bs, off + k * 4 + 2, none⟩ = some (.int .i64 (V k 2)) := (hcr 2).trans (hcell 2 .i64 rfl).1
        have q3 : wr.cell? ⟨bs, off + k * 4 + 3, none⟩ = some (.int .u64 (V k 3)) := (hcr 3).trans (hcell 3 .u64 rfl).1
        obtain ⟨z0, z1⟩ := i64_rng (hcell 2 .i64 rfl).2
        obtain ⟨x0, x1⟩ := u64_rng (hcell 3 .u64 rfl).2
        have KL := Lib.hid hkl
        have K60 := Lib.hid hk60
        have hk60' : (k : Int) < 200 := by omega
        have hkl' : (k : Int) < (len : Int) := by omega
        have k0 : (0 : Int) ≤ (k : Int) := by omega
        subst ha
        clear hcell hbs hbs2 hcr hk1 hk2 hkl hk60
        have CS := Lib.hid (fun w' => sys_ok (V k 2) w' z0 z1)
        have X0 := Lib.hid x0
        have X1 := Lib.hid x1
        clear z0 z1 x0 x1
        generalize V k 0 = kind at *
        generalize V k 1 = core at *
        generalize V k 2 = sn at *
        generalize V k 3 = x at *
        go_upto_region 12 with fail
        have hB : Blk (wr.alloc (.cells #[.int .i64 kind, .int .i64 core, .int .i64 sn, .int .u64 x] 32)) wr.heap.size 32 #[.int .i64 kind, .int .i64 core, .int .i64 sn, .int .u64 x] := (Blk.new wr 32 _)
        have MZ : PR wa b r s q gc gv s (wr.alloc (.cells #[.int .i64 kind, .int .i64 core, .int .i64 sn, .int .u64 x] 32)) := MN.out.still (((Fr.refl Nil wr).alloc _))
        have NE := Lib.hid (show (¬ Two b r wr.heap.size) ∧ (¬ Three q gc gv wr.heap.size) from by
          have e1 := MN.out.m1.mem.top.lt
          have e2 := MN.out.m1.mem.regs.lt
          have e3 := MN.out.m2.top.lt
          have e4 := MN.out.m2.ctl.lt
          have e5 := MN.out.m2.cvl.lt
          refine ⟨?_, ?_⟩
          · rintro (e | e) <;> omega
          · rintro (e | e | e) <;> omega)
        generalize (wr.alloc (.cells #[.int .i64 kind, .int .i64 core, .int .i64 sn, .int .u64 x] 32)) = wz at *
        generalize wr.heap.size = O at *
        have HB := Lib.hid hB
        have HM := Lib.hid MZ
        have o2 := hB.cellv (i := 2) rfl
        clear hB MZ MN q0 q1 q2 q3
        go_wp2_with fail
        refine (CS.out _).mono ?_
        rintro e w2 ⟨rfl, f2⟩
        have M2 := Lib.hid (HM.out.still f2)
        have B2 := Lib.hid (HB.out.fr f2 id)
        have p0 := B2.out.cellv (i := 0) rfl
        have p1 := B2.out.cellv (i := 1) rfl
        have p3 := B2.out.cellv (i := 3) rfl
        clear f2 HM HB o2 CS
        generalize sysV sn = sy at *
        by_cases e1 : kind = 1
        · subst e1
          obtain ⟨vx, vy, hxy⟩ : ∃ x y, rdV s core sy = (x, y) := ⟨_, _, rfl⟩
          have R1 := Lib.hid (M2.out.m1.read core sy hxy)
          have r2 : ∀ we, PR wa b r s q gc gv s we → Calls Try.prog 12 #[.pointer (some ⟨q, 0, none⟩), .int .i64 core, .int .i64 sy] we (fun e w' => e = .returned (.tuple #[.int .u64 vx, .int .i64 vy]) ∧ Fr Nil we w') := fun we h => by
            have := rread_ok q gc gv s core sy we h.m2 h.m1.right
            rw [hxy] at this
            exact this
          have R2 := Lib.hid r2
          clear r2 hxy
          go_wp2_with fail
          refine R1.out.mono ?_
          rintro e w3 ⟨rfl, _, f3⟩
          have M3 := Lib.hid (M2.out.still f3)
          have p1' := (B2.out.fr f3 id).cellv (i := 1) rfl
          have R3 := Lib.hid (R2.out _ M3.out)
          clear f3 R1 R2 p0 p1 p3 M2
          go_wp2_with fail
          refine R3.out.mono ?_
          rintro e w4 ⟨rfl, f4⟩
          have M0' := Lib.hid (M3.out.still f4)
          have SN' := Lib.hid SN.out
          clear f4 R3 p1' M3 B2 NE SN
          go_wp2_with fail
          go_loopw [17] (fun i wr2 => ∃ c : Int, i = .int .i64 c ∧ -1 ≤ c ∧ c ≤ (n : Int) + 1 ∧ PR wa b r s q gc gv s wr2) (fun i _ => ((n : Int) + 1 - intOf i).toNat)
          case atStart => exact ⟨-1, rfl, by omega, by omega, M0'.out⟩
          case round =>
            obtain ⟨c, rfl, cl, cu, m5⟩ := hrel
            have M5 := Lib.hid m5
            clear m5 M0'
            by_cases hcn : c ≤ (n : Int)
            · obtain ⟨hv, hhv⟩ : ∃ h, hiB s c = h := ⟨_, rfl⟩
              have r1 : Calls Try.prog 16 #[.pointer (some ⟨q, 0, none⟩), .int .i64 c] wr fun e w' => e = .returned (.bool hv) ∧ Fr Nil wr w' := by rw [← hhv]; exact rhigh_ok q gc gv s c wr M5.out.m2 M5.out.m1.right
              have h2 : ∀ we, PR wa b r s q gc gv s we → Calls Try.prog 17 #[.pointer (some ⟨b, 0, none⟩), .int .i64 c] we (Rd wa b r s we (.bool hv)) := fun we h => h.m1.high c hhv
              have R1 := Lib.hid r1
              have H2 := Lib.hid h2
              have CC := Lib.hid (And.intro cl hcn)
              clear r1 h2 hhv
              go_wp2_with fail
              refine R1.out.mono ?_
              rintro e w6 ⟨rfl, f6⟩
              have M6 := Lib.hid (M5.out.still f6)
              have H3 := Lib.hid (H2.out _ M6.out)
              clear f6 R1 H2
              go_wp2_with fail
              refine H3.out.mono ?_
              rintro e w7 ⟨rfl, _, f7⟩
              have M7 := Lib.hid (M6.out.still f7)
              clear f7 H3
              go_wp2_with fail
              go_roundw
              case rel => exact ⟨c + 1, rfl, by have := CC.out; omega, by have := CC.out; omega, M7.out⟩
              case measure => have := CC.out; simp [intOf]; omega
            · have hcn' : (n : Int) < c := by omega
              have NX := Lib.hid M5.out.m1.next
              clear hcn
              go_wp2_with fail
              refine NX.out.mono ?_
              rintro e w6 ⟨x1, y1, b1, nr, rfl, _, f6⟩
              have M6 := Lib.hid (M5.out.still f6)
              have RN := Lib.hid (rnext_ok q gc gv s w6 M6.out.m2 M6.out.m1.right)
              clear f6 NX
              go_wp2_with fail
              refine RN.out.mono ?_
              rintro e w7 ⟨x2, y2, b2, nr2, rfl, f7⟩
              obtain ⟨rfl, rfl, rfl⟩ := nr.unique nr2
              have M7 := Lib.hid (M6.out.still f7)
              have c7 := M7.out.m2.q0
              have HQ := Lib.hid (fun n => (count_ok b r s (w7.drewN n) (M7.out.m1.mem.fr0 (Fr.drewN (Fr.refl _ _) n))).mono (R' := fun e w' => e = .returned (.int .u64 s.t) ∧ w' = w7.drewN n) fun e w' h => ⟨h.1, h.2.symm⟩)
              clear f7 RN nr nr2
              go_wp2_with fail
              go_quiet ((go_at_call 20; exact Calls.quiet_of_same (HQ.out _)))
              go_wp2_with fail
              go_roundw
              case rel => exact ⟨k + 1, s, by simp, K60.out, KL.out, M7.out.still (Fr.drewN (Fr.refl _ _) _), SN'.out⟩
              case measure => have := K60.out; simp [intOf]; omega
        · have g1 : (kind == 1) = false := by simpa using e1
          by_cases e2 : kind = 2
          · subst e2
            clear e1 g1
            have RW := Lib.hid (rwrite_ok q gc gv s core sy x w2 M2.out.m2 X0.out X1.out)
            go_wp2_with fail
            refine RW.out.mono ?_
            rintro e w3 ⟨rfl, m3, f3⟩
            have M3 := Lib.hid (M2.out.right m3 f3)
            have p1' := (B2.out.fr f3 NE.out.2).cellv (i := 1) rfl
            have p3' := (B2.out.fr f3 NE.out.2).cellv (i := 3) rfl
            obtain ⟨wv, hwv⟩ : ∃ y, wrV s core sy = y := ⟨_, rfl⟩
            have TW := Lib.hid (M3.out.m1.write core sy x X0.out X1.out hwv)
            rw [hwv]
            clear m3 f3 RW p0 p1 p3 M2 hwv
            go_wp2_with fail
            refine TW.out.mono ?_
            rintro e w4 ⟨rfl, m4, f4⟩
            have M0' := Lib.hid (M3.out.left m4 f4)
            have SN' := Lib.hid ((wrS_n s core sy x).trans SN.out)
            clear m4 f4 TW p1' p3' M3 B2 NE SN
            generalize wrS s core sy x = s' at *
            go_wp2_with fail
            go_loopw [17] (fun i wr2 => ∃ c : Int, i = .int .i64 c ∧ -1 ≤ c ∧ c ≤ (n : Int) + 1 ∧ PR wa b r s' q gc gv s' wr2) (fun i _ => ((n : Int) + 1 - intOf i).toNat)
            case atStart => exact ⟨-1, rfl, by omega, by omega, M0'.out⟩
            case round =>
              obtain ⟨c, rfl, cl, cu, m5⟩ := hrel
              have M5 := Lib.hid m5
              clear m5 M0'
              by_cases hcn : c ≤ (n : Int)
              · obtain ⟨hv, hhv⟩ : ∃ h, hiB s' c = h := ⟨_, rfl⟩
                have r1 : Calls Try.prog 16 #[.pointer (some ⟨q, 0, none⟩), .int .i64 c] wr fun e w' => e = .returned (.bool hv) ∧ Fr Nil wr w' := by rw [← hhv]; exact rhigh_ok q gc gv s' c wr M5.out.m2 M5.out.m1.right
                have h2 : ∀ we, PR wa b r s' q gc gv s' we → Calls Try.prog 17 #[.pointer (some ⟨b, 0, none⟩), .int .i64 c] we (Rd wa b r s' we (.bool hv)) := fun we h => h.m1.high c hhv
                have R1 := Lib.hid r1
                have H2 := Lib.hid h2
                have CC := Lib.hid (And.intro cl hcn)
                clear r1 h2 hhv
                go_wp2_with fail
                refine R1.out.mono ?_
                rintro e w6 ⟨rfl, f6⟩
                have M6 := Lib.hid (M5.out.still f6)
                have H3 := Lib.hid (H2.out _ M6.out)
                clear f6 R1 H2
                go_wp2_with fail
                refine H3.out.mono ?_
                rintro e w7 ⟨rfl, _, f7⟩
                have M7 := Lib.hid (M6.out.still f7)
                clear f7 H3
                go_wp2_with fail
                go_roundw
                case rel => exact ⟨c + 1, rfl, by have := CC.out; omega, by have := CC.out; omega, M7.out⟩
                case measure => have := CC.out; simp [intOf]; omega
              · have hcn' : (n : Int) < c := by omega
                have NX := Lib.hid M5.out.m1.next
                clear hcn
                go_wp2_with fail
                refine NX.out.mono ?_
                rintro e w6 ⟨x1, y1, b1, nr, rfl, _, f6⟩
                have M6 := Lib.hid (M5.out.still f6)
                have RN := Lib.hid (rnext_ok q gc gv s' w6 M6.out.m2 M6.out.m1.right)
                clear f6 NX
                go_wp2_with fail
                refine RN.out.mono ?_
                rintro e w7 ⟨x2, y2, b2, nr2, rfl, f7⟩
                obtain ⟨rfl, rfl, rfl⟩ := nr.unique nr2
                have M7 := Lib.hid (M6.out.still f7)
                have c7 := M7.out.m2.q0
                have HQ := Lib.hid (fun n => (count_ok b r s' (w7.drewN n) (M7.out.m1.mem.fr0 (Fr.drewN (Fr.refl _ _) n))).mono (R' := fun e w' => e = .returned (.int .u64 s'.t) ∧ w' = w7.drewN n) fun e w' h => ⟨h.1, h.2.symm⟩)
                clear f7 RN nr nr2
                go_wp2_with fail
                go_quiet ((go_at_call 20; exact Calls.quiet_of_same (HQ.out _)))
                go_wp2_with fail
                go_roundw
                case rel => exact ⟨k + 1, s', by simp, K60.out, KL.out, M7.out.still (Fr.drewN (Fr.refl _ _) _), SN'.out⟩
                case measure => have := K60.out; simp [intOf]; omega
          · have g2 : (kind == 2) = false := by simpa using e2
            by_cases e3 : kind = 3
            · subst e3
              clear e1 e2 g1 g2
              have q0 := M2.out.m2.q0
              have fq := M2.out.m2.top.frozen 0
              have hR : RfAt (w2.setCell ⟨q, 0, none⟩ (.int .u64 (IntKind.u64.wrap (s.t + x)))) q gc gv { s with t := IntKind.u64.wrap (s.t + x) } := ⟨(M2.out.m2.top.set_ 0 _).cast rfl, M2.out.m2.ctl.farc (Ne.symm M2.out.m2.nc) _, M2.out.m2.cvl.farc (Ne.symm M2.out.m2.nv) _, M2.out.m2.ne⟩
              have M3 := Lib.hid (M2.out.right hR (((Fr.refl (One q) _).set1 _).wide fun i h => .inl h))
              have B3 := Lib.hid (B2.out.farc (fun e => NE.out.2 (.inl e)) (i := 0) (.int .u64 (IntKind.u64.wrap (s.t + x))))
              clear hR
              go_upto_region 24 with fail
              go_region
              all_goals
                have M4 := Lib.hid (M3.out.still (Fr.refl Nil _).drew)
                have B4 := Lib.hid B3.out.drew
                generalize (w2.setCell ⟨q, 0, none⟩ (.int .u64 (IntKind.u64.wrap (s.t + x)))).drew = w3 at *
                have p3' := B4.out.cellv (i := 3) rfl
                have TW := Lib.hid (M4.out.m1.tick x)
                clear p0 p1 p3 q0 fq M3 B3 M2 B2
                go_wp2_with fail
                refine TW.out.mono ?_
                rintro e w4 ⟨rfl, m4, f4⟩
                have M0' := Lib.hid (M4.out.left m4 f4)
                have SN' := Lib.hid (show ({ s with t := IntKind.u64.wrap (s.t + x) } : Ts).n = n from SN.out)
                clear m4 f4 TW p3' M4 B4 NE SN
                generalize ({ s with t := IntKind.u64.wrap (s.t + x) } : Ts) = s' at *
                go_wp2_with fail
                go_loopw [17] (fun i wr2 => ∃ c : Int, i = .int .i64 c ∧ -1 ≤ c ∧ c ≤ (n : Int) + 1 ∧ PR wa b r s' q gc gv s' wr2) (fun i _ => ((n : Int) + 1 - intOf i).toNat)
                case atStart => exact ⟨-1, rfl, by omega, by omega, M0'.out⟩
                case round =>
                  obtain ⟨c, rfl, cl, cu, m5⟩ := hrel
                  have M5 := Lib.hid m5
                  clear m5 M0'
                  by_cases hcn : c ≤ (n : Int)
                  · obtain ⟨hv, hhv⟩ : ∃ h, hiB s' c = h := ⟨_, rfl⟩
                    have r1 : Calls Try.prog 16 #[.pointer (some ⟨q, 0, none⟩), .int .i64 c] wr fun e w' => e = .returned (.bool hv) ∧ Fr Nil wr w' := by rw [← hhv]; exact rhigh_ok q gc gv s' c wr M5.out.m2 M5.out.m1.right
                    have h2 : ∀ we, PR wa b r s' q gc gv s' we → Calls Try.prog 17 #[.pointer (some ⟨b, 0, none⟩), .int .i64 c] we (Rd wa b r s' we (.bool hv)) := fun we h => h.m1.high c hhv
                    have R1 := Lib.hid r1
                    have H2 := Lib.hid h2
                    have CC := Lib.hid (And.intro cl hcn)
                    clear r1 h2 hhv
                    go_wp2_with fail
                    refine R1.out.mono ?_
                    rintro e w6 ⟨rfl, f6⟩
                    have M6 := Lib.hid (M5.out.still f6)
                    have H3 := Lib.hid (H2.out _ M6.out)
                    clear f6 R1 H2
                    go_wp2_with fail
                    refine H3.out.mono ?_
                    rintro e w7 ⟨rfl, _, f7⟩
                    have M7 := Lib.hid (M6.out.still f7)
                    clear f7 H3
                    go_wp2_with fail
                    go_roundw
                    case rel => exact ⟨c + 1, rfl, by have := CC.out; omega, by have := CC.out; omega, M7.out⟩
                    case measure => have := CC.out; simp [intOf]; omega
                  · have hcn' : (n : Int) < c := by omega
                    have NX := Lib.hid M5.out.m1.next
                    clear hcn
                    go_wp2_with fail
                    refine NX.out.mono ?_
                    rintro e w6 ⟨x1, y1, b1, nr, rfl, _, f6⟩
                    have M6 := Lib.hid (M5.out.still f6)
                    have RN := Lib.hid (rnext_ok q gc gv s' w6 M6.out.m2 M6.out.m1.right)
                    clear f6 NX
                    go_wp2_with fail
                    refine RN.out.mono ?_
                    rintro e w7 ⟨x2, y2, b2, nr2, rfl, f7⟩
                    obtain ⟨rfl, rfl, rfl⟩ := nr.unique nr2
                    have M7 := Lib.hid (M6.out.still f7)
                    have c7 := M7.out.m2.q0
                    have HQ := Lib.hid (fun n => (count_ok b r s' (w7.drewN n) (M7.out.m1.mem.fr0 (Fr.drewN (Fr.refl _ _) n))).mono (R' := fun e w' => e = .returned (.int .u64 s'.t) ∧ w' = w7.drewN n) fun e w' h => ⟨h.1, h.2.symm⟩)
                    clear f7 RN nr nr2
                    go_wp2_with fail
                    go_quiet ((go_at_call 20; exact Calls.quiet_of_same (HQ.out _)))
                    go_wp2_with fail
                    go_roundw
                    case rel => exact ⟨k + 1, s', by simp, K60.out, KL.out, M7.out.still (Fr.drewN (Fr.refl _ _) _), SN'.out⟩
                    case measure => have := K60.out; simp [intOf]; omega
            · have g3 : (kind == 3) = false := by simpa using e3
              clear e1 e2 e3
              have M0' := Lib.hid M2.out
              have SN' := Lib.hid SN.out
              clear p1 p3 M2 B2 NE SN
              go_wp2_with fail
              go_loopw [17] (fun i wr2 => ∃ c : Int, i = .int .i64 c ∧ -1 ≤ c ∧ c ≤ (n : Int) + 1 ∧ PR wa b r s q gc gv s wr2) (fun i _ => ((n : Int) + 1 - intOf i).toNat)
              case atStart => exact ⟨-1, rfl, by omega, by omega, M0'.out⟩
              case round =>
                obtain ⟨c, rfl, cl, cu, m5⟩ := hrel
                have M5 := Lib.hid m5
                clear m5 M0'
                by_cases hcn : c ≤ (n : Int)
                · obtain ⟨hv, hhv⟩ : ∃ h, hiB s c = h := ⟨_, rfl⟩
                  have r1 : Calls Try.prog 16 #[.pointer (some ⟨q, 0, none⟩), .int .i64 c] wr fun e w' => e = .returned (.bool hv) ∧ Fr Nil wr w' := by rw [← hhv]; exact rhigh_ok q gc gv s c wr M5.out.m2 M5.out.m1.right
                  have h2 : ∀ we, PR wa b r s q gc gv s we → Calls Try.prog 17 #[.pointer (some ⟨b, 0, none⟩), .int .i64 c] we (Rd wa b r s we (.bool hv)) := fun we h => h.m1.high c hhv
                  have R1 := Lib.hid r1
                  have H2 := Lib.hid h2
                  have CC := Lib.hid (And.intro cl hcn)
                  clear r1 h2 hhv
                  go_wp2_with fail
                  refine R1.out.mono ?_
                  rintro e w6 ⟨rfl, f6⟩
                  have M6 := Lib.hid (M5.out.still f6)
                  have H3 := Lib.hid (H2.out _ M6.out)
                  clear f6 R1 H2
                  go_wp2_with fail
                  refine H3.out.mono ?_
                  rintro e w7 ⟨rfl, _, f7⟩
                  have M7 := Lib.hid (M6.out.still f7)
                  clear f7 H3
                  go_wp2_with fail
                  go_roundw
                  case rel => exact ⟨c + 1, rfl, by have := CC.out; omega, by have := CC.out; omega, M7.out⟩
                  case measure => have := CC.out; simp [intOf]; omega
                · have hcn' : (n : Int) < c := by omega
                  have NX := Lib.hid M5.out.m1.next
                  clear hcn
                  go_wp2_with fail
                  refine NX.out.mono ?_
                  rintro e w6 ⟨x1, y1, b1, nr, rfl, _, f6⟩
                  have M6 := Lib.hid (M5.out.still f6)
                  have RN := Lib.hid (rnext_ok q gc gv s w6 M6.out.m2 M6.out.m1.right)
                  clear f6 NX
                  go_wp2_with fail
                  refine RN.out.mono ?_
                  rintro e w7 ⟨x2, y2, b2, nr2, rfl, f7⟩
                  obtain ⟨rfl, rfl, rfl⟩ := nr.unique nr2
                  have M7 := Lib.hid (M6.out.still f7)
                  have c7 := M7.out.m2.q0
                  have HQ := Lib.hid (fun n => (count_ok b r s (w7.drewN n) (M7.out.m1.mem.fr0 (Fr.drewN (Fr.refl _ _) n))).mono (R' := fun e w' => e = .returned (.int .u64 s.t) ∧ w' = w7.drewN n) fun e w' h => ⟨h.1, h.2.symm⟩)
                  clear f7 RN nr nr2
                  go_wp2_with fail
                  go_quiet ((go_at_call 20; exact Calls.quiet_of_same (HQ.out _)))
                  go_wp2_with fail
                  go_roundw
                  case rel => exact ⟨k + 1, s, by simp, K60.out, KL.out, M7.out.still (Fr.drewN (Fr.refl _ _) _), SN'.out⟩
                  case measure => have := K60.out; simp [intOf]; omega
      · have hx : (k < len ∧ k = 200) ∨ k = len := by omega
        have FF := Lib.hid (F0.out.trans MN.out.m1.fr)
        clear hgo HS MN
        rcases hx with ⟨hkl, rfl⟩ | rfl
        · have hkl' : (200 : Int) < (len : Int) := by omega
          clear hk1 hk2 hkl
          go_wp2_with fail
          go_ret
          exact ⟨rfl, FF.out.bel⟩
        · clear hk1 hk2
          go_wp2_with fail
          go_ret
          exact ⟨rfl, FF.out.bel⟩
end Go.Proofs.Ytoehhbcocecibaa
