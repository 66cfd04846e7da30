/- TimerAdds, walked (lines printed by gen_adds.py). -/
import Derived.Test.YtoehhbcocecibaaLApart
namespace Go.Proofs.Ytoehhbcocecibaa
open Go.RowKit
set_option linter.unusedVariables false
set_option maxRecDepth 100000

/-- Two timers that a law has made. -/
structure TT (w : World) (b r : Nat) (s : Ts) (b2 r2 : Nat) (s2 : Ts) (w' : World) : Prop where
  m1 : TM w b r s w'
  m2 : TM w b2 r2 s2 w'
  n1 : ¬ Two b r b2
  n2 : ¬ Two b r r2
theorem TT.make {w w1 w2 : World} {b r : Nat} {s : Ts} {b2 r2 : Nat} {s2 : Ts} (h1 : TM w b r s w1) (h2 : TM w1 b2 r2 s2 w2) : TT w b r s b2 r2 s2 w2 := by
  have hb := h1.mem.top.lt
  have hr := h1.mem.regs.lt
  have l1 := h2.lb
  have l2 := h2.lr
  refine ⟨h1.still h2.fr, ⟨h2.mem, h1.fr.trans h2.fr, Nat.le_trans h1.fr.size l1, Nat.le_trans h1.fr.size l2, h2.right⟩, ?_, ?_⟩
  · rintro (h | h) <;> omega
  · rintro (h | h) <;> omega
section
variable {w w1 w2 : World} {b r b2 r2 : Nat} {s s' s2 : Ts}
theorem TT.still (h : TT w b r s b2 r2 s2 w1) (hf : Fr Nil w1 w2) : TT w b r s b2 r2 s2 w2 := ⟨h.m1.still hf, h.m2.still hf, h.n1, h.n2⟩
theorem TT.left (h : TT w b r s b2 r2 s2 w1) (hm : TM w b r s' w2) (hf : Fr (Two b r) w1 w2) : TT w b r s' b2 r2 s2 w2 := ⟨hm, ⟨h.m2.mem.fr hf h.n1 h.n2, hm.fr, h.m2.lb, h.m2.lr, h.m2.right⟩, h.n1, h.n2⟩
theorem TT.right (h : TT w b r s b2 r2 s2 w1) (hm : TM w b2 r2 s' w2) (hf : Fr (Two b2 r2) w1 w2) : TT w b r s b2 r2 s' w2 := by
  have q1 := h.n1
  have q2 := h.n2
  refine ⟨⟨h.m1.mem.fr hf ?_ ?_, hm.fr, h.m1.lb, h.m1.lr, h.m1.right⟩, hm, h.n1, h.n2⟩
  · rintro (e | e)
    · exact q1 (.inl e.symm)
    · exact q2 (.inl e.symm)
  · rintro (e | e)
    · exact q1 (.inr e.symm)
    · exact q2 (.inr e.symm)
end
theorem wrS_nt (s : Ts) (i sys x : Int) : (wrS s i sys x).n = s.n ∧ (wrS s i sys x).t = s.t := by
  unfold wrS
  split
  · split
    · exact ⟨rfl, rfl⟩
    · split <;> exact ⟨rfl, rfl⟩
  · exact ⟨rfl, rfl⟩
set_option maxHeartbeats 8000000 in
theorem timerAdds_walk (cores : Int) (a1 : Option Addr) (len cap : Nat) (V : Nat → Nat → Int) (a2 : Option Addr) (lenp capp : Nat) (Z : Nat → Int) (w : World) (w1 : (Lit.int .i64 cores).wf = true) (hl : len ≤ cap) (hcap : cap ≤ maxLen) (hs : SlRows [.i64, .i64, .i64, .u64] w a1 len V) (hl2 : lenp ≤ capp) (hcap2 : capp ≤ maxLen) (hz : SlInts .u64 w a2 lenp Z) :
    Calls Try.prog 5 #[.int .i64 cores, .slice a1 len cap, .slice a2 lenp capp] w fun e w' => e = .returned (.bool true) ∧ Below w.heap.size w w' := by
  obtain ⟨c0, c1⟩ := i64_rng w1
  have HS := Lib.hid hs
  have HZ := Lib.hid hz
  have hlen : (len : Int) ≤ 9223372036854775807 := by simp only [maxLen] at hcap; omega
  have hlenp : (lenp : Int) ≤ 9223372036854775807 := by simp only [maxLen] at hcap2; omega
  obtain ⟨D, hD⟩ : ∃ D : Nat, np cores % 8 = (D : Int) := ⟨(np cores % 8).toNat, by omega⟩
  have d0 : (0 : Int) ≤ (D : Int) := by omega
  have d8 : (D : Int) < 8 := by omega
  have DN := Lib.hid (show D < 8 by omega)
  clear hs hz hl hcap hl2 hcap2 w1
  by_cases hn : cores < 0
  · have hnp : np cores = -(cores + 1) := by unfold np; rw [if_pos hn]
    have ht : -((cores + 1).tmod 8) = (D : Int) := by rw [← hD, hnp, ← Int.neg_tmod, Int.tmod_eq_emod_of_nonneg (by omega)]
    clear hD hnp
    go_enter Try.func5, Try.ntmps5
    go_wp2_with fail
    refine (known_ok w).mono ?_
    rintro e wa ⟨rfl, f0⟩
    have F0 := Lib.hid f0
    clear f0
    go_wp2_with fail
    refine (new_ok (1 + D) (z := 1 + (D : Int)) wa (by omega) (by omega) (by have := DN.out; omega)).mono ?_
    rintro e wb ⟨b, r, rfl, t0⟩
    have T1 := Lib.hid t0
    clear t0 ht hn c0 c1
    go_wp2_with fail
    refine (new_ok (1 + D) (z := 1 + (D : Int)) wb (by omega) (by omega) (by have := DN.out; omega)).mono ?_
    rintro e wc ⟨b2, r2, rfl, t0⟩
    have T2 := Lib.hid (TT.make T1.out t0)
    clear t0 T1
    go_wp2_with fail
    go_loopw [12] (fun i wr => ∃ (k : Nat) (s : Ts), i = .int .i64 (k : Int) ∧ k ≤ 60 ∧ k ≤ len ∧ TT wa b r s b2 r2 s wr ∧ s.n = 1 + D ∧ s.t = 0) (fun i _ => 60 - (intOf i).toNat)
    case atStart => exact ⟨0, _, rfl, by omega, by omega, T2.out, rfl, rfl⟩
    case round =>
      obtain ⟨k, s, rfl, hk1, hk2, mn, sn, st⟩ := hrel
      have MN := Lib.hid mn
      have SN := Lib.hid (And.intro sn st)
      clear mn sn st T2
      by_cases hgo : k < len ∧ k < 60
      · obtain ⟨hkl, hk60⟩ := hgo
        obtain ⟨bs, off, ha, hbs, hcell⟩ := HS.out k hkl
        have hbs2 : bs < wa.heap.size := Nat.lt_of_lt_of_le hbs F0.out.size
        have hcr : ∀ j, wr.cell? ⟨bs, off + k * 4 + j, none⟩ = w.cell? ⟨bs, off + k * 4 + j, none⟩ := fun j => (MN.out.m1.fr.cell (p := ⟨bs, off + k * 4 + j, none⟩) hbs2 id).trans (F0.out.cell (p := ⟨bs, off + k * 4 + j, none⟩) hbs id)
        have q0 : wr.cell? ⟨bs, off + k * 4, none⟩ = some (.int .i64 (V k 0)) := (hcr 0).trans (hcell 0 .i64 rfl).1
        have q1 : wr.cell? ⟨bs, off + k * 4 + 1, none⟩ = some (.int .i64 (V k 1)) := (hcr 1).trans (hcell 1 .i64 rfl).1
        have q2 : wr.cell? ⟨bs, off + k * 4 + 2, none⟩ = some (.int .i64 (V k 2)) := (hcr 2).trans (hcell 2 .i64 rfl).1
        have q3 : wr.cell? ⟨bs, off + k * 4 + 3, none⟩ = some (.int .u64 (V k 3)) := (hcr 3).trans (hcell 3 .u64 rfl).1
        obtain ⟨z0, z1⟩ := i64_rng (hcell 2 .i64 rfl).2
        obtain ⟨x0, x1⟩ := u64_rng (hcell 3 .u64 rfl).2
        have KL := Lib.hid hkl
        have K60 := Lib.hid hk60
        have hk60' : (k : Int) < 60 := by omega
        have hkl' : (k : Int) < (len : Int) := by omega
        have k0 : (0 : Int) ≤ (k : Int) := by omega
        subst ha
        have hkeep : ∀ w', Fr Nil wa w' → w'.cell? ⟨bs, off + k * 4 + 1, none⟩ = some (.int .i64 (V k 1)) ∧ w'.cell? ⟨bs, off + k * 4 + 2, none⟩ = some (.int .i64 (V k 2)) ∧ w'.cell? ⟨bs, off + k * 4 + 3, none⟩ = some (.int .u64 (V k 3)) ∧ Fr Nil wa w' := fun w' h1 =>
          ⟨((h1.cell (p := ⟨bs, off + k * 4 + 1, none⟩) hbs2 id).trans (F0.out.cell (p := ⟨bs, off + k * 4 + 1, none⟩) hbs id)).trans (hcell 1 .i64 rfl).1, ((h1.cell (p := ⟨bs, off + k * 4 + 2, none⟩) hbs2 id).trans (F0.out.cell (p := ⟨bs, off + k * 4 + 2, none⟩) hbs id)).trans (hcell 2 .i64 rfl).1, ((h1.cell (p := ⟨bs, off + k * 4 + 3, none⟩) hbs2 id).trans (F0.out.cell (p := ⟨bs, off + k * 4 + 3, none⟩) hbs id)).trans (hcell 3 .u64 rfl).1, h1⟩
        clear hcell hbs hbs2 hcr hk1 hk2
        have CS := Lib.hid (fun w' => sys_ok (V k 2) w' z0 z1)
        have X0 := Lib.hid x0
        have X1 := Lib.hid x1
        clear z0 z1 x0 x1
        generalize V k 0 = kind at *
        generalize V k 1 = core at *
        generalize V k 2 = sn at *
        generalize V k 3 = x at *
        have HKK := Lib.hid hkeep
        clear hkeep
        by_cases h2 : kind = 2
        · subst h2
          go_upto_region 13 with fail
          go_region_held3 (fun w' => w'.cell? ⟨bs, off + k * 4 + 1, none⟩ = some (.int .i64 core) ∧ w'.cell? ⟨bs, off + k * 4 + 2, none⟩ = some (.int .i64 sn) ∧ w'.cell? ⟨bs, off + k * 4 + 3, none⟩ = some (.int .u64 x) ∧ Fr Nil wa w') (first | exact HKK.out _ MN.out.m1.fr.drew | exact HKK.out _ M2.fr | exact HKK.out _ M3.fr) (first | (go_at_call 10; refine (CS.out _).mono ?_; rintro e w2 ⟨rfl, f2⟩; have M2 := (MN.out.m1.still (Fr.refl Nil _).drew).still f2) | (go_at_call 14; refine (M2.write core (sysV sn) x X0.out X1.out rfl).mono ?_; rintro e w3 ⟨rfl, M3, f3⟩) | fail)
          have N3 := ((MN.out.still (Fr.refl Nil _).drew).still f2).left M3 f3
          have HN3 := Lib.hid N3
          have HM3 := Lib.hid M3
          obtain ⟨g1, g2, g3, _⟩ := HKK.out _ M3.fr
          clear N3 M3 f3 f2 M2 MN
          go_upto_region 14 with fail
          go_region_held3 (fun w' => w'.cell? ⟨bs, off + k * 4 + 1, none⟩ = some (.int .i64 core) ∧ w'.cell? ⟨bs, off + k * 4 + 2, none⟩ = some (.int .i64 sn) ∧ w'.cell? ⟨bs, off + k * 4 + 3, none⟩ = some (.int .u64 x) ∧ Fr Nil wa w') (first | exact HKK.out _ HN3.out.m1.fr.drew | exact HKK.out _ M4.fr | exact HKK.out _ M5.fr) (first | (go_at_call 10; refine (CS.out _).mono ?_; rintro e w4 ⟨rfl, f4⟩; have M4 := (HN3.out.m2.still (Fr.refl Nil _).drew).still f4) | (go_at_call 14; refine (M4.write core (sysV sn) x X0.out X1.out rfl).mono ?_; rintro e w5 ⟨rfl, M5, f5⟩) | fail)
          have N5 := Lib.hid (((HN3.out.still (Fr.refl Nil _).drew).still f4).right M5 f5)
          clear M5 f5 f4 M4 HN3 HM3 g1 g2 g3
          go_wp2_with fail
          go_roundw
          case rel => exact ⟨k + 1, _, by simp, K60.out, KL.out, N5.out, (wrS_nt _ _ _ _).1.trans SN.out.1, (wrS_nt _ _ _ _).2.trans SN.out.2⟩
          case measure => have := K60.out; simp [intOf]; omega
        · have h2' : (kind == 2) = false := by simpa using h2
          clear h2 q1 q2 q3 CS HKK
          go_wp2_with fail
          go_roundw
          case rel => exact ⟨k + 1, s, by simp, K60.out, KL.out, MN.out, SN.out.1, SN.out.2⟩
          case measure => have := K60.out; simp [intOf]; omega
      · have hx : (k < len ∧ k = 60) ∨ k = len := by omega
        clear hgo HS
        rcases hx with ⟨hkl, rfl⟩ | rfl
        · have hkl' : (60 : Int) < (len : Int) := by omega
          clear hk1 hk2 hkl
          go_wp2_with fail
          go_loopw [13, 14] (fun all i wr2 => ∃ (j : Nat) (T : Int), i = .int .i64 (j : Int) ∧ j ≤ lenp ∧ all = .int .u64 T ∧ TT wa b r { s with t := T } b2 r2 s wr2 ∧ 0 ≤ T ∧ T ≤ 18446744073709551615) (fun _ i _ => lenp - (intOf i).toNat)
          case atStart => exact ⟨0, 0, rfl, by omega, rfl, by have := MN.out; rw [show ({ s with t := 0 } : Ts) = s by rw [← SN.out.2]]; exact this, by omega, by omega⟩
          case round =>
            obtain ⟨j, T, rfl, hj, rfl, m2, t0, t1⟩ := hrel
            have M2 := Lib.hid m2
            have TR := Lib.hid (And.intro t0 t1)
            clear m2 t0 t1 MN
            by_cases hjl : j < lenp
            · obtain ⟨bs, off, ha, hbs, hcell, hwf⟩ := HZ.out j hjl
              have hbs2 : bs < wa.heap.size := Nat.lt_of_lt_of_le hbs F0.out.size
              have q : ∀ w', Fr Nil wa w' → w'.cell? ⟨bs, off + j, none⟩ = some (.int .u64 (Z j)) := fun w' h1 => ((h1.cell (p := ⟨bs, off + j, none⟩) hbs2 id).trans (F0.out.cell (p := ⟨bs, off + j, none⟩) hbs id)).trans hcell
              have q0 := q _ M2.out.m1.fr
              have Q := Lib.hid q
              have JL := Lib.hid hjl
              have j0 : (0 : Int) ≤ (j : Int) := by omega
              have j1 : (j : Int) < (lenp : Int) := by omega
              subst ha
              clear q hjl hj hcell hwf hbs hbs2
              generalize Z j = x at *
              have CT := Lib.hid (M2.out.m1.tick x)
              go_wp2_with fail
              refine CT.out.mono ?_
              rintro e w5 ⟨rfl, m5, f5⟩
              have M5 := Lib.hid (M2.out.left m5 f5)
              have q1 := Q.out _ m5.fr
              clear m5 f5 CT q0
              go_wp2_with fail
              go_roundw
              case rel => first | exact ⟨j + 1, _, by simp, JL.out, rfl, M5.out, (wrap_rng _).1, (wrap_rng _).2⟩ | ((repeat apply Exists.intro); exact ⟨⟨j + 1, IntKind.u64.wrap (T + x), (show Value.int .i64 ((j : Int) + 1) = .int .i64 ((j + 1 : Nat) : Int) by simp), JL.out, rfl, M5.out, (wrap_rng _).1, (wrap_rng _).2⟩, rfl⟩)
              case measure => have := JL.out; simp [intOf]; omega
            · have hje : j = lenp := by omega
              subst hje
              have hjl' : decide (j < j) = false := by simp
              clear hjl hj HZ
              have ct := M2.out.m2.tick T
              have eT : IntKind.u64.wrap (s.t + T) = T := by rw [SN.out.2, Int.zero_add, IntKind.wrap_u64]; have := TR.out; omega
              rw [eT] at ct
              have CT := Lib.hid ct
              clear ct eT
              go_wp2_with fail
              refine CT.out.mono ?_
              rintro e w5 ⟨rfl, m5, f5⟩
              have M5 := Lib.hid (M2.out.right m5 f5)
              clear m5 f5 CT M2
              have SB := Lib.hid (show ({ s with t := T } : Ts).n = 1 + D from SN.out.1)
              have TB := Lib.hid (show ({ s with t := T } : Ts).t = T from rfl)
              clear SN
              generalize ({ s with t := T } : Ts) = s' at *
              go_wp2_with fail
              go_loopw [15] (fun i wr3 => ∃ c : Nat, i = .int .i64 (c : Int) ∧ c ≤ 1 + D ∧ TT wa b r s' b2 r2 s' wr3) (fun i _ => 1 + D - (intOf i).toNat)
              case atStart => exact ⟨0, rfl, by omega, M5.out⟩
              case round =>
                obtain ⟨c, rfl, hc, m3⟩ := hrel
                have M3 := Lib.hid m3
                clear m3 M5
                by_cases hcl : c < 1 + D
                · obtain ⟨x, y, hxy⟩ : ∃ x y, rdV s' (c : Int) 24345 = (x, y) := ⟨_, _, rfl⟩
                  have R1 := Lib.hid (M3.out.m1.read (c : Int) 24345 hxy)
                  have r2' : ∀ we, TT wa b r s' b2 r2 s' we → Calls Try.prog 11 #[.pointer (some ⟨b2, 0, none⟩), .int .i64 (c : Int), .int .i64 24345] we (Rd wa b2 r2 s' we (.tuple #[.int .u64 x, .int .i64 y])) := fun we h => h.m2.read (c : Int) 24345 hxy
                  have R2 := Lib.hid r2'
                  obtain ⟨h, hh⟩ : ∃ h, hiB s' (c : Int) = h := ⟨_, rfl⟩
                  have h1' : ∀ we, TT wa b r s' b2 r2 s' we → Calls Try.prog 17 #[.pointer (some ⟨b, 0, none⟩), .int .i64 (c : Int)] we (Rd wa b r s' we (.bool h)) := fun we hm => hm.m1.high (c : Int) hh
                  have h2' : ∀ we, TT wa b r s' b2 r2 s' we → Calls Try.prog 17 #[.pointer (some ⟨b2, 0, none⟩), .int .i64 (c : Int)] we (Rd wa b2 r2 s' we (.bool h)) := fun we hm => hm.m2.high (c : Int) hh
                  have H1 := Lib.hid h1'
                  have H2 := Lib.hid h2'
                  have CL := Lib.hid hcl
                  have c0 : (0 : Int) ≤ (c : Int) := by omega
                  have c1 : (c : Int) < 1 + (D : Int) := by omega
                  clear r2' h1' h2' hxy hh hcl hc
                  go_wp2_with fail
                  refine R1.out.mono ?_
                  rintro e w6 ⟨rfl, m6, f6⟩
                  have M6 := Lib.hid (M3.out.still f6)
                  have R3 := Lib.hid (R2.out _ M6.out)
                  clear m6 f6 R1 R2
                  go_wp2_with fail
                  refine R3.out.mono ?_
                  rintro e w7 ⟨rfl, m7, f7⟩
                  have M7 := Lib.hid (M6.out.still f7)
                  have H3 := Lib.hid (H1.out _ M7.out)
                  clear m7 f7 R3 H1
                  go_wp2_with fail
                  refine H3.out.mono ?_
                  rintro e w8 ⟨rfl, m8, f8⟩
                  have M8 := Lib.hid (M7.out.still f8)
                  have H4 := Lib.hid (H2.out _ M8.out)
                  clear m8 f8 H3 H2
                  go_wp2_with fail
                  refine H4.out.mono ?_
                  rintro e w9 ⟨rfl, m9, f9⟩
                  have M9 := Lib.hid (M8.out.still f9)
                  clear m9 f9 H4
                  go_wp2_with fail
                  go_roundw
                  case rel => exact ⟨c + 1, by simp, CL.out, M9.out⟩
                  case measure => have := CL.out; simp [intOf]; omega
                · have c1 : 1 + (D : Int) ≤ (c : Int) := by omega
                  clear hcl hc
                  have n1 : ∀ we, TT wa b r s' b2 r2 s' we → Calls Try.prog 20 #[.pointer (some ⟨b, 0, none⟩)] we (Rd wa b r s' we (.int .u64 T)) := fun we h => h.m1.count TB.out
                  have n2 : ∀ we, TT wa b r s' b2 r2 s' we → Calls Try.prog 20 #[.pointer (some ⟨b2, 0, none⟩)] we (Rd wa b2 r2 s' we (.int .u64 T)) := fun we h => h.m2.count TB.out
                  have N1 := Lib.hid n1
                  have N2 := Lib.hid n2
                  have C1 := Lib.hid (n1 _ M3.out)
                  clear n1 n2
                  go_wp2_with fail
                  refine C1.out.mono ?_
                  rintro e w6 ⟨rfl, m6, f6⟩
                  have M6 := Lib.hid (M3.out.still f6)
                  have C2 := Lib.hid (N2.out _ M6.out)
                  clear m6 f6 C1 N2
                  go_wp2_with fail
                  refine C2.out.mono ?_
                  rintro e w7 ⟨rfl, m7, f7⟩
                  have M7 := Lib.hid (M6.out.still f7)
                  have C3 := Lib.hid (N1.out _ M7.out)
                  clear m7 f7 C2 N1
                  go_wp2_with fail
                  refine C3.out.mono ?_
                  rintro e w8 ⟨rfl, m8, f8⟩
                  have N8 := Lib.hid (F0.out.trans m8.fr)
                  clear m8 f8 C3
                  go_wp2_with fail
                  go_ret
                  exact ⟨rfl, N8.out.bel⟩
        · have hkl' : decide (k < k) = false := by simp
          clear hk1 hk2
          go_wp2_with fail
          go_loopw [13, 14] (fun all i wr2 => ∃ (j : Nat) (T : Int), i = .int .i64 (j : Int) ∧ j ≤ lenp ∧ all = .int .u64 T ∧ TT wa b r { s with t := T } b2 r2 s wr2 ∧ 0 ≤ T ∧ T ≤ 18446744073709551615) (fun _ i _ => lenp - (intOf i).toNat)
          case atStart => exact ⟨0, 0, rfl, by omega, rfl, by have := MN.out; rw [show ({ s with t := 0 } : Ts) = s by rw [← SN.out.2]]; exact this, by omega, by omega⟩
          case round =>
            obtain ⟨j, T, rfl, hj, rfl, m2, t0, t1⟩ := hrel
            have M2 := Lib.hid m2
            have TR := Lib.hid (And.intro t0 t1)
            clear m2 t0 t1 MN
            by_cases hjl : j < lenp
            · obtain ⟨bs, off, ha, hbs, hcell, hwf⟩ := HZ.out j hjl
              have hbs2 : bs < wa.heap.size := Nat.lt_of_lt_of_le hbs F0.out.size
              have q : ∀ w', Fr Nil wa w' → w'.cell? ⟨bs, off + j, none⟩ = some (.int .u64 (Z j)) := fun w' h1 => ((h1.cell (p := ⟨bs, off + j, none⟩) hbs2 id).trans (F0.out.cell (p := ⟨bs, off + j, none⟩) hbs id)).trans hcell
              have q0 := q _ M2.out.m1.fr
              have Q := Lib.hid q
              have JL := Lib.hid hjl
              have j0 : (0 : Int) ≤ (j : Int) := by omega
              have j1 : (j : Int) < (lenp : Int) := by omega
              subst ha
              clear q hjl hj hcell hwf hbs hbs2
              generalize Z j = x at *
              have CT := Lib.hid (M2.out.m1.tick x)
              go_wp2_with fail
              refine CT.out.mono ?_
              rintro e w5 ⟨rfl, m5, f5⟩
              have M5 := Lib.hid (M2.out.left m5 f5)
              have q1 := Q.out _ m5.fr
              clear m5 f5 CT q0
              go_wp2_with fail
              go_roundw
              case rel => first | exact ⟨j + 1, _, by simp, JL.out, rfl, M5.out, (wrap_rng _).1, (wrap_rng _).2⟩ | ((repeat apply Exists.intro); exact ⟨⟨j + 1, IntKind.u64.wrap (T + x), (show Value.int .i64 ((j : Int) + 1) = .int .i64 ((j + 1 : Nat) : Int) by simp), JL.out, rfl, M5.out, (wrap_rng _).1, (wrap_rng _).2⟩, rfl⟩)
              case measure => have := JL.out; simp [intOf]; omega
            · have hje : j = lenp := by omega
              subst hje
              have hjl' : decide (j < j) = false := by simp
              clear hjl hj HZ
              have ct := M2.out.m2.tick T
              have eT : IntKind.u64.wrap (s.t + T) = T := by rw [SN.out.2, Int.zero_add, IntKind.wrap_u64]; have := TR.out; omega
              rw [eT] at ct
              have CT := Lib.hid ct
              clear ct eT
              go_wp2_with fail
              refine CT.out.mono ?_
              rintro e w5 ⟨rfl, m5, f5⟩
              have M5 := Lib.hid (M2.out.right m5 f5)
              clear m5 f5 CT M2
              have SB := Lib.hid (show ({ s with t := T } : Ts).n = 1 + D from SN.out.1)
              have TB := Lib.hid (show ({ s with t := T } : Ts).t = T from rfl)
              clear SN
              generalize ({ s with t := T } : Ts) = s' at *
              go_wp2_with fail
              go_loopw [15] (fun i wr3 => ∃ c : Nat, i = .int .i64 (c : Int) ∧ c ≤ 1 + D ∧ TT wa b r s' b2 r2 s' wr3) (fun i _ => 1 + D - (intOf i).toNat)
              case atStart => exact ⟨0, rfl, by omega, M5.out⟩
              case round =>
                obtain ⟨c, rfl, hc, m3⟩ := hrel
                have M3 := Lib.hid m3
                clear m3 M5
                by_cases hcl : c < 1 + D
                · obtain ⟨x, y, hxy⟩ : ∃ x y, rdV s' (c : Int) 24345 = (x, y) := ⟨_, _, rfl⟩
                  have R1 := Lib.hid (M3.out.m1.read (c : Int) 24345 hxy)
                  have r2' : ∀ we, TT wa b r s' b2 r2 s' we → Calls Try.prog 11 #[.pointer (some ⟨b2, 0, none⟩), .int .i64 (c : Int), .int .i64 24345] we (Rd wa b2 r2 s' we (.tuple #[.int .u64 x, .int .i64 y])) := fun we h => h.m2.read (c : Int) 24345 hxy
                  have R2 := Lib.hid r2'
                  obtain ⟨h, hh⟩ : ∃ h, hiB s' (c : Int) = h := ⟨_, rfl⟩
                  have h1' : ∀ we, TT wa b r s' b2 r2 s' we → Calls Try.prog 17 #[.pointer (some ⟨b, 0, none⟩), .int .i64 (c : Int)] we (Rd wa b r s' we (.bool h)) := fun we hm => hm.m1.high (c : Int) hh
                  have h2' : ∀ we, TT wa b r s' b2 r2 s' we → Calls Try.prog 17 #[.pointer (some ⟨b2, 0, none⟩), .int .i64 (c : Int)] we (Rd wa b2 r2 s' we (.bool h)) := fun we hm => hm.m2.high (c : Int) hh
                  have H1 := Lib.hid h1'
                  have H2 := Lib.hid h2'
                  have CL := Lib.hid hcl
                  have c0 : (0 : Int) ≤ (c : Int) := by omega
                  have c1 : (c : Int) < 1 + (D : Int) := by omega
                  clear r2' h1' h2' hxy hh hcl hc
                  go_wp2_with fail
                  refine R1.out.mono ?_
                  rintro e w6 ⟨rfl, m6, f6⟩
                  have M6 := Lib.hid (M3.out.still f6)
                  have R3 := Lib.hid (R2.out _ M6.out)
                  clear m6 f6 R1 R2
                  go_wp2_with fail
                  refine R3.out.mono ?_
                  rintro e w7 ⟨rfl, m7, f7⟩
                  have M7 := Lib.hid (M6.out.still f7)
                  have H3 := Lib.hid (H1.out _ M7.out)
                  clear m7 f7 R3 H1
                  go_wp2_with fail
                  refine H3.out.mono ?_
                  rintro e w8 ⟨rfl, m8, f8⟩
                  have M8 := Lib.hid (M7.out.still f8)
                  have H4 := Lib.hid (H2.out _ M8.out)
                  clear m8 f8 H3 H2
                  go_wp2_with fail
                  refine H4.out.mono ?_
                  rintro e w9 ⟨rfl, m9, f9⟩
                  have M9 := Lib.hid (M8.out.still f9)
                  clear m9 f9 H4
                  go_wp2_with fail
                  go_roundw
                  case rel => exact ⟨c + 1, by simp, CL.out, M9.out⟩
                  case measure => have := CL.out; simp [intOf]; omega
                · have c1 : 1 + (D : Int) ≤ (c : Int) := by omega
                  clear hcl hc
                  have n1 : ∀ we, TT wa b r s' b2 r2 s' we → Calls Try.prog 20 #[.pointer (some ⟨b, 0, none⟩)] we (Rd wa b r s' we (.int .u64 T)) := fun we h => h.m1.count TB.out
                  have n2 : ∀ we, TT wa b r s' b2 r2 s' we → Calls Try.prog 20 #[.pointer (some ⟨b2, 0, none⟩)] we (Rd wa b2 r2 s' we (.int .u64 T)) := fun we h => h.m2.count TB.out
                  have N1 := Lib.hid n1
                  have N2 := Lib.hid n2
                  have C1 := Lib.hid (n1 _ M3.out)
                  clear n1 n2
                  go_wp2_with fail
                  refine C1.out.mono ?_
                  rintro e w6 ⟨rfl, m6, f6⟩
                  have M6 := Lib.hid (M3.out.still f6)
                  have C2 := Lib.hid (N2.out _ M6.out)
                  clear m6 f6 C1 N2
                  go_wp2_with fail
                  refine C2.out.mono ?_
                  rintro e w7 ⟨rfl, m7, f7⟩
                  have M7 := Lib.hid (M6.out.still f7)
                  have C3 := Lib.hid (N1.out _ M7.out)
                  clear m7 f7 C2 N1
                  go_wp2_with fail
                  refine C3.out.mono ?_
                  rintro e w8 ⟨rfl, m8, f8⟩
                  have N8 := Lib.hid (F0.out.trans m8.fr)
                  clear m8 f8 C3
                  go_wp2_with fail
                  go_ret
                  exact ⟨rfl, N8.out.bel⟩
  · have hnp : np cores = cores := by unfold np; rw [if_neg hn]
    have hn' : 0 ≤ cores := by omega
    have ht : cores.tmod 8 = (D : Int) := by rw [← hD, hnp, Int.tmod_eq_emod_of_nonneg hn']
    clear hD hnp
    go_enter Try.func5, Try.ntmps5
    go_wp2_with fail
    refine (known_ok w).mono ?_
    rintro e wa ⟨rfl, f0⟩
    have F0 := Lib.hid f0
    clear f0
    go_wp2_with fail
    refine (new_ok (1 + D) (z := 1 + (D : Int)) wa (by omega) (by omega) (by have := DN.out; omega)).mono ?_
    rintro e wb ⟨b, r, rfl, t0⟩
    have T1 := Lib.hid t0
    clear t0 ht hn hn' c0 c1
    go_wp2_with fail
    refine (new_ok (1 + D) (z := 1 + (D : Int)) wb (by omega) (by omega) (by have := DN.out; omega)).mono ?_
    rintro e wc ⟨b2, r2, rfl, t0⟩
    have T2 := Lib.hid (TT.make T1.out t0)
    clear t0 T1
    go_wp2_with fail
    go_loopw [12] (fun i wr => ∃ (k : Nat) (s : Ts), i = .int .i64 (k : Int) ∧ k ≤ 60 ∧ k ≤ len ∧ TT wa b r s b2 r2 s wr ∧ s.n = 1 + D ∧ s.t = 0) (fun i _ => 60 - (intOf i).toNat)
    case atStart => exact ⟨0, _, rfl, by omega, by omega, T2.out, rfl, rfl⟩
    case round =>
      obtain ⟨k, s, rfl, hk1, hk2, mn, sn, st⟩ := hrel
      have MN := Lib.hid mn
      have SN := Lib.hid (And.intro sn st)
      clear mn sn st T2
      by_cases hgo : k < len ∧ k < 60
      · obtain ⟨hkl, hk60⟩ := hgo
        obtain ⟨bs, off, ha, hbs, hcell⟩ := HS.out k hkl
        have hbs2 : bs < wa.heap.size := Nat.lt_of_lt_of_le hbs F0.out.size
        have hcr : ∀ j, wr.cell? ⟨bs, off + k * 4 + j, none⟩ = w.cell? ⟨bs, off + k * 4 + j, none⟩ := fun j => (MN.out.m1.fr.cell (p := ⟨bs, off + k * 4 + j, none⟩) hbs2 id).trans (F0.out.cell (p := ⟨bs, off + k * 4 + j, none⟩) hbs id)
        have q0 : wr.cell? ⟨bs, off + k * 4, none⟩ = some (.int .i64 (V k 0)) := (hcr 0).trans (hcell 0 .i64 rfl).1
        have q1 : wr.cell? ⟨bs, off + k * 4 + 1, none⟩ = some (.int .i64 (V k 1)) := (hcr 1).trans (hcell 1 .i64 rfl).1
        have q2 : wr.cell? ⟨bs, off + k * 4 + 2, none⟩ = some (.int .i64 (V k 2)) := (hcr 2).trans (hcell 2 .i64 rfl).1
        have q3 : wr.cell? ⟨bs, off + k * 4 + 3, none⟩ = some (.int .u64 (V k 3)) := (hcr 3).trans (hcell 3 .u64 rfl).1
        obtain ⟨z0, z1⟩ := i64_rng (hcell 2 .i64 rfl).2
        obtain ⟨x0, x1⟩ := u64_rng (hcell 3 .u64 rfl).2
        have KL := Lib.hid hkl
        have K60 := Lib.hid hk60
        have hk60' : (k : Int) < 60 := by omega
        have hkl' : (k : Int) < (len : Int) := by omega
        have k0 : (0 : Int) ≤ (k : Int) := by omega
        subst ha
        have hkeep : ∀ w', Fr Nil wa w' → w'.cell? ⟨bs, off + k * 4 + 1, none⟩ = some (.int .i64 (V k 1)) ∧ w'.cell? ⟨bs, off + k * 4 + 2, none⟩ = some (.int .i64 (V k 2)) ∧ w'.cell? ⟨bs, off + k * 4 + 3, none⟩ = some (.int .u64 (V k 3)) ∧ Fr Nil wa w' := fun w' h1 =>
          ⟨((h1.cell (p := ⟨bs, off + k * 4 + 1, none⟩) hbs2 id).trans (F0.out.cell (p := ⟨bs, off + k * 4 + 1, none⟩) hbs id)).trans (hcell 1 .i64 rfl).1, ((h1.cell (p := ⟨bs, off + k * 4 + 2, none⟩) hbs2 id).trans (F0.out.cell (p := ⟨bs, off + k * 4 + 2, none⟩) hbs id)).trans (hcell 2 .i64 rfl).1, ((h1.cell (p := ⟨bs, off + k * 4 + 3, none⟩) hbs2 id).trans (F0.out.cell (p := ⟨bs, off + k * 4 + 3, none⟩) hbs id)).trans (hcell 3 .u64 rfl).1, h1⟩
        clear hcell hbs hbs2 hcr hk1 hk2
        have CS := Lib.hid (fun w' => sys_ok (V k 2) w' z0 z1)
        have X0 := Lib.hid x0
        have X1 := Lib.hid x1
        clear z0 z1 x0 x1
        generalize V k 0 = kind at *
        generalize V k 1 = core at *
        generalize V k 2 = sn at *
        generalize V k 3 = x at *
        have HKK := Lib.hid hkeep
        clear hkeep
        by_cases h2 : kind = 2
        · subst h2
          go_upto_region 13 with fail
          go_region_held3 (fun w' => w'.cell? ⟨bs, off + k * 4 + 1, none⟩ = some (.int .i64 core) ∧ w'.cell? ⟨bs, off + k * 4 + 2, none⟩ = some (.int .i64 sn) ∧ w'.cell? ⟨bs, off + k * 4 + 3, none⟩ = some (.int .u64 x) ∧ Fr Nil wa w') (first | exact HKK.out _ MN.out.m1.fr.drew | exact HKK.out _ M2.fr | exact HKK.out _ M3.fr) (first | (go_at_call 10; refine (CS.out _).mono ?_; rintro e w2 ⟨rfl, f2⟩; have M2 := (MN.out.m1.still (Fr.refl Nil _).drew).still f2) | (go_at_call 14; refine (M2.write core (sysV sn) x X0.out X1.out rfl).mono ?_; rintro e w3 ⟨rfl, M3, f3⟩) | fail)
          have N3 := ((MN.out.still (Fr.refl Nil _).drew).still f2).left M3 f3
          have HN3 := Lib.hid N3
          have HM3 := Lib.hid M3
          obtain ⟨g1, g2, g3, _⟩ := HKK.out _ M3.fr
          clear N3 M3 f3 f2 M2 MN
          go_upto_region 14 with fail
          go_region_held3 (fun w' => w'.cell? ⟨bs, off + k * 4 + 1, none⟩ = some (.int .i64 core) ∧ w'.cell? ⟨bs, off + k * 4 + 2, none⟩ = some (.int .i64 sn) ∧ w'.cell? ⟨bs, off + k * 4 + 3, none⟩ = some (.int .u64 x) ∧ Fr Nil wa w') (first | exact HKK.out _ HN3.out.m1.fr.drew | exact HKK.out _ M4.fr | exact HKK.out _ M5.fr) (first | (go_at_call 10; refine (CS.out _).mono ?_; rintro e w4 ⟨rfl, f4⟩; have M4 := (HN3.out.m2.still (Fr.refl Nil _).drew).still f4) | (go_at_call 14; refine (M4.write core (sysV sn) x X0.out X1.out rfl).mono ?_; rintro e w5 ⟨rfl, M5, f5⟩) | fail)
          have N5 := Lib.hid (((HN3.out.still (Fr.refl Nil _).drew).still f4).right M5 f5)
          clear M5 f5 f4 M4 HN3 HM3 g1 g2 g3
          go_wp2_with fail
          go_roundw
          case rel => exact ⟨k + 1, _, by simp, K60.out, KL.out, N5.out, (wrS_nt _ _ _ _).1.trans SN.out.1, (wrS_nt _ _ _ _).2.trans SN.out.2⟩
          case measure => have := K60.out; simp [intOf]; omega
        · have h2' : (kind == 2) = false := by simpa using h2
          clear h2 q1 q2 q3 CS HKK
          go_wp2_with fail
          go_roundw
          case rel => exact ⟨k + 1, s, by simp, K60.out, KL.out, MN.out, SN.out.1, SN.out.2⟩
          case measure => have := K60.out; simp [intOf]; omega
      · have hx : (k < len ∧ k = 60) ∨ k = len := by omega
        clear hgo HS
        rcases hx with ⟨hkl, rfl⟩ | rfl
        · have hkl' : (60 : Int) < (len : Int) := by omega
          clear hk1 hk2 hkl
          go_wp2_with fail
          go_loopw [13, 14] (fun all i wr2 => ∃ (j : Nat) (T : Int), i = .int .i64 (j : Int) ∧ j ≤ lenp ∧ all = .int .u64 T ∧ TT wa b r { s with t := T } b2 r2 s wr2 ∧ 0 ≤ T ∧ T ≤ 18446744073709551615) (fun _ i _ => lenp - (intOf i).toNat)
          case atStart => exact ⟨0, 0, rfl, by omega, rfl, by have := MN.out; rw [show ({ s with t := 0 } : Ts) = s by rw [← SN.out.2]]; exact this, by omega, by omega⟩
          case round =>
            obtain ⟨j, T, rfl, hj, rfl, m2, t0, t1⟩ := hrel
            have M2 := Lib.hid m2
            have TR := Lib.hid (And.intro t0 t1)
            clear m2 t0 t1 MN
            by_cases hjl : j < lenp
            · obtain ⟨bs, off, ha, hbs, hcell, hwf⟩ := HZ.out j hjl
              have hbs2 : bs < wa.heap.size := Nat.lt_of_lt_of_le hbs F0.out.size
              have q : ∀ w', Fr Nil wa w' → w'.cell? ⟨bs, off + j, none⟩ = some (.int .u64 (Z j)) := fun w' h1 => ((h1.cell (p := ⟨bs, off + j, none⟩) hbs2 id).trans (F0.out.cell (p := ⟨bs, off + j, none⟩) hbs id)).trans hcell
              have q0 := q _ M2.out.m1.fr
              have Q := Lib.hid q
              have JL := Lib.hid hjl
              have j0 : (0 : Int) ≤ (j : Int) := by omega
              have j1 : (j : Int) < (lenp : Int) := by omega
              subst ha
              clear q hjl hj hcell hwf hbs hbs2
              generalize Z j = x at *
              have CT := Lib.hid (M2.out.m1.tick x)
              go_wp2_with fail
              refine CT.out.mono ?_
              rintro e w5 ⟨rfl, m5, f5⟩
              have M5 := Lib.hid (M2.out.left m5 f5)
              have q1 := Q.out _ m5.fr
              clear m5 f5 CT q0
              go_wp2_with fail
              go_roundw
              case rel => first | exact ⟨j + 1, _, by simp, JL.out, rfl, M5.out, (wrap_rng _).1, (wrap_rng _).2⟩ | ((repeat apply Exists.intro); exact ⟨⟨j + 1, IntKind.u64.wrap (T + x), (show Value.int .i64 ((j : Int) + 1) = .int .i64 ((j + 1 : Nat) : Int) by simp), JL.out, rfl, M5.out, (wrap_rng _).1, (wrap_rng _).2⟩, rfl⟩)
              case measure => have := JL.out; simp [intOf]; omega
            · have hje : j = lenp := by omega
              subst hje
              have hjl' : decide (j < j) = false := by simp
              clear hjl hj HZ
              have ct := M2.out.m2.tick T
              have eT : IntKind.u64.wrap (s.t + T) = T := by rw [SN.out.2, Int.zero_add, IntKind.wrap_u64]; have := TR.out; omega
              rw [eT] at ct
              have CT := Lib.hid ct
              clear ct eT
              go_wp2_with fail
              refine CT.out.mono ?_
              rintro e w5 ⟨rfl, m5, f5⟩
              have M5 := Lib.hid (M2.out.right m5 f5)
              clear m5 f5 CT M2
              have SB := Lib.hid (show ({ s with t := T } : Ts).n = 1 + D from SN.out.1)
              have TB := Lib.hid (show ({ s with t := T } : Ts).t = T from rfl)
              clear SN
              generalize ({ s with t := T } : Ts) = s' at *
              go_wp2_with fail
              go_loopw [15] (fun i wr3 => ∃ c : Nat, i = .int .i64 (c : Int) ∧ c ≤ 1 + D ∧ TT wa b r s' b2 r2 s' wr3) (fun i _ => 1 + D - (intOf i).toNat)
              case atStart => exact ⟨0, rfl, by omega, M5.out⟩
              case round =>
                obtain ⟨c, rfl, hc, m3⟩ := hrel
                have M3 := Lib.hid m3
                clear m3 M5
                by_cases hcl : c < 1 + D
                · obtain ⟨x, y, hxy⟩ : ∃ x y, rdV s' (c : Int) 24345 = (x, y) := ⟨_, _, rfl⟩
                  have R1 := Lib.hid (M3.out.m1.read (c : Int) 24345 hxy)
                  have r2' : ∀ we, TT wa b r s' b2 r2 s' we → Calls Try.prog 11 #[.pointer (some ⟨b2, 0, none⟩), .int .i64 (c : Int), .int .i64 24345] we (Rd wa b2 r2 s' we (.tuple #[.int .u64 x, .int .i64 y])) := fun we h => h.m2.read (c : Int) 24345 hxy
                  have R2 := Lib.hid r2'
                  obtain ⟨h, hh⟩ : ∃ h, hiB s' (c : Int) = h := ⟨_, rfl⟩
                  have h1' : ∀ we, TT wa b r s' b2 r2 s' we → Calls Try.prog 17 #[.pointer (some ⟨b, 0, none⟩), .int .i64 (c : Int)] we (Rd wa b r s' we (.bool h)) := fun we hm => hm.m1.high (c : Int) hh
                  have h2' : ∀ we, TT wa b r s' b2 r2 s' we → Calls Try.prog 17 #[.pointer (some ⟨b2, 0, none⟩), .int .i64 (c : Int)] we (Rd wa b2 r2 s' we (.bool h)) := fun we hm => hm.m2.high (c : Int) hh
                  have H1 := Lib.hid h1'
                  have H2 := Lib.hid h2'
                  have CL := Lib.hid hcl
                  have c0 : (0 : Int) ≤ (c : Int) := by omega
                  have c1 : (c : Int) < 1 + (D : Int) := by omega
                  clear r2' h1' h2' hxy hh hcl hc
                  go_wp2_with fail
                  refine R1.out.mono ?_
                  rintro e w6 ⟨rfl, m6, f6⟩
                  have M6 := Lib.hid (M3.out.still f6)
                  have R3 := Lib.hid (R2.out _ M6.out)
                  clear m6 f6 R1 R2
                  go_wp2_with fail
                  refine R3.out.mono ?_
                  rintro e w7 ⟨rfl, m7, f7⟩
                  have M7 := Lib.hid (M6.out.still f7)
                  have H3 := Lib.hid (H1.out _ M7.out)
                  clear m7 f7 R3 H1
                  go_wp2_with fail
                  refine H3.out.mono ?_
                  rintro e w8 ⟨rfl, m8, f8⟩
                  have M8 := Lib.hid (M7.out.still f8)
                  have H4 := Lib.hid (H2.out _ M8.out)
                  clear m8 f8 H3 H2
                  go_wp2_with fail
                  refine H4.out.mono ?_
                  rintro e w9 ⟨rfl, m9, f9⟩
                  have M9 := Lib.hid (M8.out.still f9)
                  clear m9 f9 H4
                  go_wp2_with fail
                  go_roundw
                  case rel => exact ⟨c + 1, by simp, CL.out, M9.out⟩
                  case measure => have := CL.out; simp [intOf]; omega
                · have c1 : 1 + (D : Int) ≤ (c : Int) := by omega
                  clear hcl hc
                  have n1 : ∀ we, TT wa b r s' b2 r2 s' we → Calls Try.prog 20 #[.pointer (some ⟨b, 0, none⟩)] we (Rd wa b r s' we (.int .u64 T)) := fun we h => h.m1.count TB.out
                  have n2 : ∀ we, TT wa b r s' b2 r2 s' we → Calls Try.prog 20 #[.pointer (some ⟨b2, 0, none⟩)] we (Rd wa b2 r2 s' we (.int .u64 T)) := fun we h => h.m2.count TB.out
                  have N1 := Lib.hid n1
                  have N2 := Lib.hid n2
                  have C1 := Lib.hid (n1 _ M3.out)
                  clear n1 n2
                  go_wp2_with fail
                  refine C1.out.mono ?_
                  rintro e w6 ⟨rfl, m6, f6⟩
                  have M6 := Lib.hid (M3.out.still f6)
                  have C2 := Lib.hid (N2.out _ M6.out)
                  clear m6 f6 C1 N2
                  go_wp2_with fail
                  refine C2.out.mono ?_
                  rintro e w7 ⟨rfl, m7, f7⟩
                  have M7 := Lib.hid (M6.out.still f7)
                  have C3 := Lib.hid (N1.out _ M7.out)
                  clear m7 f7 C2 N1
                  go_wp2_with fail
                  refine C3.out.mono ?_
                  rintro e w8 ⟨rfl, m8, f8⟩
                  have N8 := Lib.hid (F0.out.trans m8.fr)
                  clear m8 f8 C3
                  go_wp2_with fail
                  go_ret
                  exact ⟨rfl, N8.out.bel⟩
        · have hkl' : decide (k < k) = false := by simp
          clear hk1 hk2
          go_wp2_with fail
          go_loopw [13, 14] (fun all i wr2 => ∃ (j : Nat) (T : Int), i = .int .i64 (j : Int) ∧ j ≤ lenp ∧ all = .int .u64 T ∧ TT wa b r { s with t := T } b2 r2 s wr2 ∧ 0 ≤ T ∧ T ≤ 18446744073709551615) (fun _ i _ => lenp - (intOf i).toNat)
          case atStart => exact ⟨0, 0, rfl, by omega, rfl, by have := MN.out; rw [show ({ s with t := 0 } : Ts) = s by rw [← SN.out.2]]; exact this, by omega, by omega⟩
          case round =>
            obtain ⟨j, T, rfl, hj, rfl, m2, t0, t1⟩ := hrel
            have M2 := Lib.hid m2
            have TR := Lib.hid (And.intro t0 t1)
            clear m2 t0 t1 MN
            by_cases hjl : j < lenp
            · obtain ⟨bs, off, ha, hbs, hcell, hwf⟩ := HZ.out j hjl
              have hbs2 : bs < wa.heap.size := Nat.lt_of_lt_of_le hbs F0.out.size
              have q : ∀ w', Fr Nil wa w' → w'.cell? ⟨bs, off + j, none⟩ = some (.int .u64 (Z j)) := fun w' h1 => ((h1.cell (p := ⟨bs, off + j, none⟩) hbs2 id).trans (F0.out.cell (p := ⟨bs, off + j, none⟩) hbs id)).trans hcell
              have q0 := q _ M2.out.m1.fr
              have Q := Lib.hid q
              have JL := Lib.hid hjl
              have j0 : (0 : Int) ≤ (j : Int) := by omega
              have j1 : (j : Int) < (lenp : Int) := by omega
              subst ha
              clear q hjl hj hcell hwf hbs hbs2
              generalize Z j = x at *
              have CT := Lib.hid (M2.out.m1.tick x)
              go_wp2_with fail
              refine CT.out.mono ?_
              rintro e w5 ⟨rfl, m5, f5⟩
              have M5 := Lib.hid (M2.out.left m5 f5)
              have q1 := Q.out _ m5.fr
              clear m5 f5 CT q0
              go_wp2_with fail
              go_roundw
              case rel => first | exact ⟨j + 1, _, by simp, JL.out, rfl, M5.out, (wrap_rng _).1, (wrap_rng _).2⟩ | ((repeat apply Exists.intro); exact ⟨⟨j + 1, IntKind.u64.wrap (T + x), (show Value.int .i64 ((j : Int) + 1) = .int .i64 ((j + 1 : Nat) : Int) by simp), JL.out, rfl, M5.out, (wrap_rng _).1, (wrap_rng _).2⟩, rfl⟩)
              case measure => have := JL.out; simp [intOf]; omega
            · have hje : j = lenp := by omega
              subst hje
              have hjl' : decide (j < j) = false := by simp
              clear hjl hj HZ
              have ct := M2.out.m2.tick T
              have eT : IntKind.u64.wrap (s.t + T) = T := by rw [SN.out.2, Int.zero_add, IntKind.wrap_u64]; have := TR.out; omega
              rw [eT] at ct
              have CT := Lib.hid ct
              clear ct eT
              go_wp2_with fail
              refine CT.out.mono ?_
              rintro e w5 ⟨rfl, m5, f5⟩
              have M5 := Lib.hid (M2.out.right m5 f5)
              clear m5 f5 CT M2
              have SB := Lib.hid (show ({ s with t := T } : Ts).n = 1 + D from SN.out.1)
              have TB := Lib.hid (show ({ s with t := T } : Ts).t = T from rfl)
              clear SN
              generalize ({ s with t := T } : Ts) = s' at *
              go_wp2_with fail
              go_loopw [15] (fun i wr3 => ∃ c : Nat, i = .int .i64 (c : Int) ∧ c ≤ 1 + D ∧ TT wa b r s' b2 r2 s' wr3) (fun i _ => 1 + D - (intOf i).toNat)
              case atStart => exact ⟨0, rfl, by omega, M5.out⟩
              case round =>
                obtain ⟨c, rfl, hc, m3⟩ := hrel
                have M3 := Lib.hid m3
                clear m3 M5
                by_cases hcl : c < 1 + D
                · obtain ⟨x, y, hxy⟩ : ∃ x y, rdV s' (c : Int) 24345 = (x, y) := ⟨_, _, rfl⟩
                  have R1 := Lib.hid (M3.out.m1.read (c : Int) 24345 hxy)
                  have r2' : ∀ we, TT wa b r s' b2 r2 s' we → Calls Try.prog 11 #[.pointer (some ⟨b2, 0, none⟩), .int .i64 (c : Int), .int .i64 24345] we (Rd wa b2 r2 s' we (.tuple #[.int .u64 x, .int .i64 y])) := fun we h => h.m2.read (c : Int) 24345 hxy
                  have R2 := Lib.hid r2'
                  obtain ⟨h, hh⟩ : ∃ h, hiB s' (c : Int) = h := ⟨_, rfl⟩
                  have h1' : ∀ we, TT wa b r s' b2 r2 s' we → Calls Try.prog 17 #[.pointer (some ⟨b, 0, none⟩), .int .i64 (c : Int)] we (Rd wa b r s' we (.bool h)) := fun we hm => hm.m1.high (c : Int) hh
                  have h2' : ∀ we, TT wa b r s' b2 r2 s' we → Calls Try.prog 17 #[.pointer (some ⟨b2, 0, none⟩), .int .i64 (c : Int)] we (Rd wa b2 r2 s' we (.bool h)) := fun we hm => hm.m2.high (c : Int) hh
                  have H1 := Lib.hid h1'
                  have H2 := Lib.hid h2'
                  have CL := Lib.hid hcl
                  have c0 : (0 : Int) ≤ (c : Int) := by omega
                  have c1 : (c : Int) < 1 + (D : Int) := by omega
                  clear r2' h1' h2' hxy hh hcl hc
                  go_wp2_with fail
                  refine R1.out.mono ?_
                  rintro e w6 ⟨rfl, m6, f6⟩
                  have M6 := Lib.hid (M3.out.still f6)
                  have R3 := Lib.hid (R2.out _ M6.out)
                  clear m6 f6 R1 R2
                  go_wp2_with fail
                  refine R3.out.mono ?_
                  rintro e w7 ⟨rfl, m7, f7⟩
                  have M7 := Lib.hid (M6.out.still f7)
                  have H3 := Lib.hid (H1.out _ M7.out)
                  clear m7 f7 R3 H1
                  go_wp2_with fail
                  refine H3.out.mono ?_
                  rintro e w8 ⟨rfl, m8, f8⟩
                  have M8 := Lib.hid (M7.out.still f8)
                  have H4 := Lib.hid (H2.out _ M8.out)
                  clear m8 f8 H3 H2
                  go_wp2_with fail
                  refine H4.out.mono ?_
                  rintro e w9 ⟨rfl, m9, f9⟩
                  have M9 := Lib.hid (M8.out.still f9)
                  clear m9 f9 H4
                  go_wp2_with fail
                  go_roundw
                  case rel => exact ⟨c + 1, by simp, CL.out, M9.out⟩
                  case measure => have := CL.out; simp [intOf]; omega
                · have c1 : 1 + (D : Int) ≤ (c : Int) := by omega
                  clear hcl hc
                  have n1 : ∀ we, TT wa b r s' b2 r2 s' we → Calls Try.prog 20 #[.pointer (some ⟨b, 0, none⟩)] we (Rd wa b r s' we (.int .u64 T)) := fun we h => h.m1.count TB.out
                  have n2 : ∀ we, TT wa b r s' b2 r2 s' we → Calls Try.prog 20 #[.pointer (some ⟨b2, 0, none⟩)] we (Rd wa b2 r2 s' we (.int .u64 T)) := fun we h => h.m2.count TB.out
                  have N1 := Lib.hid n1
                  have N2 := Lib.hid n2
                  have C1 := Lib.hid (n1 _ M3.out)
                  clear n1 n2
                  go_wp2_with fail
                  refine C1.out.mono ?_
                  rintro e w6 ⟨rfl, m6, f6⟩
                  have M6 := Lib.hid (M3.out.still f6)
                  have C2 := Lib.hid (N2.out _ M6.out)
                  clear m6 f6 C1 N2
                  go_wp2_with fail
                  refine C2.out.mono ?_
                  rintro e w7 ⟨rfl, m7, f7⟩
                  have M7 := Lib.hid (M6.out.still f7)
                  have C3 := Lib.hid (N1.out _ M7.out)
                  clear m7 f7 C2 N1
                  go_wp2_with fail
                  refine C3.out.mono ?_
                  rintro e w8 ⟨rfl, m8, f8⟩
                  have N8 := Lib.hid (F0.out.trans m8.fr)
                  clear m8 f8 C3
                  go_wp2_with fail
                  go_ret
                  exact ⟨rfl, N8.out.bel⟩
end Go.Proofs.Ytoehhbcocecibaa
