/- GicNests, walked. -/
import Derived.Test.YtpgelocofoidnaaNplain
set_option linter.unusedSimpArgs false
set_option linter.unusedVariables false
namespace Go.Proofs.Ytpgelocofoidnaa
open Go.RowKit
set_option maxRecDepth 100000

theorem Try.info3 : (Try.prog.info? 3).map (fun i => (i.zero, i.size, i.bytes)) = some (some (.int .i64 0), 1, 8) := by kernel_rfl
def KL (w : World) (v : Value) : Nat → Prop := fun k => k < w.heap.size ∨ v.ownBlock = some k
/-- A list of integers that a law makes beside a controller. -/
structure Lw (w wr : World) (v : Value) (n : Nat) (xs : List Value) : Prop where
  win : Win wr 3 1 v n xs
  own : ∀ b, v.ownBlock = some b → w.heap.size ≤ b
  fr : Fr (Not fun k => k < w.heap.size) w wr
theorem Lw.step {w wr w2 : World} {v : Value} {n : Nat} {xs : List Value} (h : Lw w wr v n xs) (f : Fr (Not (KL w v)) wr w2) : Lw w w2 v n xs :=
  ⟨h.win.fr f fun k hk hn => hn (.inr hk), h.own, h.fr.step f fun i hi hn => .inl fun hk => hn (.inl hk)⟩
theorem Lw.app {w wr w2 : World} {v v2 : Value} {n : Nat} {xs ys : List Value} (h : Lw w wr v n xs) (hw : Win w2 3 1 v2 (n + 1) ys) (hg : wr.grownBy w2 v.ownBlock) (ho : ∀ k, v2.ownBlock = some k → v.ownBlock = some k ∨ wr.heap.size ≤ k) : Lw w w2 v2 (n + 1) ys :=
  ⟨hw, fun b hb => by
    rcases ho b hb with h1 | h1
    · exact h.own b h1
    · exact Nat.le_trans h.fr.size h1, h.fr.grown hg fun k hk => .inl fun hlt => by
      have := h.own k hk
      omega⟩
theorem Gk.grow {w wr w2 : World} {v v2 : Value} {gb : Nat} {s : GS} (h : Gk (KL w v) wr gb s) (hw : ∀ k, v2.ownBlock = some k → k < w2.heap.size) (hg : wr.grownBy w2 v.ownBlock) (ho : ∀ k, v2.ownBlock = some k → v.ownBlock = some k ∨ wr.heap.size ≤ k) : Gk (KL w v2) w2 gb s := by
  obtain ⟨cb, av, h1, h2⟩ := h.mem
  refine ⟨⟨cb, av, h1.fr (S := fun k => v.ownBlock = some k) ((Fr.refl _ wr).grown hg fun k hk => .inl hk) fun k hk hs => h2 k hk (.inr hs), fun k hk hk' => ?_⟩, fun k hk => ?_, h.c8, h.c1⟩
  · rcases hk' with e | e
    · exact h2 k hk (.inl e)
    · rcases ho k e with h3 | h3
      · exact h2 k hk (.inr h3)
      · have := h1.lt hk
        omega
  · rcases hk with e | e
    · exact Nat.lt_of_lt_of_le (h.lt k (.inl e)) hg.size
    · exact hw k e
def idl (L : List Mo) : List Value := L.map fun m => .int .i64 m.2
set_option maxHeartbeats 4000000 in
theorem gicNests_walk (a0 : Option Addr) (len cap : Nat) (Z : Nat → Int) (w : World) (hl : len ≤ cap) (hcap : cap ≤ maxLen) (hs : SlInts .i64 w a0 len Z) :
    Calls Try.prog 4 #[.slice a0 len cap] w fun e w' => e = .returned (.bool true) ∧ Below w.heap.size w w' := by
  have HS := Lib.hid hs
  have hlen : (len : Int) ≤ 9223372036854775807 := by simp only [maxLen] at hcap; omega
  clear hs hl hcap
  obtain ⟨i3, hi3, hz0, hz1, hz2⟩ := info_parts Try.info3
  go_enter Try.func4, Try.ntmps4
  go_wp2_with fail
  refine (known_ok w).mono ?_
  rintro e wa ⟨rfl, f0⟩
  have F0 := Lib.hid f0
  clear f0
  go_wp2_with fail
  refine (new_ok (KL w (.slice none 0 0)) 1 (z := 1) wa rfl (by omega) (by omega) fun k hk => by
    rcases hk with e | e
    · exact Nat.lt_of_lt_of_le e F0.out.size
    · cases e).mono ?_
  rintro e wb ⟨gb, rfl, g1, f1, -⟩
  have G1 := Lib.hid g1
  have LW1 := Lib.hid (show Lw w wb (.slice none 0 0) 0 [] from ⟨Win.nil _ _ _, fun b hb => (by cases hb), (F0.out.trans f1).nil⟩)
  clear g1 f1
  go_wp2_with fail
  go_loopw [6, 7, 8] (fun run lv i wr => ∃ (k : Nat) (L : List Mo) (s : GS) (aa : Option Addr) (acp : Nat), k ≤ len ∧ k ≤ 30 ∧ run = .int .i64 (runl L) ∧ lv = .slice aa L.length acp ∧ i = .int .i64 (k : Int) ∧ Gk (KL w (.slice aa L.length acp)) wr gb s ∧ Nst s L k ∧ L.length ≤ k ∧ Lw w wr (.slice aa L.length acp) L.length (idl L)) (fun _ _ i _ => 30 - (intOf i).toNat)
  case atStart => exact ⟨0, [], new 1, none, 0, by omega, by omega, rfl, rfl, rfl, G1.out, Nst.first, by simp, LW1.out⟩
  case round =>
    obtain ⟨k, L, s, aa, acp, hk, hk2, rfl, rfl, rfl, hg, hN, hL, hW⟩ := hrel
    have HG := Lib.hid hg
    have HN := Lib.hid hN
    have HL := Lib.hid hL
    have HW := Lib.hid hW
    have HK := Lib.hid (And.intro hk hk2)
    clear hg hN hL hW hk hk2
    by_cases hlt : k < len
    · by_cases h30 : k < 30
      · obtain ⟨b, off, hab, hb, h0, h1⟩ := HS.out k hlt
        subst hab
        have c1 := (HW.out.fr.cell (p := ⟨b, off + k, none⟩) hb (fun hn => hn hb)).trans h0
        obtain ⟨p1, p2⟩ := i64_rng h1
        have PK := Lib.hid (fun W => pick_ok (Z k) 255 W p1 p2 (by omega) (by omega))
        have RG := Lib.hid (pk_rng (Z k) 255 (by omega))
        generalize pk (Z k) 255 = r at *
        have n1 : (k : Int) < (len : Int) := by omega
        have n2 : (k : Int) < 30 := by omega
        have n3 : ((32 + (k : Int)) == 1023) = false := by simp; omega
        have L30 := Lib.hid (And.intro hlt h30)
        have S1 := Lib.hid (HN.out.set1 (r := r) (by omega) RG.out.1 (by have := RG.out; omega))
        have S2 := Lib.hid (HN.out.set2 (by omega) r)
        have S3 := Lib.hid (HN.out.set3 (by omega) r)
        have S4 := Lib.hid (HN.out.set4 (by omega) r)
        clear hb h0 h1 p1 p2 hlt h30
        go_wp2_with fail
        refine (PK.out _).mono ?_
        rintro e w9 ⟨rfl, rfl⟩
        go_wp2_with fail
        refine (rank_ok _ gb s 0 (32 + (k : Int)) r _ HG.out).mono ?_
        rintro e w2 ⟨rfl, g2, f2⟩
        rw [S1.out.1] at g2
        rw [S1.out.2]
        have G2 := Lib.hid g2
        have W2 := Lib.hid (HW.out.step f2)
        clear g2 f2 HG HW
        go_wp2_with fail
        refine (enable_ok _ gb _ 0 (32 + (k : Int)) true _ G2.out).mono ?_
        rintro e w3 ⟨rfl, g3, f3⟩
        rw [S2.out.1] at g3
        rw [S2.out.2]
        have G3 := Lib.hid g3
        have W3 := Lib.hid (W2.out.step f3)
        clear g3 f3 G2 W2
        go_wp2_with fail
        refine (pend_ok _ gb _ 0 (32 + (k : Int)) true _ G3.out).mono ?_
        rintro e w4 ⟨rfl, g4, f4⟩
        rw [S3.out.1] at g4
        rw [S3.out.2]
        have G4 := Lib.hid g4
        have W4 := Lib.hid (W3.out.step f4)
        clear g4 f4 G3 W3
        go_wp2_with fail
        refine (ack_ok _ gb _ 0 _ G4.out 1000 (by omega) (by intro j hj; exact HN.out.le (m := 1000) (by have := HL.out; have := HK.out; omega) j hj)).mono ?_
        rintro e w5 ⟨rfl, g5, f5⟩
        have G5 := Lib.hid g5
        have W5 := Lib.hid (W4.out.step f5)
        clear g5 f5 G4 W4 c1
        by_cases hr : r < runl L
        · have AY := Lib.hid (HN.out.ack_yes (by omega) (by have := RG.out; omega) hr)
          rw [AY.out.1]
          have N5 := Lib.hid AY.out.2.1
          have R5 := Lib.hid AY.out.2.2
          generalize (stp s k ⟨true, true, false, false, r, 0⟩).ack 0 = s5 at *
          generalize runl L = rn at *
          go_upto_region 19 with (at_builtin; refine wpList_append_win _ rfl (.tmp 76) (.tmp 78) 33 rfl 3 i3 _ 1 8 Try.underlying33 hi3 hz0 hz1 hz2 rfl (by decide) _ _ _ rfl (W5.out.win.alloc _) ⟨w5.heap.size, 0, none⟩ 1 1 [.int .i64 (32 + (k : Int))] rfl rfl (cell_one_new _ _ _) (by simp [Value.oneCell']) (by omega) (by have := HL.out; have := HK.out; simp only [maxLen]; omega) (by have := HL.out; have := HK.out; omega) (w5.heap.size + 1) (by simp) ?_; intro ga off2 acp2 w6 hw6 hgr hat)
          have hgr' : w5.grownBy w6 (Value.slice aa L.length acp).ownBlock := (World.grownBy_alloc w5 _ _).trans hgr
          have ho : ∀ b, (Value.slice (some ⟨ga, off2, none⟩) (L.length + 1) acp2).ownBlock = some b → (Value.slice aa L.length acp).ownBlock = some b ∨ w5.heap.size ≤ b := fun b hb => by
            cases hb
            exact hat.imp id (fun h => by rw [h]; exact Nat.le_add_right _ _)
          have el : (L ++ [(r, 32 + (k : Int))]).length = L.length + 1 := by simp
          have ea : idl (L ++ [(r, 32 + (k : Int))]) = idl L ++ [.int .i64 (32 + (k : Int))] := by simp [idl]
          have G6 := Lib.hid (G5.out.grow (fun b hb => hw6.lt hb) hgr' ho)
          have W6 := W5.out.app hw6 hgr' ho
          rw [← ea] at W6
          rw [← el] at G6 W6 ⊢
          have W6' := Lib.hid W6
          have LL := Lib.hid (show (L ++ [(r, 32 + (k : Int))]).length ≤ k + 1 by have := HL.out; omega)
          clear hgr hgr' hat hw6 ho el ea W6 W5 G5 HL HN S1 S2 S3 S4 AY
          generalize L ++ [(r, 32 + (k : Int))] = L6 at *
          have RN := G6.out.run 0
          rw [N5.out.run, R5.out] at RN
          have RN' := Lib.hid RN
          clear RN
          go_wp2_with (go_at_call 22; refine RN'.out.mono ?_; rintro e w7 ⟨rfl, g7, f7⟩; have G7 := Lib.hid g7; have W7 := Lib.hid (W6'.out.step f7); clear g7 f7)
          go_roundw
          case rel => exact ⟨k + 1, L6, s5, _, _, by have := L30.out; omega, by have := L30.out; omega, by rw [R5.out], rfl, by go_num, G7.out, N5.out, LL.out, W7.out⟩
          case measure => have := L30.out; simp [intOf] <;> omega
        · have AN := Lib.hid (HN.out.ack_no (by omega) (r := r) (by omega))
          rw [AN.out.1]
          rw [AN.out.2] at G5
          have N5 := Lib.hid (HN.out.next (by omega) r)
          have R5 := Lib.hid N5.out.run
          have r1 : runl L ≤ r := by omega
          have n4 : decide (r < runl L) = false := by simp; omega
          have n5 : decide (runl L ≤ r) = true := by simp; omega
          generalize hRR : runl L = rn at *
          have HRR := Lib.hid hRR
          clear hRR
          go_wp2_with fail
          refine (pend_ok _ gb _ 0 (32 + (k : Int)) false _ G5.out).mono ?_
          rintro e w6 ⟨rfl, g6, f6⟩
          rw [S4.out.1] at g6
          rw [S4.out.2]
          have G6 := Lib.hid g6
          have W6 := Lib.hid (W5.out.step f6)
          have RN := g6.run 0
          rw [R5.out] at RN
          have RN' := Lib.hid RN
          clear g6 f6 RN
          go_wp2_with (go_at_call 22; refine RN'.out.mono ?_; rintro e w7 ⟨rfl, g7, f7⟩; have G7 := Lib.hid g7; have W7 := Lib.hid (W6.out.step f7); clear g7 f7)
          go_roundw
          case rel => exact ⟨k + 1, L, _, _, _, by have := L30.out; omega, by have := L30.out; omega, by rw [HRR.out], rfl, by go_num, G7.out, N5.out, by have := HL.out; omega, W7.out⟩
          case measure => have := L30.out; simp [intOf] <;> omega
      · have l1 : decide ((k : Int) < (len : Int)) = true := by simp; omega
        have l2 : decide ((k : Int) < 30) = false := by simp; omega
        have l3 : decide (k < len) = true := by simp; omega
        have l4 : decide (k < 30) = false := by simp; omega
        clear hlt h30
        have ND := Lib.hid (HN.out.nd (by have := HK.out; omega))
        have L40 := Lib.hid (show L.length ≤ 30 by have := HL.out; have := HK.out; omega)
        have lr : (L.length : Int) ≤ 30 := by have := L40.out; omega
        clear HN HL HK HS
        go_wp2_with fail
        go_loopw [11] (fun i wr => ∃ (j : Nat) (s : GS), j ≤ L.length ∧ i = .int .i64 ((j : Int) - 1) ∧ Gk (KL w (.slice aa L.length acp)) wr gb s ∧ Nd s (L.take j) ∧ Lw w wr (.slice aa L.length acp) L.length (idl L)) (fun i _ => ((intOf i) + 1).toNat)
        case atStart => exact ⟨L.length, s, Nat.le_refl _, rfl, HG.out, by rw [List.take_length]; exact ND.out, HW.out⟩
        case round =>
          clear HG HW ND
          obtain ⟨j, s, hj, rfl, hg, hN, hW⟩ := hrel
          have HG := Lib.hid hg
          have HN := Lib.hid hN
          have HW := Lib.hid hW
          have HJ := Lib.hid hj
          clear hg hN hW hj
          cases j with
          | zero =>
            have RN := HG.out.run 0
            rw [(show Nd s [] from HN.out).run] at RN
            have RN' := Lib.hid RN
            have l1 : decide (0 ≤ ((0 : Nat) : Int) - 1) = false := by decide
            clear RN
            go_wp2_with (go_at_call 22; refine RN'.out.mono ?_; rintro e w7 ⟨rfl, -, f7⟩; have W7 := Lib.hid (HW.out.step f7); clear f7)
            go_ret
            exact ⟨rfl, W7.out.fr.old.below (Nat.le_refl _) fun _ _ x => x⟩
          | succ j =>
            have hj : j < L.length := HJ.out
            have hT : L.take (j + 1) = L.take j ++ [L[j]] := by rw [List.take_succ_eq_append_getElem hj]
            have HN2 := HN.out
            rw [hT] at HN2
            have ST := Lib.hid HN2.step
            have A1 := Lib.hid (HN.out.le (m := 30) (by rw [List.length_take]; have := L40.out; omega))
            have hid : (idl L)[j]? = some (.int .i64 L[j].2) := by simp [idl, hj]
            have l1 : decide (0 ≤ ((j + 1 : Nat) : Int) - 1) = true := by simp
            have l2 : ((j + 1 : Nat) : Int) - 1 = (j : Int) := by omega
            have l3 : (j : Int) < (L.length : Int) := by omega
            rw [l2]
            rcases HW.out.win.2 with ⟨h0, h00⟩ | ⟨g, off, acp', cs, hv, -, -⟩
            · omega
            cases hv
            have c1 := HW.out.win.cellAt hid
            have HC := Lib.hid hid
            generalize L[j].2 = id at *
            have HJ2 := Lib.hid hj
            clear hT HN2 hid hj l1
            go_wp2_with fail
            refine (eoi_ok _ gb s 0 id _ HG.out 30 (by omega) A1.out).mono ?_
            rintro e w2 ⟨rfl, g2, f2⟩
            rw [ST.out.2.1, ST.out.2.2.1, show code true = 0 from rfl]
            have G2 := Lib.hid g2
            have W2 := Lib.hid (HW.out.step f2)
            have c2 := W2.out.win.cellAt (j := j) (u := .int .i64 id) (by exact HC.out)
            clear g2 f2
            go_wp2_with fail
            refine (eoi_ok _ gb (s.eoi 0 id) 0 id _ G2.out 30 (by omega) (ST.out.1.le (by rw [List.length_take]; have := L40.out; omega))).mono ?_
            rintro e w3 ⟨rfl, g3, f3⟩
            rw [ST.out.2.2.2.1] at g3
            rw [ST.out.2.2.2.2.1, ST.out.2.2.2.2.2, show code true = 0 from rfl]
            have G3 := Lib.hid g3
            have W3 := Lib.hid (W2.out.step f3)
            clear g3 f3 G2 W2 HG HW
            go_wp2_with fail
            go_roundw
            case rel => exact ⟨j, _, Nat.le_of_lt HJ2.out, by go_num, G3.out, ST.out.1, W3.out⟩
            case measure => simp [intOf] <;> omega
    · have l1 : decide ((k : Int) < (len : Int)) = false := by simp; omega
      have l3 : decide (k < len) = false := by simp; omega
      clear hlt
      have ND := Lib.hid (HN.out.nd (by have := HK.out; omega))
      have L40 := Lib.hid (show L.length ≤ 30 by have := HL.out; have := HK.out; omega)
      have lr : (L.length : Int) ≤ 30 := by have := L40.out; omega
      clear HN HL HK HS
      go_wp2_with fail
      go_loopw [11] (fun i wr => ∃ (j : Nat) (s : GS), j ≤ L.length ∧ i = .int .i64 ((j : Int) - 1) ∧ Gk (KL w (.slice aa L.length acp)) wr gb s ∧ Nd s (L.take j) ∧ Lw w wr (.slice aa L.length acp) L.length (idl L)) (fun i _ => ((intOf i) + 1).toNat)
      case atStart => exact ⟨L.length, s, Nat.le_refl _, rfl, HG.out, by rw [List.take_length]; exact ND.out, HW.out⟩
      case round =>
        clear HG HW ND
        obtain ⟨j, s, hj, rfl, hg, hN, hW⟩ := hrel
        have HG := Lib.hid hg
        have HN := Lib.hid hN
        have HW := Lib.hid hW
        have HJ := Lib.hid hj
        clear hg hN hW hj
        cases j with
        | zero =>
          have RN := HG.out.run 0
          rw [(show Nd s [] from HN.out).run] at RN
          have RN' := Lib.hid RN
          have l1 : decide (0 ≤ ((0 : Nat) : Int) - 1) = false := by decide
          clear RN
          go_wp2_with (go_at_call 22; refine RN'.out.mono ?_; rintro e w7 ⟨rfl, -, f7⟩; have W7 := Lib.hid (HW.out.step f7); clear f7)
          go_ret
          exact ⟨rfl, W7.out.fr.old.below (Nat.le_refl _) fun _ _ x => x⟩
        | succ j =>
          have hj : j < L.length := HJ.out
          have hT : L.take (j + 1) = L.take j ++ [L[j]] := by rw [List.take_succ_eq_append_getElem hj]
          have HN2 := HN.out
          rw [hT] at HN2
          have ST := Lib.hid HN2.step
          have A1 := Lib.hid (HN.out.le (m := 30) (by rw [List.length_take]; have := L40.out; omega))
          have hid : (idl L)[j]? = some (.int .i64 L[j].2) := by simp [idl, hj]
          have l1 : decide (0 ≤ ((j + 1 : Nat) : Int) - 1) = true := by simp
          have l2 : ((j + 1 : Nat) : Int) - 1 = (j : Int) := by omega
          have l3 : (j : Int) < (L.length : Int) := by omega
          rw [l2]
          rcases HW.out.win.2 with ⟨h0, h00⟩ | ⟨g, off, acp', cs, hv, -, -⟩
          · omega
          cases hv
          have c1 := HW.out.win.cellAt hid
          have HC := Lib.hid hid
          generalize L[j].2 = id at *
          have HJ2 := Lib.hid hj
          clear hT HN2 hid hj l1
          go_wp2_with fail
          refine (eoi_ok _ gb s 0 id _ HG.out 30 (by omega) A1.out).mono ?_
          rintro e w2 ⟨rfl, g2, f2⟩
          rw [ST.out.2.1, ST.out.2.2.1, show code true = 0 from rfl]
          have G2 := Lib.hid g2
          have W2 := Lib.hid (HW.out.step f2)
          have c2 := W2.out.win.cellAt (j := j) (u := .int .i64 id) (by exact HC.out)
          clear g2 f2
          go_wp2_with fail
          refine (eoi_ok _ gb (s.eoi 0 id) 0 id _ G2.out 30 (by omega) (ST.out.1.le (by rw [List.length_take]; have := L40.out; omega))).mono ?_
          rintro e w3 ⟨rfl, g3, f3⟩
          rw [ST.out.2.2.2.1] at g3
          rw [ST.out.2.2.2.2.1, ST.out.2.2.2.2.2, show code true = 0 from rfl]
          have G3 := Lib.hid g3
          have W3 := Lib.hid (W2.out.step f3)
          clear g3 f3 G2 W2 HG HW
          go_wp2_with fail
          go_roundw
          case rel => exact ⟨j, _, Nat.le_of_lt HJ2.out, by go_num, G3.out, ST.out.1, W3.out⟩
          case measure => simp [intOf] <;> omega
end Go.Proofs.Ytpgelocofoidnaa
