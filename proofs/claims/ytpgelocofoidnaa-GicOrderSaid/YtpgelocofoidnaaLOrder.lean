/- GicOrder, walked. -/
import Derived.Test.YtpgelocofoidnaaOplain
set_option linter.unusedSimpArgs false
set_option linter.unusedVariables false
namespace Go.Proofs.Ytpgelocofoidnaa
open Go.RowKit
set_option maxRecDepth 100000

/-- What waits, by the interrupt's number. -/
def wt (W : Nat → Bool) (k : Nat) : Bool := decide (32 ≤ k) && W (k - 32)
theorem wt_upd (W : Nat → Bool) (j : Nat) (b : Bool) : barr 64 (upd (wt W) (32 + j) b) = barr 64 (wt (upd W j b)) := barr_congr fun k hk => by
  unfold wt
  by_cases e : k = 32 + j
  · subst e
    rw [upd_same, Nat.add_sub_cancel_left, upd_same]
    simp
  · rw [upd_other _ _ e]
    by_cases h : 32 ≤ k
    · rw [upd_other _ _ (by omega)]
    · simp [h]
theorem wt_at (W : Nat → Bool) (j : Nat) : wt W (32 + j) = W j := by
  unfold wt
  rw [Nat.add_sub_cancel_left]
  simp
set_option maxHeartbeats 4000000 in
theorem gicOrder_walk (a0 : Option Addr) (len cap : Nat) (Z : Nat → Int) (a1 : Option Addr) (len1 cap1 : Nat) (Z1 : Nat → Int) (w : World) (hl : len ≤ cap) (hcap : cap ≤ maxLen) (hs : SlInts .i64 w a0 len Z) (hl1 : len1 ≤ cap1) (hcap1 : cap1 ≤ maxLen) (hs1 : SlInts .i64 w a1 len1 Z1) :
    Calls Try.prog 5 #[.slice a0 len cap, .slice a1 len1 cap1] w fun e w' => e = .returned (.bool true) ∧ Below w.heap.size w w' := by
  have HS := Lib.hid hs
  have HS1 := Lib.hid hs1
  have hlen : (len : Int) ≤ 9223372036854775807 := by simp only [maxLen] at hcap; omega
  have hlen1 : (len1 : Int) ≤ 9223372036854775807 := by simp only [maxLen] at hcap1; omega
  clear hs hl hcap hs1 hl1 hcap1
  go_enter Try.func5, Try.ntmps5
  go_wp2_with fail
  refine (known_ok w).mono ?_
  rintro e wa ⟨rfl, f0⟩
  have F0 := Lib.hid f0
  clear f0
  go_wp2_with fail
  refine (new_ok (fun k => k < w.heap.size) 1 (z := 1) wa rfl (by omega) (by omega) fun k hk => Nat.lt_of_lt_of_le hk F0.out.size).mono ?_
  rintro e wb ⟨gb, rfl, g1, f1, -⟩
  have G1 := Lib.hid g1
  have F1 := Lib.hid (F0.out.trans f1)
  clear g1 f1
  go_upto_region 6 with fail
  have B4 := Lib.hid (Blk.cast (cs' := (barr 64 (wt fun _ => false)).toArray) (Blk.new wb 36 #[.bool false, .bool false, .bool false, .bool false, .bool false, .bool false, .bool false, .bool false, .bool false, .bool false, .bool false, .bool false, .bool false, .bool false, .bool false, .bool false, .bool false, .bool false, .bool false, .bool false, .bool false, .bool false, .bool false, .bool false, .bool false, .bool false, .bool false, .bool false, .bool false, .bool false, .bool false, .bool false, .bool false, .bool false, .bool false, .bool false, .bool false, .bool false, .bool false, .bool false, .bool false, .bool false, .bool false, .bool false, .bool false, .bool false, .bool false, .bool false, .bool false, .bool false, .bool false, .bool false, .bool false, .bool false, .bool false, .bool false, .bool false, .bool false, .bool false, .bool false, .bool false, .bool false, .bool false, .bool false]) (by kernel_rfl))
  have G4 := Lib.hid (G1.out.more (.cells #[.bool false, .bool false, .bool false, .bool false, .bool false, .bool false, .bool false, .bool false, .bool false, .bool false, .bool false, .bool false, .bool false, .bool false, .bool false, .bool false, .bool false, .bool false, .bool false, .bool false, .bool false, .bool false, .bool false, .bool false, .bool false, .bool false, .bool false, .bool false, .bool false, .bool false, .bool false, .bool false, .bool false, .bool false, .bool false, .bool false, .bool false, .bool false, .bool false, .bool false, .bool false, .bool false, .bool false, .bool false, .bool false, .bool false, .bool false, .bool false, .bool false, .bool false, .bool false, .bool false, .bool false, .bool false, .bool false, .bool false, .bool false, .bool false, .bool false, .bool false, .bool false, .bool false, .bool false, .bool false] 36))
  have F4 := Lib.hid (F1.out.alloc (.cells #[.bool false, .bool false, .bool false, .bool false, .bool false, .bool false, .bool false, .bool false, .bool false, .bool false, .bool false, .bool false, .bool false, .bool false, .bool false, .bool false, .bool false, .bool false, .bool false, .bool false, .bool false, .bool false, .bool false, .bool false, .bool false, .bool false, .bool false, .bool false, .bool false, .bool false, .bool false, .bool false, .bool false, .bool false, .bool false, .bool false, .bool false, .bool false, .bool false, .bool false, .bool false, .bool false, .bool false, .bool false, .bool false, .bool false, .bool false, .bool false, .bool false, .bool false, .bool false, .bool false, .bool false, .bool false, .bool false, .bool false, .bool false, .bool false, .bool false, .bool false, .bool false, .bool false, .bool false, .bool false] 36))
  generalize (wb.alloc (.cells #[.bool false, .bool false, .bool false, .bool false, .bool false, .bool false, .bool false, .bool false, .bool false, .bool false, .bool false, .bool false, .bool false, .bool false, .bool false, .bool false, .bool false, .bool false, .bool false, .bool false, .bool false, .bool false, .bool false, .bool false, .bool false, .bool false, .bool false, .bool false, .bool false, .bool false, .bool false, .bool false, .bool false, .bool false, .bool false, .bool false, .bool false, .bool false, .bool false, .bool false, .bool false, .bool false, .bool false, .bool false, .bool false, .bool false, .bool false, .bool false, .bool false, .bool false, .bool false, .bool false, .bool false, .bool false, .bool false, .bool false, .bool false, .bool false, .bool false, .bool false, .bool false, .bool false, .bool false, .bool false] 36)) = w4 at *
  obtain ⟨bb, hbb⟩ : ∃ bb, bb = wb.heap.size := ⟨_, rfl⟩
  rw [← hbb] at G4 B4 ⊢
  have HBB := Lib.hid (show w.heap.size ≤ bb by have := F1.out.size; omega)
  clear hbb G1 F1
  go_wp2_with fail
  go_loopw [9, 10] (fun c i wr => ∃ (k : Nat) (s : GS) (W : Nat → Bool), k ≤ len ∧ k ≤ 40 ∧ c = .int .i64 (cnt W 32 : Int) ∧ i = .int .i64 (k : Int) ∧ Gk (More (fun k => k < w.heap.size) bb) wr gb s ∧ Ost s W ∧ Blk wr bb 36 (barr 64 (wt W)).toArray ∧ Fr (Not fun k => k < w.heap.size) w wr) (fun _ i _ => 40 - (intOf i).toNat)
  case atStart => exact ⟨0, new 1, fun _ => false, by omega, by omega, rfl, rfl, G4.out, Ost.first, B4.out, F4.out.nil⟩
  case round =>
    obtain ⟨k, s, W, hk, hk2, rfl, rfl, hg, hO, hb, hf⟩ := hrel
    have HG := Lib.hid hg
    have HO := Lib.hid hO
    have HB := Lib.hid hb
    have HF := Lib.hid hf
    have HK := Lib.hid (And.intro hk hk2)
    have HC := Lib.hid (cnt_le W 32)
    clear hg hO hb hf hk hk2 G4 B4 F4
    by_cases hlt : k < len
    · by_cases h40 : k < 40
      · have n1 : (k : Int) < (len : Int) := by omega
        have n2 : (k : Int) < 40 := by omega
        have L40 := Lib.hid (And.intro hlt h40)
        obtain ⟨b, off, hab, hb, h0, h1⟩ := HS.out k hlt
        subst hab
        have c1 := (HF.out.cell (p := ⟨b, off + k, none⟩) hb (fun hn => hn hb)).trans h0
        obtain ⟨p1, p2⟩ := i64_rng h1
        have PK := Lib.hid (fun W => pick_ok (Z k) 32 W p1 p2 (by omega) (by omega))
        obtain ⟨j, hj, hj2⟩ : ∃ j : Nat, pk (Z k) 32 = (j : Int) ∧ j < 32 := ⟨(pk (Z k) 32).toNat, by have := pk_rng (Z k) 32 (by omega); omega, by have := pk_rng (Z k) 32 (by omega); omega⟩
        rw [hj] at PK
        have HJ := Lib.hid hj2
        have j32 : (j : Int) < 32 := by omega
        clear hb h0 h1 p1 p2 hlt h40 hj hj2
        go_upto_region 11 with (go_at_call 13; refine (PK.out _).mono ?_; rintro e w9 ⟨rfl, rfl⟩)
        clear c1
        by_cases hl1 : k < len1
        · have q1 : (k : Int) < (len1 : Int) := by omega
          obtain ⟨b2, off2, hab2, hb2, h02, h12⟩ := HS1.out k hl1
          subst hab2
          have c3 := (HF.out.cell (p := ⟨b2, off2 + k, none⟩) hb2 (fun hn => hn hb2)).trans h02
          obtain ⟨p3, p4⟩ := i64_rng h12
          have PK6 := Lib.hid (fun W => pick_ok (Z1 k) 6 W p3 p4 (by omega) (by omega))
          have RG : Hid (0 ≤ pk (Z1 k) 6 ∧ pk (Z1 k) 6 ≤ 7) := Lib.hid (by have := pk_rng (Z1 k) 6 (by omega); omega)
          generalize pk (Z1 k) 6 = r at *
          clear hb2 h02 h12 p3 p4
          go_upto_region 14 with (go_at_call 13; refine (PK6.out _).mono ?_; rintro e w9 ⟨rfl, rfl⟩)
          clear c3 hl1
          have S1 := Lib.hid (HO.out.set1 HJ.out RG.out.1 RG.out.2)
          have S2 := Lib.hid (HO.out.set2 HJ.out { s.sh j with rk := r })
          have S3 := Lib.hid (HO.out.set3 HJ.out { { s.sh j with rk := r } with en := true })
          have NO := Lib.hid (show Ost (stp s j { { { s.sh j with rk := r } with en := true } with la := true }) (upd W j true) from HO.out.add HJ.out RG.out.1 RG.out.2)
          go_wp2_with fail
          refine (rank_ok _ gb s 0 (32 + (j : Int)) r _ HG.out).mono ?_
          rintro e w5 ⟨rfl, g5, f5⟩
          rw [S1.out.1] at g5
          rw [S1.out.2]
          have G5 := Lib.hid g5
          have B5 := Lib.hid (HB.out.fr f5 fun hn => hn (.inr rfl))
          have F5 := Lib.hid (HF.out.step f5 fun i hi hn => .inl fun hk => hn (.inl hk))
          clear g5 f5 HG HB HF
          go_wp2_with fail
          refine (enable_ok _ gb _ 0 (32 + (j : Int)) true _ G5.out).mono ?_
          rintro e w6 ⟨rfl, g6, f6⟩
          rw [S2.out.1] at g6
          rw [S2.out.2]
          have G6 := Lib.hid g6
          have B6 := Lib.hid (B5.out.fr f6 fun hn => hn (.inr rfl))
          have F6 := Lib.hid (F5.out.step f6 fun i hi hn => .inl fun hk => hn (.inl hk))
          clear g6 f6 G5 B5 F5
          go_wp2_with fail
          refine (pend_ok _ gb _ 0 (32 + (j : Int)) true _ G6.out).mono ?_
          rintro e w7 ⟨rfl, g7, f7⟩
          rw [S3.out.1] at g7
          rw [S3.out.2]
          have G7 := Lib.hid g7
          have B7 := Lib.hid (B6.out.fr f7 fun hn => hn (.inr rfl))
          have F7 := Lib.hid (F6.out.step f7 fun i hi hn => .inl fun hk => hn (.inl hk))
          clear g7 f7 G6 B6 F6 S1 S2 S3
          generalize stp s j { { { s.sh j with rk := r } with en := true } with la := true } = s7 at *
          have c2 := B7.out.bget (k := 32 + j) (by have := HJ.out; omega)
          have z2 := B7.out.frozen (32 + j)
          rw [wt_at] at c2
          cases hw : W j
          · rw [hw] at c2
            have B8 := Lib.hid (B7.out.bset (k := 32 + j) (by have := HJ.out; omega) true)
            rw [wt_upd] at B8
            have G8 := Lib.hid (G7.out.setK (b := bb) (.inr rfl) (32 + j) (.bool true))
            have F8 := Lib.hid (F7.out.setCell (p := ⟨bb, 32 + j, none⟩) (.inl (show Not (fun k => k < w.heap.size) bb by have := HBB.out; unfold Not; omega)) (.bool true))
            have CN := Lib.hid (cnt_set hw HJ.out)
            have HC32 : (cnt W 32 : Int) ≤ 32 := by have := HC.out; omega
            clear B7 G7 F7
            go_wp2_with fail
            go_roundw
            case rel => exact ⟨k + 1, s7, upd W j true, by have := L40.out; omega, by have := L40.out; omega, by rw [CN.out]; go_num, by go_num, G8.out, NO.out, B8.out, F8.out⟩
            case measure => have := L40.out; simp [intOf] <;> omega
          · rw [hw] at c2
            have ew : upd W j true = W := by
              funext i
              unfold upd
              by_cases e : i = j
              · subst e; simp [hw]
              · simp [e]
            rw [ew] at NO
            clear ew
            go_wp2_with fail
            go_roundw
            case rel => exact ⟨k + 1, s7, W, by have := L40.out; omega, by have := L40.out; omega, rfl, by go_num, G7.out, NO.out, B7.out, F7.out⟩
            case measure => have := L40.out; simp [intOf] <;> omega
        · have q1 : decide ((k : Int) < (len1 : Int)) = false := by simp; omega
          have q2 : decide (k < len1) = false := by simp; omega
          obtain ⟨r, hr⟩ : ∃ r : Int, r = 7 := ⟨7, rfl⟩
          have RG : Hid (0 ≤ r ∧ r ≤ 7) := Lib.hid (by omega)
          go_upto_region 14 with fail
          rw [← hr]
          clear hr hl1
          have S1 := Lib.hid (HO.out.set1 HJ.out RG.out.1 RG.out.2)
          have S2 := Lib.hid (HO.out.set2 HJ.out { s.sh j with rk := r })
          have S3 := Lib.hid (HO.out.set3 HJ.out { { s.sh j with rk := r } with en := true })
          have NO := Lib.hid (show Ost (stp s j { { { s.sh j with rk := r } with en := true } with la := true }) (upd W j true) from HO.out.add HJ.out RG.out.1 RG.out.2)
          go_wp2_with fail
          refine (rank_ok _ gb s 0 (32 + (j : Int)) r _ HG.out).mono ?_
          rintro e w5 ⟨rfl, g5, f5⟩
          rw [S1.out.1] at g5
          rw [S1.out.2]
          have G5 := Lib.hid g5
          have B5 := Lib.hid (HB.out.fr f5 fun hn => hn (.inr rfl))
          have F5 := Lib.hid (HF.out.step f5 fun i hi hn => .inl fun hk => hn (.inl hk))
          clear g5 f5 HG HB HF
          go_wp2_with fail
          refine (enable_ok _ gb _ 0 (32 + (j : Int)) true _ G5.out).mono ?_
          rintro e w6 ⟨rfl, g6, f6⟩
          rw [S2.out.1] at g6
          rw [S2.out.2]
          have G6 := Lib.hid g6
          have B6 := Lib.hid (B5.out.fr f6 fun hn => hn (.inr rfl))
          have F6 := Lib.hid (F5.out.step f6 fun i hi hn => .inl fun hk => hn (.inl hk))
          clear g6 f6 G5 B5 F5
          go_wp2_with fail
          refine (pend_ok _ gb _ 0 (32 + (j : Int)) true _ G6.out).mono ?_
          rintro e w7 ⟨rfl, g7, f7⟩
          rw [S3.out.1] at g7
          rw [S3.out.2]
          have G7 := Lib.hid g7
          have B7 := Lib.hid (B6.out.fr f7 fun hn => hn (.inr rfl))
          have F7 := Lib.hid (F6.out.step f7 fun i hi hn => .inl fun hk => hn (.inl hk))
          clear g7 f7 G6 B6 F6 S1 S2 S3
          generalize stp s j { { { s.sh j with rk := r } with en := true } with la := true } = s7 at *
          have c2 := B7.out.bget (k := 32 + j) (by have := HJ.out; omega)
          have z2 := B7.out.frozen (32 + j)
          rw [wt_at] at c2
          cases hw : W j
          · rw [hw] at c2
            have B8 := Lib.hid (B7.out.bset (k := 32 + j) (by have := HJ.out; omega) true)
            rw [wt_upd] at B8
            have G8 := Lib.hid (G7.out.setK (b := bb) (.inr rfl) (32 + j) (.bool true))
            have F8 := Lib.hid (F7.out.setCell (p := ⟨bb, 32 + j, none⟩) (.inl (show Not (fun k => k < w.heap.size) bb by have := HBB.out; unfold Not; omega)) (.bool true))
            have CN := Lib.hid (cnt_set hw HJ.out)
            have HC32 : (cnt W 32 : Int) ≤ 32 := by have := HC.out; omega
            clear B7 G7 F7
            go_wp2_with fail
            go_roundw
            case rel => exact ⟨k + 1, s7, upd W j true, by have := L40.out; omega, by have := L40.out; omega, by rw [CN.out]; go_num, by go_num, G8.out, NO.out, B8.out, F8.out⟩
            case measure => have := L40.out; simp [intOf] <;> omega
          · rw [hw] at c2
            have ew : upd W j true = W := by
              funext i
              unfold upd
              by_cases e : i = j
              · subst e; simp [hw]
              · simp [e]
            rw [ew] at NO
            clear ew
            go_wp2_with fail
            go_roundw
            case rel => exact ⟨k + 1, s7, W, by have := L40.out; omega, by have := L40.out; omega, rfl, by go_num, G7.out, NO.out, B7.out, F7.out⟩
            case measure => have := L40.out; simp [intOf] <;> omega
      · have l1 : decide ((k : Int) < (len : Int)) = true := by simp; omega
        have l2 : decide ((k : Int) < 40) = false := by simp; omega
        have l3 : decide (k < len) = true := by simp; omega
        have l4 : decide (k < 40) = false := by simp; omega
        clear hlt h40
        have M32 := Lib.hid HC.out
        obtain ⟨M, hM⟩ : ∃ M, M = cnt W 32 := ⟨_, rfl⟩
        rw [← hM] at M32 ⊢
        have HM := Lib.hid hM.symm
        have m32 : (M : Int) ≤ 32 := by have := M32.out; omega
        clear hM HS HS1 HK HC hlen hlen1
        go_wp2_with fail
        go_loopw [13, 14, 15] (fun la lr i wr => ∃ (k : Nat) (s : GS) (W : Nat → Bool) (zl zr : Int), k ≤ M ∧ la = .int .i64 zl ∧ lr = .int .i64 zr ∧ i = .int .i64 (k : Int) ∧ cnt W 32 + k = M ∧ (∀ j, j < 32 → W j = true → zr < (s.sh j).rk ∨ (zr = (s.sh j).rk ∧ zl < 32 + (j : Int))) ∧ Gk (More (fun k => k < w.heap.size) bb) wr gb s ∧ Ost s W ∧ Blk wr bb 36 (barr 64 (wt W)).toArray ∧ Fr (Not fun k => k < w.heap.size) w wr) (fun _ _ i _ => M - (intOf i).toNat)
        case atStart => exact ⟨0, s, W, -1, -1, by omega, rfl, rfl, rfl, by have := HM.out; omega, fun j hj hw => by have := (HO.out.yes j hj hw).2.2.1; omega, HG.out, HO.out, HB.out, HF.out⟩
        case round =>
          clear HG HO HB HF HM
          obtain ⟨k, s, W, zl, zr, hk, rfl, rfl, rfl, hcn, hz, hg, hO, hb, hf⟩ := hrel
          have HG := Lib.hid hg
          have HO := Lib.hid hO
          have HB := Lib.hid hb
          have HF := Lib.hid hf
          have HZ := Lib.hid hz
          have HCN := Lib.hid hcn
          clear hg hO hb hf hz hcn
          by_cases hlt : k < M
          · obtain ⟨j, hj, hw, hm, hV, hc, hR, hE, hok, hAt, hO, hsh⟩ := HO.out.ack (by have := HCN.out; omega)
            have PZ := HZ.out j hj hw
            have c1 := HB.out.bget (k := 32 + j) (by omega)
            rw [wt_at, hw] at c1
            have HM := Lib.hid hm
            have HV := Lib.hid hV
            have HE := Lib.hid (And.intro hE hok)
            have HAT := Lib.hid hAt
            have HO2 := Lib.hid hO
            have HSH := Lib.hid hsh
            have HJ := Lib.hid hj
            have CD := Lib.hid (cnt_drop hw hj)
            have km : (k : Int) < (M : Int) := by omega
            have HKM := Lib.hid hlt
            have j32 : (j : Int) < 32 := by omega
            clear hm hV hE hok hAt hO hsh hc hlt hk hw
            go_wp2_with fail
            refine (ack_ok _ gb s 0 _ HG.out 1 (by omega) HO.out.le).mono ?_
            rintro e w2 ⟨rfl, g2, f2⟩
            rw [HV.out]
            have B2 := Lib.hid (HB.out.fr f2 fun hn => hn (.inr rfl))
            have F2 := Lib.hid (HF.out.step f2 fun i hi hn => .inl fun hk => hn (.inl hk))
            have RT := g2.rate 0 (32 + (j : Int))
            rw [hR] at RT
            have RT' := Lib.hid RT
            have G2 := Lib.hid g2
            have c2 := B2.out.bget (k := 32 + j) (by omega)
            rw [wt_at, (HB.out.bget (k := 32 + j) (by omega)).symm.trans c1 |> fun h => (by injection h with h; injection h with h; exact (wt_at W j).symm.trans h : W j = true)] at c2
            have z2 := B2.out.frozen (32 + j)
            have B3 := Lib.hid (B2.out.bset (k := 32 + j) (by omega) false)
            rw [wt_upd] at B3
            have G3 := Lib.hid (G2.out.setK (b := bb) (.inr rfl) (32 + j) (.bool false))
            have F3 := Lib.hid (F2.out.setCell (p := ⟨bb, 32 + j, none⟩) (.inl (show Not (fun k => k < w.heap.size) bb by have := HBB.out; unfold Not; omega)) (.bool false))
            generalize hrk : (s.sh j).rk = r at *
            have HRK := Lib.hid hrk
            clear g2 f2 c1 hR RT B2 F2 G2 hj hrk
            have q1 : decide (r < zr) = false := by simp; omega
            have NX := Lib.hid (fun q (hq : q < 32) (hwq : upd W j false q = true) => show r < (((s.ack 0).eoi 0 (32 + (j : Int))).sh q).rk ∨ (r = (((s.ack 0).eoi 0 (32 + (j : Int))).sh q).rk ∧ 32 + (j : Int) < 32 + (q : Int)) from by
              by_cases e : q = j
              · subst e; rw [upd_same] at hwq; cases hwq
              · rw [upd_other _ _ e] at hwq
                rw [HSH.out, upd_other _ _ e]
                have := HM.out q hq hwq
                omega)
            clear HM HSH
            by_cases hqq : zr = r
            · have q2 : (r == zr) = true := by simp [hqq]
              have q3 : decide (32 + (j : Int) ≤ zl) = false := by simp; omega
              clear hqq PZ
              go_wp2_with (go_at_call 23; refine RT'.out.mono ?_; rintro e w9 ⟨rfl, rfl⟩)
              refine (eoi_ok _ gb (s.ack 0) 0 (32 + (j : Int)) _ G3.out 1 (by omega) HAT.out).mono ?_
              rintro e w4 ⟨rfl, g4, f4⟩
              rw [HE.out.1, HE.out.2, show code true = 0 from rfl]
              have G4 := Lib.hid g4
              have B4 := Lib.hid (B3.out.fr f4 fun hn => hn (.inr rfl))
              have F4 := Lib.hid (F3.out.step f4 fun i hi hn => .inl fun hk => hn (.inl hk))
              clear g4 f4 G3 B3 F3
              go_wp2_with fail
              go_roundw
              case rel => exact ⟨k + 1, _, upd W j false, 32 + (j : Int), r, HKM.out, rfl, rfl, by go_num, by have := CD.out; have := HCN.out; omega, NX.out, G4.out, HO2.out, B4.out, F4.out⟩
              case measure => have := HKM.out; simp [intOf] <;> omega
            · have q2 : (r == zr) = false := by simp; omega
              clear hqq PZ
              go_wp2_with (go_at_call 23; refine RT'.out.mono ?_; rintro e w9 ⟨rfl, rfl⟩)
              refine (eoi_ok _ gb (s.ack 0) 0 (32 + (j : Int)) _ G3.out 1 (by omega) HAT.out).mono ?_
              rintro e w4 ⟨rfl, g4, f4⟩
              rw [HE.out.1, HE.out.2, show code true = 0 from rfl]
              have G4 := Lib.hid g4
              have B4 := Lib.hid (B3.out.fr f4 fun hn => hn (.inr rfl))
              have F4 := Lib.hid (F3.out.step f4 fun i hi hn => .inl fun hk => hn (.inl hk))
              clear g4 f4 G3 B3 F3
              go_wp2_with fail
              go_roundw
              case rel => exact ⟨k + 1, _, upd W j false, 32 + (j : Int), r, HKM.out, rfl, rfl, by go_num, by have := CD.out; have := HCN.out; omega, NX.out, G4.out, HO2.out, B4.out, F4.out⟩
              case measure => have := HKM.out; simp [intOf] <;> omega
          · obtain rfl : k = M := by omega
            have E0 := Lib.hid (HO.out.last (by have := HCN.out; omega))
            clear hlt hk
            go_wp2_with (go_at_call 16; refine (ack_ok _ gb s 0 _ HG.out 1 (by omega) HO.out.le).mono ?_; rintro e w2 ⟨rfl, -, f2⟩; have F2 := Lib.hid (HF.out.step f2 fun i hi hn => .inl fun hk => hn (.inl hk)); clear f2; rw [E0.out])
            go_ret
            exact ⟨rfl, F2.out.old.below (Nat.le_refl _) fun _ _ x => x⟩
    · have l1 : decide ((k : Int) < (len : Int)) = false := by simp; omega
      have l3 : decide (k < len) = false := by simp; omega
      clear hlt
      have M32 := Lib.hid HC.out
      obtain ⟨M, hM⟩ : ∃ M, M = cnt W 32 := ⟨_, rfl⟩
      rw [← hM] at M32 ⊢
      have HM := Lib.hid hM.symm
      have m32 : (M : Int) ≤ 32 := by have := M32.out; omega
      clear hM HS HS1 HK HC hlen hlen1
      go_wp2_with fail
      go_loopw [13, 14, 15] (fun la lr i wr => ∃ (k : Nat) (s : GS) (W : Nat → Bool) (zl zr : Int), k ≤ M ∧ la = .int .i64 zl ∧ lr = .int .i64 zr ∧ i = .int .i64 (k : Int) ∧ cnt W 32 + k = M ∧ (∀ j, j < 32 → W j = true → zr < (s.sh j).rk ∨ (zr = (s.sh j).rk ∧ zl < 32 + (j : Int))) ∧ Gk (More (fun k => k < w.heap.size) bb) wr gb s ∧ Ost s W ∧ Blk wr bb 36 (barr 64 (wt W)).toArray ∧ Fr (Not fun k => k < w.heap.size) w wr) (fun _ _ i _ => M - (intOf i).toNat)
      case atStart => exact ⟨0, s, W, -1, -1, by omega, rfl, rfl, rfl, by have := HM.out; omega, fun j hj hw => by have := (HO.out.yes j hj hw).2.2.1; omega, HG.out, HO.out, HB.out, HF.out⟩
      case round =>
        clear HG HO HB HF HM
        obtain ⟨k, s, W, zl, zr, hk, rfl, rfl, rfl, hcn, hz, hg, hO, hb, hf⟩ := hrel
        have HG := Lib.hid hg
        have HO := Lib.hid hO
        have HB := Lib.hid hb
        have HF := Lib.hid hf
        have HZ := Lib.hid hz
        have HCN := Lib.hid hcn
        clear hg hO hb hf hz hcn
        by_cases hlt : k < M
        · obtain ⟨j, hj, hw, hm, hV, hc, hR, hE, hok, hAt, hO, hsh⟩ := HO.out.ack (by have := HCN.out; omega)
          have PZ := HZ.out j hj hw
          have c1 := HB.out.bget (k := 32 + j) (by omega)
          rw [wt_at, hw] at c1
          have HM := Lib.hid hm
          have HV := Lib.hid hV
          have HE := Lib.hid (And.intro hE hok)
          have HAT := Lib.hid hAt
          have HO2 := Lib.hid hO
          have HSH := Lib.hid hsh
          have HJ := Lib.hid hj
          have CD := Lib.hid (cnt_drop hw hj)
          have km : (k : Int) < (M : Int) := by omega
          have HKM := Lib.hid hlt
          have j32 : (j : Int) < 32 := by omega
          clear hm hV hE hok hAt hO hsh hc hlt hk hw
          go_wp2_with fail
          refine (ack_ok _ gb s 0 _ HG.out 1 (by omega) HO.out.le).mono ?_
          rintro e w2 ⟨rfl, g2, f2⟩
          rw [HV.out]
          have B2 := Lib.hid (HB.out.fr f2 fun hn => hn (.inr rfl))
          have F2 := Lib.hid (HF.out.step f2 fun i hi hn => .inl fun hk => hn (.inl hk))
          have RT := g2.rate 0 (32 + (j : Int))
          rw [hR] at RT
          have RT' := Lib.hid RT
          have G2 := Lib.hid g2
          have c2 := B2.out.bget (k := 32 + j) (by omega)
          rw [wt_at, (HB.out.bget (k := 32 + j) (by omega)).symm.trans c1 |> fun h => (by injection h with h; injection h with h; exact (wt_at W j).symm.trans h : W j = true)] at c2
          have z2 := B2.out.frozen (32 + j)
          have B3 := Lib.hid (B2.out.bset (k := 32 + j) (by omega) false)
          rw [wt_upd] at B3
          have G3 := Lib.hid (G2.out.setK (b := bb) (.inr rfl) (32 + j) (.bool false))
          have F3 := Lib.hid (F2.out.setCell (p := ⟨bb, 32 + j, none⟩) (.inl (show Not (fun k => k < w.heap.size) bb by have := HBB.out; unfold Not; omega)) (.bool false))
          generalize hrk : (s.sh j).rk = r at *
          have HRK := Lib.hid hrk
          clear g2 f2 c1 hR RT B2 F2 G2 hj hrk
          have q1 : decide (r < zr) = false := by simp; omega
          have NX := Lib.hid (fun q (hq : q < 32) (hwq : upd W j false q = true) => show r < (((s.ack 0).eoi 0 (32 + (j : Int))).sh q).rk ∨ (r = (((s.ack 0).eoi 0 (32 + (j : Int))).sh q).rk ∧ 32 + (j : Int) < 32 + (q : Int)) from by
            by_cases e : q = j
            · subst e; rw [upd_same] at hwq; cases hwq
            · rw [upd_other _ _ e] at hwq
              rw [HSH.out, upd_other _ _ e]
              have := HM.out q hq hwq
              omega)
          clear HM HSH
          by_cases hqq : zr = r
          · have q2 : (r == zr) = true := by simp [hqq]
            have q3 : decide (32 + (j : Int) ≤ zl) = false := by simp; omega
            clear hqq PZ
            go_wp2_with (go_at_call 23; refine RT'.out.mono ?_; rintro e w9 ⟨rfl, rfl⟩)
            refine (eoi_ok _ gb (s.ack 0) 0 (32 + (j : Int)) _ G3.out 1 (by omega) HAT.out).mono ?_
            rintro e w4 ⟨rfl, g4, f4⟩
            rw [HE.out.1, HE.out.2, show code true = 0 from rfl]
            have G4 := Lib.hid g4
            have B4 := Lib.hid (B3.out.fr f4 fun hn => hn (.inr rfl))
            have F4 := Lib.hid (F3.out.step f4 fun i hi hn => .inl fun hk => hn (.inl hk))
            clear g4 f4 G3 B3 F3
            go_wp2_with fail
            go_roundw
            case rel => exact ⟨k + 1, _, upd W j false, 32 + (j : Int), r, HKM.out, rfl, rfl, by go_num, by have := CD.out; have := HCN.out; omega, NX.out, G4.out, HO2.out, B4.out, F4.out⟩
            case measure => have := HKM.out; simp [intOf] <;> omega
          · have q2 : (r == zr) = false := by simp; omega
            clear hqq PZ
            go_wp2_with (go_at_call 23; refine RT'.out.mono ?_; rintro e w9 ⟨rfl, rfl⟩)
            refine (eoi_ok _ gb (s.ack 0) 0 (32 + (j : Int)) _ G3.out 1 (by omega) HAT.out).mono ?_
            rintro e w4 ⟨rfl, g4, f4⟩
            rw [HE.out.1, HE.out.2, show code true = 0 from rfl]
            have G4 := Lib.hid g4
            have B4 := Lib.hid (B3.out.fr f4 fun hn => hn (.inr rfl))
            have F4 := Lib.hid (F3.out.step f4 fun i hi hn => .inl fun hk => hn (.inl hk))
            clear g4 f4 G3 B3 F3
            go_wp2_with fail
            go_roundw
            case rel => exact ⟨k + 1, _, upd W j false, 32 + (j : Int), r, HKM.out, rfl, rfl, by go_num, by have := CD.out; have := HCN.out; omega, NX.out, G4.out, HO2.out, B4.out, F4.out⟩
            case measure => have := HKM.out; simp [intOf] <;> omega
        · obtain rfl : k = M := by omega
          have E0 := Lib.hid (HO.out.last (by have := HCN.out; omega))
          clear hlt hk
          go_wp2_with (go_at_call 16; refine (ack_ok _ gb s 0 _ HG.out 1 (by omega) HO.out.le).mono ?_; rintro e w2 ⟨rfl, -, f2⟩; have F2 := Lib.hid (HF.out.step f2 fun i hi hn => .inl fun hk => hn (.inl hk)); clear f2; rw [E0.out])
          go_ret
          exact ⟨rfl, F2.out.old.below (Nat.le_refl _) fun _ _ x => x⟩
end Go.Proofs.Ytpgelocofoidnaa
