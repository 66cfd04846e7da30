/- A relation closed; a loop of it. -/
import Derived.Test.YtpcpjmbfinpmlaaDoorRpr
import Derived.StillTailTactics
set_option linter.unusedSimpArgs false
set_option linter.unusedVariables false
set_option linter.unusedSectionVars false
namespace Go.Proofs.YtpcpjmbfinpmlaaDoor
open Go.RowKit
set_option maxRecDepth 100000

/-- Through k, of the first a things. -/
def clA (r : Rn) (k : Nat) : Nat → Rn
  | 0 => r
  | a + 1 => if clA r k a a k = true then upd (clA r k a) a (fun c => clA r k a a c || clA r k a k c) else clA r k a
def clK (n : Nat) (r : Rn) : Nat → Rn
  | 0 => r
  | k + 1 => clA (clK n r k) k n
def clo (n : Nat) (r : Rn) : Rn := clK n r n
theorem clA_eq (r : Rn) (k : Nat) : ∀ (a i c : Nat), clA r k a i c = (r i c || (decide (i < a) && r i k && r k c))
  | 0, i, c => by simp [clA]
  | a + 1, i, c => by
    have ih := clA_eq r k a
    have hk : ∀ c, clA r k a k c = r k c := fun c => by
      rw [ih]
      cases h1 : r k k <;> cases h2 : r k c <;> simp
    unfold clA
    by_cases h : clA r k a a k = true
    · rw [if_pos h]
      have hr : r a k = true := by
        have := ih a k
        rw [h] at this
        simpa using this.symm
      by_cases e : i = a
      · subst e
        rw [upd_same, hk, ih]
        simp [hr]
      · rw [upd_other _ _ e, ih]
        have : decide (i < a + 1) = decide (i < a) := by simp; omega
        rw [this]
    · rw [if_neg h]
      have hr : r a k = false := by
        have := ih a k
        cases hq : r a k
        · rfl
        · rw [hq] at this
          exact absurd (by simpa using this) h
      rw [ih]
      by_cases e : i = a
      · subst e; simp [hr]
      · have : decide (i < a + 1) = decide (i < a) := by simp; omega
        rw [this]
theorem clK_ok {n : Nat} {r : Rn} (h : ∀ a c, r a c = true → a < n ∧ c < n) : ∀ k a c, clK n r k a c = true → a < n ∧ c < n
  | 0, a, c, hq => h a c hq
  | k + 1, a, c, hq => by
    have ih := clK_ok h k
    unfold clK at hq
    rw [clA_eq] at hq
    simp only [Bool.or_eq_true, Bool.and_eq_true, decide_eq_true_eq] at hq
    rcases hq with h1 | ⟨⟨h1, h2⟩, h3⟩
    · exact ih a c h1
    · exact ⟨h1, (ih k c h3).2⟩
theorem clA_ok {n k : Nat} {r : Rn} (h : ∀ a c, r a c = true → a < n ∧ c < n) (a i c : Nat) (hq : clA r k a i c = true) : i < n ∧ c < n := by
  rw [clA_eq] at hq
  simp only [Bool.or_eq_true, Bool.and_eq_true, decide_eq_true_eq] at hq
  rcases hq with h1 | ⟨⟨h1, h2⟩, h3⟩
  · exact h i c h1
  · exact ⟨(h i k h2).1, (h k c h3).2⟩
theorem Tryd.info68 : (Tryd.prog.info? 68).map (·.size) = some 65 := by kernel_rfl
def ClosedTo (w : World) (n : Nat) (r : Rn) (e : Ending) (w' : World) : Prop := ∃ b, e = .returned (.pointer (some ⟨b, 0, none⟩)) ∧ RelAt w' b n r ∧ Fr Nil w w' ∧ w.heap.size ≤ b
set_option maxHeartbeats 1000000 in
theorem closed_ok (b n : Nat) (r : Rn) (w : World) (h : RelAt w b n r) : Calls Tryd.prog 10 #[.pointer (some ⟨b, 0, none⟩)] w (ClosedTo w n (clo n r)) := by
  have HB := Lib.hid h
  have HS := Lib.hid (show (rcs n r).toArray.size = 65 by simp [rcs_length])
  clear h
  go_enter Tryd.func10, Tryd.ntmps10
  have SZ := Lib.hid (show Tryd.zeroCells68.size = (rcs n r).toArray.size by rw [HS.out]; kernel_rfl)
  have ONE := Lib.hid (show (rcs n r).toArray.all (·.oneCell') = true by simp [rcs, rws, Value.oneCell'])
  go_upto_region 2 with (first | (refine wpList_load_blk rfl 68 (.tmp 7) rfl b rfl _ HB.out.blk Tryd.underlying68 rfl (by rw [HS.out]; exact Tryd.info68) ?_) | (refine wpList_store_blk0 rfl 68 (.tmp 3) (.tmp 8) rfl w.heap.size rfl (rcs n r).toArray rfl (Blk.new _ _ _) (by rw [HS.out]; exact Tryd.info68) SZ.out ONE.out ?_; intro w3 hf3 hb3))
  have R3 := Lib.hid (show RelAt w3 w.heap.size n r from ⟨hb3, HB.out.n64, HB.out.ok⟩)
  have F3 := Lib.hid (((Fr.refl Nil w).alloc _).own1 hf3 (Nat.le_refl _))
  have N64 := Lib.hid HB.out.n64
  have n64 : (n : Int) ≤ 64 := by have := HB.out.n64; omega
  have OK0 := Lib.hid HB.out.ok
  clear hf3 hb3 HB HS SZ ONE
  obtain ⟨g, hg⟩ : ∃ g, g = w.heap.size := ⟨_, rfl⟩
  rw [← hg] at R3 ⊢
  have HG := Lib.hid (Nat.le_of_eq hg.symm)
  clear hg
  have c0 := R3.out.n_c
  go_wp2_with fail
  clear c0
  go_loopw [11] (fun i wr => ∃ k : Nat, k ≤ n ∧ i = .int .i64 (k : Int) ∧ RelAt wr g n (clK n r k) ∧ Fr Nil w wr) (fun i _ => n - (intOf i).toNat)
  case atStart => exact ⟨0, Nat.zero_le _, rfl, R3.out, F3.out⟩
  case round =>
    obtain ⟨k, hk, rfl, hR, hF⟩ := hrel
    clear R3 F3
    have HR := Lib.hid hR
    have HF := Lib.hid hF
    clear hR hF
    by_cases hlt : k < n
    · have HK := Lib.hid hlt
      have kn : (k : Int) < (n : Int) := by omega
      have c0 := HR.out.n_c
      clear hk hlt
      go_wp2_with fail
      clear c0
      go_loopw [16] (fun i wr => ∃ a : Nat, a ≤ n ∧ i = .int .i64 (a : Int) ∧ RelAt wr g n (clA (clK n r k) k a) ∧ Fr Nil w wr) (fun i _ => n - (intOf i).toNat)
      case atStart => exact ⟨0, Nat.zero_le _, rfl, HR.out, HF.out⟩
      case round =>
        obtain ⟨a, ha, rfl, hR, hF⟩ := hrel
        clear HR HF
        have HR := Lib.hid hR
        have HF := Lib.hid hF
        clear hR hF
        by_cases hlt : a < n
        · have HA := Lib.hid hlt
          have an : (a : Int) < (n : Int) := by omega
          have a64 : (a : Int) < 64 := by omega
          have k64 : (k : Int) < 64 := by omega
          have c1 := HR.out.row_c (a := a) (by have := N64.out; omega)
          have BG := bw_get (clA (clK n r k) k a a) (b := k) (by have := N64.out; have := HK.out; omega)
          clear ha hlt
          cases hq : clA (clK n r k) k a a k
          · have EQ := Lib.hid (show clA (clK n r k) k (a + 1) = clA (clK n r k) k a by
              conv => lhs; unfold clA
              rw [hq]; rfl)
            rw [hq] at BG
            generalize (bw (clA (clK n r k) k a a) : Int) = x at *
            clear hq
            go_wp2_with fail
            go_roundw
            case rel => exact ⟨a + 1, HA.out, by go_num, by rw [EQ.out]; exact HR.out, HF.out⟩
            case measure => have := HA.out; simp [intOf]; omega
          · have EQ := Lib.hid (show clA (clK n r k) k (a + 1) = upd (clA (clK n r k) k a) a (fun c => clA (clK n r k) k a a c || clA (clK n r k) k a k c) by
              conv => lhs; unfold clA
              rw [hq]; rfl)
            rw [hq] at BG
            clear hq
            go_upto_region 9 with fail
            have HRd := Lib.hid (HR.out.fr0 (Fr.refl Nil wr).drew)
            have HFd := Lib.hid HF.out.drew
            have c2 : wr.cell? ⟨g, 1 + k, none⟩ = some (.int .u64 (bw (clA (clK n r k) k a k) : Int)) := HR.out.row_c (a := k) (by have := N64.out; have := HK.out; omega)
            have ho : bits .or .u64 (bw (clA (clK n r k) k a a) : Int) (bw (clA (clK n r k) k a k) : Int) = (bw (fun c => clA (clK n r k) k a a c || clA (clK n r k) k a k c) : Int) := by
              rw [orN _ _ (bw_lt _) (bw_lt _), bw_or]
            go_still_tail 11, (by kernel_rfl)
            change wpList _ _ _ _ _ wr.drew
            clear HR HF c1 c2
            generalize wr.drew = wd at *
            have c1 := HRd.out.row_c (a := a) (by have := N64.out; have := HA.out; omega)
            have z1 := HRd.out.blk.frozen (1 + a)
            have R5 := Lib.hid (HRd.out.set_ (a := a) HA.out (f := fun c => clA (clK n r k) k a a c || clA (clK n r k) k a k c) (fun c hc => by
              simp only [Bool.or_eq_true] at hc
              rcases hc with h | h
              · exact (HRd.out.ok a c h).2
              · exact (HRd.out.ok k c h).2))
            have F5 := Lib.hid (HFd.out.setNew (g := g) (i := 1 + a) HG.out (.int .u64 (bw (fun c => clA (clK n r k) k a a c || clA (clK n r k) k a k c) : Int)))
            go_wp2_with fail
            go_roundw
            case rel => exact ⟨a + 1, HA.out, by go_num, by rw [EQ.out]; exact R5.out, F5.out⟩
            case measure => have := HA.out; simp [intOf]; omega
        · obtain rfl : a = n := by omega
          have l1 : decide (a < a) = false := by simp
          clear ha hlt
          go_wp2_with fail
          go_roundw
          case rel => exact ⟨k + 1, HK.out, by go_num, HR.out, HF.out⟩
          case measure => have := HK.out; simp [intOf]; omega
    · obtain rfl : k = n := by omega
      have l1 : decide (k < k) = false := by simp
      clear hk hlt
      go_wp2_with fail
      go_ret
      exact ⟨g, rfl, HR.out, HF.out, HG.out⟩
end Go.Proofs.YtpcpjmbfinpmlaaDoor
