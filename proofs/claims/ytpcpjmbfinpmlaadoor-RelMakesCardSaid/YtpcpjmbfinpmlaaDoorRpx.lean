/- The document's pairs. -/
import Derived.Test.YtpcpjmbfinpmlaaDoorRrf
import Derived.Test.YtpcpjmbfinpmlaaDoorRpr
set_option linter.unusedSimpArgs false
set_option linter.unusedVariables false
set_option linter.unusedSectionVars false
namespace Go.Proofs.YtpcpjmbfinpmlaaDoor
open Go.RowKit
set_option maxRecDepth 100000

theorem prow_all {n : Nat} {r : Rn} (h : ∀ a c, r a c = true → a < n ∧ c < n) (h64 : n ≤ 64) (k : Nat) : prow r k n = prow r k 64 :=
  (prow_skip h64 fun i hi _ => by
    cases hr : r k i
    · rfl
    · have := (h k i hr).2; omega).symm
theorem prsK_all {n : Nat} {r : Rn} (h : ∀ a c, r a c = true → a < n ∧ c < n) (h64 : n ≤ 64) : prsK r n = prs r := by
  have e : ∀ d, prsK r (n + d) = prsK r n := by
    intro d
    induction d with
    | zero => rfl
    | succ d ih =>
      rw [← Nat.add_assoc, show prsK r (n + d + 1) = prsK r (n + d) ++ prow r (n + d) 64 from rfl, ih]
      have : prow r (n + d) 64 = [] := by
        rw [prow_skip (t := 0) (u := 64) (by omega) fun i _ _ => by
          cases hr : r (n + d) i
          · rfl
          · have := (h (n + d) i hr).1; omega]
        rfl
      rw [this, List.append_nil]
  have := e (64 - n)
  rw [show n + (64 - n) = 64 by omega] at this
  exact this.symm
set_option maxHeartbeats 1000000 in
theorem rpairs_ok (b n : Nat) (r : Rn) (w : World) (h : RefAt w b n r) (hok : ∀ a c, r a c = true → a < n ∧ c < n) : Calls Tryd.prog 44 #[.pointer (some ⟨b, 0, none⟩)] w (PairsTo w (prs r)) := by
  have HB := Lib.hid h
  have N64 := Lib.hid h.n64
  have PA := Lib.hid (prow_all hok h.n64)
  have PK := Lib.hid (prsK_all hok h.n64)
  have n64 : (n : Int) ≤ 64 := by have := h.n64; omega
  obtain ⟨i60, hi60, hz0, hz1, hz2⟩ := info_parts Tryd.info60
  clear h hok
  go_enter Tryd.func44, Tryd.ntmps44
  go_wp2_with fail
  go_loopw [3, 4] (fun lv i wr => ∃ (k : Nat) (aa : Option Addr) (acp : Nat), k ≤ n ∧ i = .int .i64 (k : Int) ∧ lv = .slice aa (prsK r k).length acp ∧ Lst w wr 60 2 (.slice aa (prsK r k).length acp) (prsK r k).length (pcs (prsK r k))) (fun _ i _ => n - (intOf i).toNat)
  case atStart => exact ⟨0, none, 0, Nat.zero_le _, rfl, rfl, Lst.first w 60 2⟩
  case round =>
    obtain ⟨k, aa, acp, hk, rfl, rfl, hL⟩ := hrel
    have HL := Lib.hid hL
    clear hL
    have c0 := (HB.out.fr0 HL.out.fr).n_c
    by_cases hlt : k < n
    · have HK := Lib.hid hlt
      have kn : (k : Int) < (n : Int) := by omega
      have LL0 : Hid (prsK r k ++ prow r k 0 = prsK r k) := Lib.hid (by simp [prow, some_])
      clear hk hlt
      go_upto_region 5 with fail
      clear c0
      go_wp2_with fail
      go_loopw [3, 5] (fun lv x wr2 => ∃ (t : Nat) (aa : Option Addr) (acp : Nat), t ≤ n ∧ x = .int .i64 (t : Int) ∧ lv = .slice aa (prsK r k ++ prow r k t).length acp ∧ Lst w wr2 60 2 (.slice aa (prsK r k ++ prow r k t).length acp) (prsK r k ++ prow r k t).length (pcs (prsK r k ++ prow r k t))) (fun _ x _ => n - (intOf x).toNat)
      case atStart => exact ⟨0, aa, acp, Nat.zero_le _, rfl, by rw [LL0.out], by rw [LL0.out]; exact HL.out⟩
      case round =>
        clear HL LL0
        obtain ⟨t, aa2, acp2, ht, rfl, rfl, hL⟩ := hrel
        have HL := Lib.hid hL
        have HLN := Lib.hid (show (prsK r k ++ prow r k t).length ≤ 4096 by
          have := prsK_len r k
          have := prow_len r k t
          have := HK.out
          have := N64.out
          rw [List.length_append]
          omega)
        clear hL
        have c0 := (HB.out.fr0 HL.out.fr).n_c
        by_cases htn : t < n
        · have HT := Lib.hid htn
          have tn : (t : Int) < (n : Int) := by omega
          have k64 : (k : Int) < 64 := by omega
          have t64 : (t : Int) < 64 := by omega
          have c1 := (HB.out.fr0 HL.out.fr).c_c (a := k) (c := t) (by have := HK.out; have := N64.out; omega) (by have := N64.out; omega)
          clear ht htn
          cases hr : r k t
          · rw [hr] at c1
            have PT := Lib.hid (show prow r k (t + 1) = prow r k t from prow_skip (by omega) fun i h1 h2 => by
              obtain rfl : i = t := by omega
              exact hr)
            clear hr
            go_wp2_with fail
            go_roundw
            case rel => exact ⟨t + 1, aa2, acp2, HT.out, by go_num, by rw [PT.out], by rw [PT.out]; exact HL.out⟩
            case measure => have := HT.out; simp [intOf]; omega
          · rw [hr] at c1
            have PT := Lib.hid (show prsK r k ++ prow r k (t + 1) = (prsK r k ++ prow r k t) ++ [(k, t)] by rw [prow_take hr, List.append_assoc])
            clear hr
            generalize prsK r k ++ prow r k t = L at *
            go_upto_region 9 with fail
            clear c0 c1
            go_wp2_with (at_builtin; refine wpList_append_win _ rfl (.tmp 30) (.tmp 34) 22 rfl 60 i60 _ 2 16 Tryd.underlying22 hi60 hz0 hz1 hz2 rfl (by decide) _ _ _ rfl (HL.out.win.alloc _) ⟨wr.heap.size, 0, none⟩ 1 1 [.int .i64 (k : Int), .int .i64 (t : Int)] rfl rfl (news2 _ _ _ _) (by simp [Value.oneCell']) (by omega) (by have := HLN.out; simp only [maxLen]; omega) (by have := HLN.out; omega) (wr.heap.size + 1) (by simp) ?_; intro ga off2 acp3 w6 hw6 hgr hat)
            have hgr' := (World.grownBy_alloc wr _ _).trans hgr
            have L6 := HL.out.app hw6 hgr' (fun b hb => by
              cases hb
              exact hat.imp id (fun h => by rw [h]; exact Nat.le_add_right _ _))
            have e1 : pcs (L ++ [(k, t)]) = pcs L ++ [.int .i64 (k : Int), .int .i64 (t : Int)] := by rw [pcs_app]; rfl
            have e2 : (L ++ [(k, t)]).length = L.length + 1 := by simp
            rw [← e1, ← e2, ← PT.out] at L6
            have HL6 := Lib.hid L6
            have e3 := Lib.hid (e2.symm.trans (by rw [PT.out]) : L.length + 1 = (prsK r k ++ prow r k (t + 1)).length)
            clear hgr hgr' hat hw6 L6 e1 e2 HL HLN
            go_roundw
            case rel => exact ⟨t + 1, _, _, HT.out, by go_num, by rw [e3.out], HL6.out⟩
            case measure => have := HT.out; simp [intOf]; omega
        · obtain rfl : t = n := by omega
          have l1 : decide (t < t) = false := by simp
          have E := Lib.hid (show prsK r k ++ prow r k t = prsK r (k + 1) by rw [PA.out]; rfl)
          rw [E.out] at HL ⊢
          clear ht htn E HLN
          go_wp2_with fail
          go_roundw
          case rel => exact ⟨k + 1, aa2, acp2, HK.out, by go_num, rfl, HL.out⟩
          case measure => have := HK.out; simp [intOf]; omega
    · obtain rfl : k = n := by omega
      have l1 : decide (k < k) = false := by simp
      rw [PK.out] at HL ⊢
      clear hk hlt
      go_wp2_with fail
      go_ret
      exact ⟨_, _, rfl, HL.out⟩
end Go.Proofs.YtpcpjmbfinpmlaaDoor
