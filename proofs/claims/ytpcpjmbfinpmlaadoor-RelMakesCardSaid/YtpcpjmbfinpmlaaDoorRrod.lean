/- The document's Order. -/
import Derived.Test.YtpcpjmbfinpmlaaDoorSgl
import Derived.Test.YtpcpjmbfinpmlaaDoorOrd
import Derived.Test.YtpcpjmbfinpmlaaDoorLpl
import Derived.Test.YtpcpjmbfinpmlaaDoorLWays
set_option linter.unusedSimpArgs false
set_option linter.unusedVariables false
set_option linter.unusedSectionVars false
namespace Go.Proofs.YtpcpjmbfinpmlaaDoor
open Go.RowKit
set_option maxRecDepth 100000

theorem free_iff {r : Rn} {n : Nat} {L : List Nat} (hok : ∀ a c, r a c = true → a < n ∧ c < n) (h64 : n ≤ 64) {t : Nat} (ht : t < n) : Free r n L t ↔ t ∉ L ∧ ∀ i, i < n → r i t = true → i ∈ L := by
  unfold Free
  rw [wts_zero]
  constructor
  · rintro ⟨_, h2, h3⟩
    exact ⟨h2, fun i hi hr => h3 i (by omega) hr⟩
  · rintro ⟨h2, h3⟩
    exact ⟨ht, h2, fun a _ hr => h3 a (hok a t hr).1 hr⟩
theorem full_none {r : Rn} {n : Nat} {L : List Nat} (h : Ords r n L) (he : L.length = n) (b : Nat) : ¬ Free r n L b := fun hf => hf.2.1 (nodup_all h.lt.2.1 h.lt.1 he hf.1)
theorem inL_next {L : List Nat} {c : Nat} : upd (fun x => L.contains x) c true = fun x => (L ++ [c]).contains x := by
  funext x
  unfold upd
  by_cases e : x = c
  · subst e; simp
  · rw [if_neg e]; simp [e]
set_option maxHeartbeats 2000000 in
theorem rorder_ok (b n : Nat) (r : Rn) (w : World) (h : RefAt w b n r) (hr : ∀ a c, r a c = true → a < n ∧ c < n) : Calls Tryd.prog 21 #[.pointer (some ⟨b, 0, none⟩)] w (OrderTo w r n) := by
  have HB := Lib.hid h
  have N64 := Lib.hid h.n64
  have OK0 := Lib.hid hr
  have n64 : (n : Int) ≤ 64 := by have := h.n64; omega
  obtain ⟨i3, hi3, hz0, hz1, hz2⟩ := info_parts Tryd.info3
  clear h hr
  go_enter Tryd.func21, Tryd.ntmps21
  go_upto_region 3 with fail
  have Q1 := Lib.hid (Blk.cast (cs' := (barr 64 fun x => ([] : List Nat).contains x).toArray) (Blk.new w 40 #[.bool false, .bool false, .bool false, .bool false, .bool false, .bool false, .bool false, .bool false, .bool false, .bool false, .bool false, .bool false, .bool false, .bool false, .bool false, .bool false, .bool false, .bool false, .bool false, .bool false, .bool false, .bool false, .bool false, .bool false, .bool false, .bool false, .bool false, .bool false, .bool false, .bool false, .bool false, .bool false, .bool false, .bool false, .bool false, .bool false, .bool false, .bool false, .bool false, .bool false, .bool false, .bool false, .bool false, .bool false, .bool false, .bool false, .bool false, .bool false, .bool false, .bool false, .bool false, .bool false, .bool false, .bool false, .bool false, .bool false, .bool false, .bool false, .bool false, .bool false, .bool false, .bool false, .bool false, .bool false]) (by kernel_rfl))
  have F1 := Lib.hid ((Fr.refl Nil w).alloc (.cells #[.bool false, .bool false, .bool false, .bool false, .bool false, .bool false, .bool false, .bool false, .bool false, .bool false, .bool false, .bool false, .bool false, .bool false, .bool false, .bool false, .bool false, .bool false, .bool false, .bool false, .bool false, .bool false, .bool false, .bool false, .bool false, .bool false, .bool false, .bool false, .bool false, .bool false, .bool false, .bool false, .bool false, .bool false, .bool false, .bool false, .bool false, .bool false, .bool false, .bool false, .bool false, .bool false, .bool false, .bool false, .bool false, .bool false, .bool false, .bool false, .bool false, .bool false, .bool false, .bool false, .bool false, .bool false, .bool false, .bool false, .bool false, .bool false, .bool false, .bool false, .bool false, .bool false, .bool false, .bool false] 40))
  generalize (w.alloc (.cells #[.bool false, .bool false, .bool false, .bool false, .bool false, .bool false, .bool false, .bool false, .bool false, .bool false, .bool false, .bool false, .bool false, .bool false, .bool false, .bool false, .bool false, .bool false, .bool false, .bool false, .bool false, .bool false, .bool false, .bool false, .bool false, .bool false, .bool false, .bool false, .bool false, .bool false, .bool false, .bool false, .bool false, .bool false, .bool false, .bool false, .bool false, .bool false, .bool false, .bool false, .bool false, .bool false, .bool false, .bool false, .bool false, .bool false, .bool false, .bool false, .bool false, .bool false, .bool false, .bool false, .bool false, .bool false, .bool false, .bool false, .bool false, .bool false, .bool false, .bool false, .bool false, .bool false, .bool false, .bool false] 40)) = w1 at *
  obtain ⟨q, hq⟩ : ∃ q, q = w.heap.size := ⟨_, rfl⟩
  rw [← hq] at Q1 ⊢
  have HQ := Lib.hid (Nat.le_of_eq hq.symm)
  clear hq
  have L1 := Lib.hid (show Lst w w1 3 1 (.slice none 0 0) 0 (idl []) from ⟨Win.nil _ _ _, fun b hb => (by cases hb), F1.out⟩)
  go_loopw [4] (fun lv wr => ∃ (L : List Nat) (aa : Option Addr) (acp : Nat), lv = .slice aa L.length acp ∧ Lst w wr 3 1 (.slice aa L.length acp) L.length (idl L) ∧ Blk wr q 40 (barr 64 fun x => L.contains x).toArray ∧ Ords r n L) (fun lv _ => 64 - sln lv)
  case atStart => exact ⟨[], none, 0, rfl, L1.out, Q1.out, Ords.nil⟩
  case round =>
    clear L1 Q1 F1
    obtain ⟨L, aa, acp, rfl, hL, hq, hO⟩ := hrel
    have HL := Lib.hid hL
    have HA := Lib.hid hq
    have HO := Lib.hid hO
    have HLN := Lib.hid (show L.length ≤ 64 by have := hO.len; have := N64.out; omega)
    clear hL hq hO
    have n0 := (HB.out.fr0 HL.out.fr).n_c
    have l64 : (L.length : Int) ≤ 64 := by have := HLN.out; omega
    by_cases hln : L.length < n
    · have LN := Lib.hid hln
      have ln : (L.length : Int) < (n : Int) := by omega
      clear hln
      go_wp2_with fail
      go_loop [6, 7] (fun l bb => ∃ t : Nat, t ≤ n ∧ bb = .int .i64 (t : Int) ∧ ((l = .int .i64 (-1) ∧ ∀ c, c < t → ¬ Free r n L c) ∨ ∃ m : Nat, l = .int .i64 (m : Int) ∧ Least r n L m)) (fun _ bb => n - (intOf bb).toNat)
      case atStart => exact ⟨0, Nat.zero_le _, rfl, .inl ⟨rfl, fun c hc => absurd hc (by omega)⟩⟩
      case round =>
        obtain ⟨t, ht, rfl, ⟨rfl, hfr⟩ | ⟨m, rfl, hm⟩⟩ := hrel
        · have HFR := Lib.hid hfr
          clear hfr
          by_cases htn : t < n
          · have HT := Lib.hid htn
            have tn : (t : Int) < (n : Int) := by omega
            have t64 : (t : Int) < 64 := by omega
            have T64 := Lib.hid (show t < 64 by omega)
            have c1 := HA.out.bget (k := t) T64.out
            have FI := Lib.hid (free_iff OK0.out N64.out (L := L) htn)
            clear ht htn
            go_upto_region 9 with fail
            clear c1
            go_wp2_with fail
            go_loop [8, 9] (fun fv av => ∃ (s : Nat) (f : Bool), s ≤ n ∧ av = .int .i64 (s : Int) ∧ fv = .bool f ∧ (f = true ↔ t ∉ L ∧ ∀ i, i < s → r i t = true → i ∈ L)) (fun _ av => n - (intOf av).toNat)
            case atStart => exact ⟨0, _, Nat.zero_le _, rfl, rfl, by simp⟩
            case round =>
              obtain ⟨s, f, hs, rfl, rfl, hf⟩ := hrel
              have HF := Lib.hid hf
              clear hf
              by_cases hsn : s < n
              · have HS := Lib.hid hsn
                have sn : (s : Int) < (n : Int) := by omega
                have s64 : (s : Int) < 64 := by omega
                have S64 := Lib.hid (show s < 64 by omega)
                clear hs hsn
                cases f
                · have NF := Lib.hid (show ¬ Free r n L t by
                    rw [FI.out]
                    rintro ⟨h1, h2⟩
                    have := HF.out.2 ⟨h1, fun i hi => h2 i (by have := HS.out; omega)⟩
                    cases this)
                  go_wp2_with fail
                  go_round
                  case rel => exact ⟨t + 1, HT.out, by go_num, .inl ⟨rfl, fun c hc => by
                    by_cases e : c = t
                    · subst e; exact NF.out
                    · exact HFR.out c (by omega)⟩⟩
                  case measure => have := HT.out; simp [intOf]; omega
                · have c2 := HA.out.bget (k := s) S64.out
                  have c3 := (HB.out.fr0 HL.out.fr).c_c (a := s) (c := t) S64.out T64.out
                  cases hcs : L.contains s
                  · cases hrs : r s t
                    all_goals
                      have HCS := Lib.hid hcs
                      have HRS := Lib.hid hrs
                      rw [hcs] at c2
                      rw [hrs] at c3
                      clear hcs hrs
                      go_wp2_with fail
                      go_round
                      case rel => exact ⟨s + 1, _, HS.out, by go_num, rfl, by
                        have h0 := HF.out
                        have h1 := HCS.out
                        have h2 := HRS.out
                        have h3 : s ∉ L := by simpa using h1
                        constructor
                        · intro hx
                          first
                          | (cases hx; done)
                          | (refine ⟨(h0.1 rfl).1, fun i hi hri => ?_⟩
                             by_cases e : i = s
                             · subst e; rw [h2] at hri; cases hri
                             · exact (h0.1 rfl).2 i (by omega) hri)
                        · rintro ⟨h4, h5⟩
                          first
                          | rfl
                          | exact absurd (h5 s (by omega) h2) h3⟩
                      case measure => have := HS.out; simp [intOf]; omega
                  · have HCS := Lib.hid hcs
                    rw [hcs] at c2
                    clear hcs
                    go_wp2_with fail
                    go_round
                    case rel => exact ⟨s + 1, _, HS.out, by go_num, rfl, by
                      have h0 := HF.out
                      have h3 : s ∈ L := by simpa using HCS.out
                      refine ⟨fun _ => ⟨(h0.1 rfl).1, fun i hi hri => ?_⟩, fun _ => rfl⟩
                      by_cases e : i = s
                      · subst e; exact h3
                      · exact (h0.1 rfl).2 i (by omega) hri⟩
                    case measure => have := HS.out; simp [intOf]; omega
              · obtain rfl : s = n := by omega
                have l1 : decide (s < s) = false := by simp
                have FT := Lib.hid (show f = true ↔ Free r s L t by rw [FI.out]; exact HF.out)
                clear hs hsn HF
                cases f
                · go_wp2_with fail
                  go_round
                  case rel => exact ⟨t + 1, HT.out, by go_num, .inl ⟨rfl, fun c hc => by
                    by_cases e : c = t
                    · subst e; intro h; have := FT.out.2 h; cases this
                    · exact HFR.out c (by omega)⟩⟩
                  case measure => have := HT.out; simp [intOf]; omega
                · go_wp2_with fail
                  go_round
                  case rel => exact ⟨t + 1, HT.out, by go_num, .inr ⟨t, rfl, FT.out.1 rfl, fun c hc => by
                    rcases Nat.lt_or_ge c t with h | h
                    · exact absurd hc (HFR.out c h)
                    · exact h⟩⟩
                  case measure => have := HT.out; simp [intOf]; omega
          · obtain rfl : t = n := by omega
            have l1 : decide (t < t) = false := by simp
            have EN := Lib.hid (show OrdF r t L from ⟨HO.out, fun b hb => HFR.out b hb.1 hb⟩)
            clear ht htn
            go_wp2_with fail
            go_ret2
            exact ⟨L, EN.out, HL.out.fr, .inl ⟨LN.out, rfl⟩⟩
        · have LST := Lib.hid hm
          have mn : (m : Int) < (n : Int) := by have := hm.1.1; omega
          have m64 : (m : Int) < 64 := by omega
          have M64 := Lib.hid (show m < 64 by omega)
          have m0 : ¬ ((m : Int) < 0) := by omega
          have c4 := HA.out.bget (k := m) M64.out
          have z4 := HA.out.frozen m
          have A8 := Lib.hid (show Blk (wr.setCell ⟨q, m, none⟩ (.bool true)) q 40 (barr 64 fun x => (L ++ [m]).contains x).toArray by
            have := HA.out.bset (k := m) M64.out true
            rw [inL_next] at this
            exact this)
          have L8 := Lib.hid (show Lst w (wr.setCell ⟨q, m, none⟩ (.bool true)) 3 1 (.slice aa L.length acp) L.length (idl L) from ⟨HL.out.win.far (HL.out.win.ne HA.out (by decide)) _, HL.out.own, HL.out.fr.setNew (g := q) (i := m) HQ.out _⟩)
          clear hm
          have l0 : decide ((m : Int) < 0) = false := by simp
          rcases Nat.lt_or_ge t n with htn | htn
          · have tn : (t : Int) < (n : Int) := by omega
            clear ht htn
            go_upto_region 18 with fail
            generalize (wr.setCell ⟨q, m, none⟩ (.bool true)) = w8 at *
            clear c4 z4
            go_wp2_with (at_builtin; refine wpList_append_win _ rfl (.tmp 64) (.tmp 66) 29 rfl 3 i3 _ 1 8 Tryd.underlying29 hi3 hz0 hz1 hz2 rfl (by decide) _ _ _ rfl (L8.out.win.alloc _) ⟨w8.heap.size, 0, none⟩ 1 1 [.int .i64 (m : Int)] rfl rfl (cell_one_new _ _ _) (by simp [Value.oneCell']) (by omega) (by have := HLN.out; simp only [maxLen]; omega) (by have := HLN.out; omega) (w8.heap.size + 1) (by simp) ?_; intro ga off2 acp3 w9 hw9 hgr hat)
            have hgr' := (World.grownBy_alloc w8 _ _).trans hgr
            have el : (L ++ [m]).length = L.length + 1 := by simp
            have ei : idl (L ++ [m]) = idl L ++ [.int .i64 (m : Int)] := by simp [idl]
            rw [← el, ← ei] at hw9
            have L9 := Lib.hid (L8.out.app hw9 hgr' (fun k hk => by
              cases hk
              exact hat.imp id (fun h => by rw [h]; exact Nat.le_add_right _ _)))
            have A9 := Lib.hid (A8.out.grown hgr' fun e => L8.out.win.ne A8.out (by decide) e.symm)
            have O9 := Lib.hid (Ords.snoc HO.out LST.out)
            have ML := Lib.hid (show (L ++ [m]).length = L.length + 1 ∧ (L ++ [m]).length ≤ 64 by
              have h1 := O9.out.len
              have h2 := N64.out
              exact ⟨el, by omega⟩)
            rw [← el]
            clear hgr hgr' hat hw9 el ei
            generalize L ++ [m] = L2 at *
            go_roundw
            case rel => exact ⟨L2, _, _, rfl, L9.out, A9.out, O9.out⟩
            case measure => have := ML.out; simp [sln]; omega
          · obtain rfl : t = n := by omega
            have l1 : decide (t < t) = false := by simp
            clear ht htn
            go_upto_region 18 with fail
            generalize (wr.setCell ⟨q, m, none⟩ (.bool true)) = w8 at *
            clear c4 z4
            go_wp2_with (at_builtin; refine wpList_append_win _ rfl (.tmp 64) (.tmp 66) 29 rfl 3 i3 _ 1 8 Tryd.underlying29 hi3 hz0 hz1 hz2 rfl (by decide) _ _ _ rfl (L8.out.win.alloc _) ⟨w8.heap.size, 0, none⟩ 1 1 [.int .i64 (m : Int)] rfl rfl (cell_one_new _ _ _) (by simp [Value.oneCell']) (by omega) (by have := HLN.out; simp only [maxLen]; omega) (by have := HLN.out; omega) (w8.heap.size + 1) (by simp) ?_; intro ga off2 acp3 w9 hw9 hgr hat)
            have hgr' := (World.grownBy_alloc w8 _ _).trans hgr
            have el : (L ++ [m]).length = L.length + 1 := by simp
            have ei : idl (L ++ [m]) = idl L ++ [.int .i64 (m : Int)] := by simp [idl]
            rw [← el, ← ei] at hw9
            have L9 := Lib.hid (L8.out.app hw9 hgr' (fun k hk => by
              cases hk
              exact hat.imp id (fun h => by rw [h]; exact Nat.le_add_right _ _)))
            have A9 := Lib.hid (A8.out.grown hgr' fun e => L8.out.win.ne A8.out (by decide) e.symm)
            have O9 := Lib.hid (Ords.snoc HO.out LST.out)
            have ML := Lib.hid (show (L ++ [m]).length = L.length + 1 ∧ (L ++ [m]).length ≤ 64 by
              have h1 := O9.out.len
              have h2 := N64.out
              exact ⟨el, by omega⟩)
            rw [← el]
            clear hgr hgr' hat hw9 el ei
            generalize L ++ [m] = L2 at *
            go_roundw
            case rel => exact ⟨L2, _, _, rfl, L9.out, A9.out, O9.out⟩
            case measure => have := ML.out; simp [sln]; omega
    · have HLE := Lib.hid (show L.length = n by have := HO.out.len; omega)
      have l1 : decide (L.length < n) = false := by simp; omega
      clear hln
      go_wp2_with fail
      go_ret2
      exact ⟨L, ⟨HO.out, full_none HO.out HLE.out⟩, HL.out.fr, .inr ⟨HLE.out, aa, acp, rfl, HL.out⟩⟩
end Go.Proofs.YtpcpjmbfinpmlaaDoor
