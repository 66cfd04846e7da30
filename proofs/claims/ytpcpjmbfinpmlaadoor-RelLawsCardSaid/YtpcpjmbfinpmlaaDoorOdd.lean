/- Is a list an order? -/
import Derived.Test.YtpcpjmbfinpmlaaDoorLpl
import Derived.Test.YtpcpjmbfinpmlaaDoorOrd
set_option linter.unusedSimpArgs false
set_option linter.unusedVariables false
set_option linter.unusedSectionVars false
namespace Go.Proofs.YtpcpjmbfinpmlaaDoor
open Go.RowKit
set_option maxRecDepth 100000

theorem make29 (n : Nat) (hn : n ≤ 64) (w : World) : (Instr.makeSlice 29 (.int .i64 (n : Int)) (.int .i64 (n : Int))).run Tryd.prog w = .ok (.slice (some ⟨w.heap.size, 0, none⟩) n n) (w.alloc (.cells (iarr n fun _ => 0).toArray 3)) := by
  obtain ⟨i, hi, hz0, hz1, hz2⟩ := info_parts Tryd.info3
  have := run_make (P := Tryd.prog) w 29 3 i _ Tryd.underlying29 hi hz0 .i64 .i64 n n (by omega) (by omega) (by rw [hz2]; omega) (by omega)
  rw [hz1, Int.toNat_natCast, show (Value.int .i64 0).cells = #[.int .i64 0] from rfl] at this
  have e : madeCells #[Value.int .i64 0] (n * 1) = (iarr n fun _ => 0).toArray := by
    apply Array.toList_inj.1
    rw [toList_madeCells_one, Nat.mul_one]
    unfold iarr
    rw [List.map_const']
    simp
  rw [e] at this
  exact this
theorem ordered_no (b n : Nat) (r : Rn) (w : World) (h : RelAt w b n r) (hn : n ≠ 0) : Calls Tryd.prog 26 #[.pointer (some ⟨b, 0, none⟩), .slice none 0 0] w fun e w' => e = .returned (.bool false) ∧ w = w' := by
  have SZ := Lib.hid (size_ok b n r w h)
  have ne : ((0 : Int) != (n : Int)) = true := by simp; omega
  clear h hn
  go_enter Tryd.func26, Tryd.ntmps26
  go_wp2_with (go_at_call 45; refine SZ.out.mono ?_; rintro e w2 ⟨rfl, rfl⟩)
  go_ret
  exact ⟨rfl, rfl⟩
set_option maxHeartbeats 2000000 in
theorem ordered_ok (b n : Nat) (r : Rn) (aa : Option Addr) (cap : Nat) (L : List Nat) (w : World) (h : RelAt w b n r) (hT : Tab w) (hL : Win w 3 1 (.slice aa L.length cap) L.length (idl L)) (ho : Ords r n L) (he : L.length = n) :
    Calls Tryd.prog 26 #[.pointer (some ⟨b, 0, none⟩), .slice aa L.length cap] w fun e w' => e = .returned (.bool true) ∧ Fr Nil w w' := by
  have HB := Lib.hid h
  have HT := Lib.hid hT
  have N64 := Lib.hid h.n64
  have HLW := Lib.hid hL
  have HE := Lib.hid he
  have HO := Lib.hid ho
  have LT := Lib.hid ho.lt
  have SZ := Lib.hid (fun W (hW : Fr Nil w W) => size_ok b n r W (h.fr0 hW))
  have LL := Lib.hid (show (prs r).length ≤ 4096 from prsK_len r 64)
  have PP : Hid (∀ p, p ∈ prs r → ∃ i j : Nat, i < j ∧ j < n ∧ p.1 < n ∧ p.2 < n ∧ posL L n p.1 = (i : Int) ∧ posL L n p.2 = (j : Int)) := Lib.hid fun p hp => by
    obtain ⟨h1, h2, h3⟩ := mem_prs.1 hp
    have hk := h.ok _ _ h3
    obtain ⟨j, hj, e⟩ := List.getElem_of_mem (nodup_all ho.lt.2.1 ho.lt.1 he hk.2)
    obtain ⟨i, hi, h4, h5⟩ := ho.before j hj _ h1 (by rw [e]; exact h3)
    have q1 := posL_at ho.lt.2.1 hi n (by omega)
    have q2 := posL_at ho.lt.2.1 hj n (by omega)
    rw [h5, if_pos (by omega)] at q1
    rw [e, if_pos (by omega)] at q2
    exact ⟨i, j, h4, by omega, hk.1, hk.2, q1, q2⟩
  have ne : ((L.length : Int) != (n : Int)) = false := by simp; omega
  have n64 : (n : Int) ≤ 64 := by have := h.n64; omega
  have L64 : (L.length : Int) ≤ 64 := by have := h.n64; omega
  have MK := fun W => make29 n N64.out W
  clear h hT hL ho he
  go_enter Tryd.func26, Tryd.ntmps26
  go_wp2_with fail
  refine (SZ.out w (Fr.refl _ _)).mono ?_
  rintro e w2 ⟨rfl, rfl⟩
  go_wp2_with fail
  refine (SZ.out _ (Fr.refl _ _)).mono ?_
  rintro e w2 ⟨rfl, rfl⟩
  go_upto_region 4 with fail
  have B0 := Lib.hid (Blk.new w 3 (iarr n fun _ => 0).toArray)
  have F0 := Lib.hid ((Fr.refl Nil w).alloc (.cells (iarr n fun _ => 0).toArray 3))
  generalize (w.alloc (.cells (iarr n fun _ => 0).toArray 3)) = w0 at *
  obtain ⟨g, hg⟩ : ∃ g, g = w.heap.size := ⟨_, rfl⟩
  rw [← hg] at B0 ⊢
  have HG := Lib.hid (Nat.le_of_eq hg.symm)
  clear hg MK
  go_wp2_with fail
  go_loopw [6] (fun i wr => ∃ k : Nat, k ≤ n ∧ i = .int .i64 (k : Int) ∧ Blk wr g 3 (iarr n fun x => if x < k then -1 else 0).toArray ∧ Fr Nil w wr) (fun i _ => n - (intOf i).toNat)
  case atStart => exact ⟨0, Nat.zero_le _, rfl, by rw [iarr_congr (g := fun _ => 0) fun x hx => by simp]; exact B0.out, F0.out⟩
  case round =>
    obtain ⟨k, hk, rfl, hq, hf⟩ := hrel
    clear B0 F0
    have HQ := Lib.hid hq
    have HF := Lib.hid hf
    clear hq hf
    by_cases hlt : k < n
    · have HK := Lib.hid hlt
      have kn : (k : Int) < (n : Int) := by omega
      have c1 := HQ.out.iget hlt
      have z1 := HQ.out.frozen k
      have B1 := Lib.hid (HQ.out.iset hlt (-1))
      have F1 := Lib.hid (HF.out.setNew (g := g) (i := k) HG.out (.int .i64 (-1)))
      have EQ : Hid (iarr n (upd (fun x => if x < k then -1 else 0) k (-1)) = iarr n fun x => if x < k + 1 then (-1 : Int) else 0) := Lib.hid (iarr_congr fun x hx => by
        by_cases e : x = k
        · subst e; rw [upd_same, if_pos (by omega)]
        · rw [upd_other _ _ e]
          have : (x < k + 1) = (x < k) := by apply propext; omega
          simp only [this])
      clear hk hlt HQ HF
      go_wp2_with fail
      go_roundw
      case rel => exact ⟨k + 1, HK.out, by go_num, by rw [← EQ.out]; exact B1.out, F1.out⟩
      case measure => have := HK.out; simp [intOf]; omega
    · obtain rfl : k = n := by omega
      have l1 : decide (k < k) = false := by simp
      have B1 := Lib.hid (show Blk wr g 3 (iarr k (posL L 0)).toArray by
        have := HQ.out
        rw [iarr_congr (g := posL L 0) fun x hx => by rw [if_pos hx]; rfl] at this
        exact this)
      have F1 := HF
      clear hk hlt HQ HF
      go_upto_region 8 with fail
      go_wp2_with fail
      go_loopw [7] (fun i wr => ∃ t : Nat, t ≤ L.length ∧ i = .int .i64 (t : Int) ∧ Blk wr g 3 (iarr k (posL L t)).toArray ∧ Fr Nil w wr) (fun i _ => L.length - (intOf i).toNat)
      case atStart => exact ⟨0, Nat.zero_le _, rfl, B1.out, F1.out⟩
      case round =>
        obtain ⟨t, ht, rfl, hq, hf⟩ := hrel
        clear B1 F1
        have HQ := Lib.hid hq
        have HF := Lib.hid hf
        clear hq hf
        by_cases hlt : t < L.length
        · have HTT := Lib.hid hlt
          have tn : (t : Int) < (L.length : Int) := by omega
          have LW := HLW.out.fr HF.out fun _ _ => id
          obtain ⟨lg, lo, lc, ev, -, -, -, -, -⟩ := LW.form (by omega)
          cases ev
          obtain ⟨x, hx0⟩ : ∃ x, x = L[t] := ⟨_, rfl⟩
          have d0 := LW.cellAt (j := t) (u := .int .i64 (x : Int)) (by unfold idl; rw [List.getElem?_map, List.getElem?_eq_getElem hlt, hx0]; rfl)
          have hx : x < k := LT.out.1 x (by rw [hx0]; exact List.getElem_mem hlt)
          have xn : (x : Int) < (k : Int) := by omega
          have x0 : decide ((x : Int) < 0) = false := by simp
          have e3 : posL L t x = -1 := by rw [hx0]; exact (posL_at LT.out.2.1 hlt t ht).trans (if_neg (by omega))
          have c1 := HQ.out.iget hx
          rw [e3] at c1
          have z1 := HQ.out.frozen x
          have B1 := Lib.hid (HQ.out.iset hx (t : Int))
          have F1 := Lib.hid (HF.out.setNew (g := g) (i := x) HG.out (.int .i64 (t : Int)))
          have EQ : Hid (upd (posL L t) x (t : Int) = posL L (t + 1)) := Lib.hid (by
            have e1 : L.getD t 0 = x := by rw [List.getD_eq_getElem?_getD, List.getElem?_eq_getElem hlt, hx0]; rfl
            conv => rhs; unfold posL
            rw [e1])
          clear ht hlt HQ HF LW e3 hx0
          have xk : decide (k ≤ x) = false := by simp; omega
          clear hx
          go_wp2_with fail
          go_roundw
          case rel => exact ⟨t + 1, HTT.out, by go_num, by rw [← EQ.out]; exact B1.out, F1.out⟩
          case measure => have := HTT.out; simp [intOf]; omega
        · obtain rfl : t = L.length := by omega
          have l2 : decide (L.length < L.length) = false := by simp
          have B1 := Lib.hid (show Blk wr g 3 (iarr k (posL L k)).toArray by have := HQ.out; rw [HE.out] at this; exact this)
          have F1 := HF
          clear ht hlt HQ HF
          go_upto_region 14 with fail
          go_wp2_with fail
          refine (pairs_ok b k r _ (HB.out.fr0 F1.out) (HT.out.fr0 F1.out)).mono ?_
          rintro e w4 ⟨pa, pc, rfl, hl⟩
          have PW := Lib.hid hl.win
          have F2 := Lib.hid (F1.out.trans hl.fr)
          have B2 := Lib.hid (B1.out.fr0 hl.fr)
          clear hl B1 F1
          generalize hl : prs r = l at *
          clear hl
          have ll : (l.length : Int) ≤ 4096 := by have := LL.out; omega
          go_wp2_with fail
          go_loopw [9] (fun i wr => ∃ t : Nat, t ≤ l.length ∧ i = .int .i64 (t : Int) ∧ Blk wr g 3 (iarr k (posL L k)).toArray ∧ Win wr 60 2 (.slice pa l.length pc) l.length (pcs l) ∧ Fr Nil w wr) (fun i _ => l.length - (intOf i).toNat)
          case atStart => exact ⟨0, Nat.zero_le _, rfl, B2.out, PW.out, F2.out⟩
          case round =>
            obtain ⟨t, ht, rfl, hq, hp, hf⟩ := hrel
            clear B2 PW F2
            have HQ := Lib.hid hq
            have HP := Lib.hid hp
            have HF := Lib.hid hf
            clear hq hp hf
            by_cases hlt : t < l.length
            · have HTT := Lib.hid hlt
              have tn : (t : Int) < (l.length : Int) := by omega
              obtain ⟨pg, off, cap2, ev, -, -, -, -, -⟩ := HP.out.form (by omega)
              cases ev
              have pgk := pcs_get l t hlt
              have d0 := HP.out.cellAt pgk.1
              have d1 := HP.out.cellAt pgk.2
              rw [← Nat.add_assoc] at d1
              obtain ⟨i, j, hij, hj, hp1, hp2, e1, e2⟩ := PP.out l[t] (List.getElem_mem hlt)
              have c1 := HQ.out.iget hp1
              have c2 := HQ.out.iget hp2
              rw [e1] at c1
              rw [e2] at c2
              have ij : (i : Int) < (j : Int) := by omega
              have pk1 : ((l[t].1 : Nat) : Int) < (k : Int) := by omega
              have pk2 : ((l[t].2 : Nat) : Int) < (k : Int) := by omega
              have ge : decide (j ≤ i) = false := by simp; omega
              clear pgk hij hj hp1 hp2 e1 e2
              generalize l[t] = pp at *
              clear ht hlt
              generalize pp.1 = px at *
              generalize pp.2 = py at *
              go_upto_region 18 with fail
              go_quiet (fail)
              go_wp2_with fail
              go_roundw
              case rel => exact ⟨t + 1, HTT.out, by go_num, HQ.out.fr0 (Fr.drewN (Fr.refl Nil _) _), HP.out.fr (Fr.drewN (Fr.refl Nil _) _) (fun _ _ => id), HF.out.drewN _⟩
              case measure => have := HTT.out; simp [intOf]; omega
            · obtain rfl : t = l.length := by omega
              have l3 : decide (l.length < l.length) = false := by simp
              clear ht hlt
              go_wp2_with fail
              go_ret
              exact ⟨rfl, HF.out⟩
end Go.Proofs.YtpcpjmbfinpmlaaDoor
