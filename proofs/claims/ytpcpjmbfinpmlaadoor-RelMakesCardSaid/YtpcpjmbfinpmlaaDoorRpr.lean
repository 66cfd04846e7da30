/- The pairs of a relation: the walk. -/
import Derived.Test.YtpcpjmbfinpmlaaDoorRpl
import Derived.Test.YtpcpjmbfinpmlaaDoorWin
set_option linter.unusedSimpArgs false
set_option linter.unusedVariables false
set_option linter.unusedSectionVars false
namespace Go.Proofs.YtpcpjmbfinpmlaaDoor
open Go.RowKit
set_option maxRecDepth 100000

theorem Tryd.info60 : (Tryd.prog.info? 60).map (fun i => (i.zero, i.size, i.bytes)) = some (some (.agg #[.int .i64 0, .int .i64 0]), 2, 16) := by kernel_rfl
theorem Tryd.info66 : (Tryd.prog.info? 66).map (·.size) = some 64 := by kernel_rfl
theorem run_index_row {P : Program} {t e : TypeId} {n : Nat} {kd : IntKind} {cs : Array Value} {k : Nat} {v : Value} (w : World) (h : P.underlying t = some (.array n e)) (he : P.underlying e = some (.int kd)) (hs : (P.info? e).map (·.size) = some 1) (hk : k < n) (hv : cs[k]? = some v) :
    (Instr.index t (.agg cs) (.int .i64 (k : Int))).run P w = .ok v w := by
  obtain ⟨i, hi, h1⟩ := Option.map_eq_some_iff.1 hs
  have h0 : ¬ n ≤ k := by omega
  simp [Instr.index, asIntOf, run_underlying h, sizeOf, typeInfo, hi, h1, h0, part, isAgg, run_underlying he, hv]
theorem Tryd.info65 : (Tryd.prog.info? 65).map (·.size) = some 1 := by kernel_rfl
/-- A new list. -/
structure Lst (w wr : World) (e size : Nat) (v : Value) (n : Nat) (xs : List Value) : Prop where
  win : Win wr e size v n xs
  own : ∀ b, v.ownBlock = some b → w.heap.size ≤ b
  fr : Fr Nil w wr
theorem Lst.first (w : World) (e size : Nat) : Lst w w e size (.slice none 0 0) 0 [] := ⟨Win.nil _ _ _, fun b hb => (by cases hb), Fr.refl _ _⟩
theorem Lst.app {w wr w2 : World} {e size m : Nat} {v v2 : Value} {n : Nat} {xs ys : List Value} (h : Lst w wr e size v n xs) (hw : Win w2 e size v2 m ys) (hg : wr.grownBy w2 v.ownBlock) (ho : ∀ k, v2.ownBlock = some k → v.ownBlock = some k ∨ wr.heap.size ≤ k) : Lst w w2 e size v2 m ys :=
  ⟨hw, fun b hb => by
    rcases ho b hb with h1 | h1
    · exact h.own b h1
    · exact Nat.le_trans h.fr.size h1, h.fr.grown hg fun k hk => .inr (h.own k hk)⟩
theorem Lst.still {w wr w2 : World} {e size n : Nat} {v : Value} {xs : List Value} (h : Lst w wr e size v n xs) (f : Fr Nil wr w2) : Lst w w2 e size v n xs :=
  ⟨h.win.fr f fun _ _ => id, h.own, h.fr.trans f⟩
theorem news2 (w : World) (x y : Value) (t : TypeId) : ∀ j u, [x, y][j]? = some u → (w.alloc (.cells #[x, y] t)).cell? ((⟨w.heap.size, 0, none⟩ : Addr).add j) = some u := fun j u hj => by
  rw [Addr.add_lit, Nat.zero_add, (Blk.new w t #[x, y]).cell]
  match j, hj with
  | 0, hj => exact hj
  | 1, hj => exact hj
  | j + 2, hj => simp at hj
def PairsTo (w : World) (l : List (Nat × Nat)) (e : Ending) (w' : World) : Prop := ∃ aa cap, e = .returned (.slice aa l.length cap) ∧ Lst w w' 60 2 (.slice aa l.length cap) l.length (pcs l)
theorem rcs_rows (n : Nat) (r : Rn) : (rcs n r).toArray.extract 1 (1 + 64) = (rws r).toArray := by
  simp only [List.extract_toArray]
  congr 1
theorem rws_get (r : Rn) {a : Nat} (h : a < 64) : (rws r)[a]? = some (.int .u64 (bw (r a) : Int)) := by simp [rws, h]
set_option maxHeartbeats 1000000 in
theorem pairs_ok (b n : Nat) (r : Rn) (w : World) (h : RelAt w b n r) (hT : Tab w) : Calls Tryd.prog 25 #[.pointer (some ⟨b, 0, none⟩)] w (PairsTo w (prs r)) := by
  have HB := Lib.hid h.blk
  have HT := Lib.hid hT
  have HR : Hid (∀ a, a < 64 → (rws r)[a]? = some (.int .u64 (bw (r a) : Int))) := Lib.hid fun a ha => rws_get r ha
  have HX := Lib.hid (rcs_rows n r)
  obtain ⟨i60, hi60, hz0, hz1, hz2⟩ := info_parts Tryd.info60
  clear h hT
  go_enter Tryd.func25, Tryd.ntmps25
  go_wp2_with (refine wpList_load_part rfl 66 (.tmp 8) rfl b 1 rfl 64 _ HB.out Tryd.underlying66 rfl Tryd.info66 (by simp [rcs_length]) ?_; rw [HX.out])
  have hR2 : ∀ a, a < 64 → (rws r).toArray[a]? = some (.int .u64 (bw (r a) : Int)) := fun a ha => by rw [List.getElem?_toArray]; exact HR.out a ha
  have HRA := Lib.hid hR2
  clear HR HX HB hR2
  generalize (rws r).toArray = RW at *
  go_loopw [3, 10] (fun lv i wr => ∃ (k : Nat) (aa : Option Addr) (acp : Nat), k ≤ 64 ∧ i = .int .i64 (k : Int) ∧ lv = .slice aa (prsK r k).length acp ∧ Lst w wr 60 2 (.slice aa (prsK r k).length acp) (prsK r k).length (pcs (prsK r k))) (fun _ i _ => 64 - (intOf i).toNat)
  case atStart => exact ⟨0, none, 0, by omega, rfl, rfl, Lst.first w 60 2⟩
  case round =>
    obtain ⟨k, aa, acp, hk, rfl, rfl, hL⟩ := hrel
    have HL := Lib.hid hL
    clear hL
    by_cases hlt : k < 64
    · have HK := Lib.hid hlt
      have k64 : (k : Int) < 64 := by omega
      have c1 := HRA.out k hlt
      have RX : Hid (∀ i, rest (r k) 0 i = r k i) := Lib.hid fun i => by rw [rest_zero]
      have e0 : bw (r k) = bw (rest (r k) 0) := by rw [rest_zero]
      rw [e0] at c1
      have ix := run_index_row wr Tryd.underlying66 Tryd.underlying65 Tryd.info65 hlt c1
      have LL0 : Hid (prsK r k ++ prow r k 0 = prsK r k) := Lib.hid (by simp [prow, some_])
      clear hk hlt e0
      go_upto_region 5 with fail
      go_loopw [3, 5] (fun lv x wr2 => ∃ (t : Nat) (aa : Option Addr) (acp : Nat), t ≤ 64 ∧ x = .int .u64 (bw (rest (r k) t) : Int) ∧ lv = .slice aa (prsK r k ++ prow r k t).length acp ∧ Lst w wr2 60 2 (.slice aa (prsK r k ++ prow r k t).length acp) (prsK r k ++ prow r k t).length (pcs (prsK r k ++ prow r k t))) (fun _ x _ => (intOf x).toNat)
      case atStart => exact ⟨0, aa, acp, by omega, rfl, by rw [LL0.out], by rw [LL0.out]; exact HL.out⟩
      case round =>
        clear HL RX LL0 c1 ix
        obtain ⟨t, aa2, acp2, ht, rfl, rfl, hL⟩ := hrel
        have HL := Lib.hid hL
        have HLN := Lib.hid (show (prsK r k ++ prow r k t).length ≤ 4096 by
          have := prsK_len r k
          have := prow_len r k t
          have := HK.out
          rw [List.length_append]
          omega)
        clear hL
        by_cases hz : bw (rest (r k) t) = 0
        · have E := Lib.hid (show prsK r k ++ prow r k t = prsK r (k + 1) by
            rw [show prsK r (k + 1) = prsK r k ++ prow r k 64 from rfl, prow_skip (r := r) (a := k) ht (fun i hi h64 => by
              have := bw_eq0 hz h64
              simpa [rest, hi] using this)])
          rw [hz]
          rw [E.out] at HL ⊢
          clear hz ht E HLN
          go_wp2_with fail
          go_roundw
          case rel => exact ⟨k + 1, aa2, acp2, HK.out, by go_num, rfl, HL.out⟩
          case measure => have := HK.out; simp [intOf]; omega
        · obtain ⟨u, hu, hu1, hu2⟩ := bw_ne hz
          have htu : t ≤ u := by
            simp only [rest, Bool.and_eq_true, decide_eq_true_eq] at hu1
            exact hu1.2
          have hru : r k u = true := by
            simp only [rest, Bool.and_eq_true, decide_eq_true_eq] at hu1
            exact hu1.1
          have TZ := Lib.hid (fun W (hW : Tab W) => tz_ok (rest (r k) t) u W hW hu hu1 hu2)
          have DR := low_drop hu hu1 hu2
          rw [rest_next htu hu2] at DR
          have hsub : IntKind.u64.wrap ((bw (rest (r k) t) : Int) - 1) = ((bw (rest (r k) t) - 1 : Nat) : Int) := by
            have := bw_lt (rest (r k) t)
            rw [IntKind.wrap_u64]
            omega
          have hand : bits .and .u64 (bw (rest (r k) t) : Int) ((bw (rest (r k) t) - 1 : Nat) : Int) = (bw (rest (r k) (u + 1)) : Int) := by
            have := bw_lt (rest (r k) t)
            rw [bitsN _ _ (bw_lt _) (by omega), DR]
          have MS := Lib.hid (show bw (rest (r k) (u + 1)) < bw (rest (r k) t) by
            rw [← DR]
            have : bw (rest (r k) t) &&& (bw (rest (r k) t) - 1) ≤ bw (rest (r k) t) - 1 := Nat.and_le_right
            omega)
          have PT := Lib.hid (show prsK r k ++ prow r k (u + 1) = (prsK r k ++ prow r k t) ++ [(k, u)] by
            rw [prow_take hru, prow_skip (r := r) (a := k) htu (fun i hi hiu => by
              have := hu2 i hiu
              simpa [rest, hi] using this), List.append_assoc])
          have x0 : ((bw (rest (r k) t) : Int) == 0) = false := by simp; omega
          have U64 := Lib.hid hu
          clear hz hu hu1 hu2 htu hru DR ht
          generalize hx : bw (rest (r k) t) = x at *
          generalize hxd : x - 1 = x1 at *
          have HX1 := Lib.hid hx
          clear hx hxd
          generalize prsK r k ++ prow r k t = L at *
          go_wp2_with (first | (go_at_call 49; refine (TZ.out _ (HT.out.fr0 HL.out.fr)).mono ?_; rintro e w9 ⟨rfl, rfl⟩) | (at_builtin; refine wpList_append_win _ rfl (.tmp 20) (.tmp 25) 22 rfl 60 i60 _ 2 16 Tryd.underlying22 hi60 hz0 hz1 hz2 rfl (by decide) _ _ _ rfl (HL.out.win.alloc _) ⟨wr.heap.size, 0, none⟩ 1 1 [.int .i64 (k : Int), .int .i64 (u : Int)] rfl rfl (news2 _ _ _ _) (by simp [Value.oneCell']) (by omega) (by have := HLN.out; simp only [maxLen]; omega) (by have := HLN.out; omega) (wr.heap.size + 1) (by simp) ?_; intro ga off2 acp3 w6 hw6 hgr hat))
          have hgr' := (World.grownBy_alloc wr _ _).trans hgr
          have L6 := HL.out.app hw6 hgr' (fun b hb => by
            cases hb
            exact hat.imp id (fun h => by rw [h]; exact Nat.le_add_right _ _))
          have e1 : pcs (L ++ [(k, u)]) = pcs L ++ [.int .i64 (k : Int), .int .i64 (u : Int)] := by rw [pcs_app]; rfl
          have e2 : (L ++ [(k, u)]).length = L.length + 1 := by simp
          rw [← e1, ← e2, ← PT.out] at L6
          have HL6 := Lib.hid L6
          have e3 := Lib.hid (e2.symm.trans (by rw [PT.out]) : L.length + 1 = (prsK r k ++ prow r k (u + 1)).length)
          clear hgr hgr' hat hw6 L6 e1 e2 HL HLN
          go_roundw
          case rel => exact ⟨u + 1, _, _, by have := U64.out; omega, rfl, by rw [e3.out], HL6.out⟩
          case measure => have := MS.out; simp [intOf]; omega
    · obtain rfl : k = 64 := by omega
      have l64 : decide (64 ≤ 64) = true := by decide
      clear hk hlt
      go_wp2_with fail
      go_ret
      exact ⟨aa, acp, rfl, HL.out⟩
end Go.Proofs.YtpcpjmbfinpmlaaDoor
