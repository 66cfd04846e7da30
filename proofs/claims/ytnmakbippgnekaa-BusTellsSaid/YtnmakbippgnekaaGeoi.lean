/- Eoi. -/
import Derived.Test.YtnmakbippgnekaaGei
import Derived.StillTailTactics
set_option linter.unusedSimpArgs false
set_option linter.unusedSectionVars false
namespace Go.Proofs.Ytnmakbippgnekaa
open Go.RowKit
set_option linter.unusedVariables false
set_option maxRecDepth 100000

theorem cell_far (w : World) (b i : Nat) (v : Value) {g o : Nat} (h : g ≠ b) : (w.setCell ⟨b, i, none⟩ v).cell? ⟨g, o, none⟩ = w.cell? ⟨g, o, none⟩ :=
  World.cell?_of_block (w := w) (Below.heap_setCell _ _ _ _ h)
theorem cell_fard (w : World) (b i : Nat) (v : Value) {g o : Nat} (h : g ≠ b) : (w.setCell ⟨b, i, none⟩ v).drew.cell? ⟨g, o, none⟩ = w.cell? ⟨g, o, none⟩ := cell_far w b i v h
theorem still_append_zero {P : Program} {w : World} {ops : Array Oper} {o : Oper} {a : Act} {K : Act → Prop} {E : Prop} (hgd : o.guard = none) (s x : Operand) (t : TypeId)
    (ho : o.op = .call { callee := .builtin .append, args := #[s, x], argTypes := #[t, t] }) (e : TypeId) (i : TypeInfo) (ht : P.underlying t = some (.slice e)) (hi : P.info? e = some i)
    (g off n cap : Nat) (hle : n ≤ cap) (hs : a.eval s = .slice (some ⟨g, off, none⟩) n cap) (v : Value) (hx : a.eval x = v) (hv : ∃ ad c, v = .slice ad 0 c)
    (h : K (a.put o.dst (.slice (some ⟨g, off, none⟩) n cap))) : if Region.wanted o (yielded ops a.tmps) = true then o.still P a w K else E := by
  have hw : Region.wanted o (yielded ops a.tmps) = true := by simp [Region.wanted, hgd]
  rw [if_pos hw]
  obtain ⟨ad, c, rfl⟩ := hv
  have hr := run_append_zero (P := P) w t o.type e i ht hi g off n cap hle ad c
  unfold Oper.still execOp
  simp only [ho, resolve, invoke, builtin, Sem.run_bind, Sem.run_pure, Result.andThen_ok, List.map_toArray, List.map_cons, List.map_nil, hs, hx, hr]
  exact ⟨rfl, h⟩
set_option maxHeartbeats 1000000 in
theorem eoi_ok (K : Nat → Prop) (gb : Nat) (s : GS) (c id : Int) (w : World) (h : Gk K w gb s) (n : Nat) (hn : n ≤ 1000) (ha : ∀ i, i < s.c → (s.at_ i).length ≤ n) :
    Calls Try.prog 29 #[.pointer (some ⟨gb, 0, none⟩), .int .i64 c, .int .i64 id] w (Tn K gb w (s.eoi c id) (.tuple #[.bool (s.eoiB c id), .int .i64 (code (okI s c id))])) := by
  obtain ⟨cb, av, hg, hf⟩ := h.mem
  have HK := Lib.hid h
  have HF := Lib.hid hf
  have HG := Lib.hid hg
  cases hk : okI s c id
  · have OF := Lib.hid (of_no gb cb av s c id w hg h.c8 hk)
    have E1 : s.eoi c id = s := by unfold GS.eoi; rw [hk]; rfl
    have E2 : s.eoiB c id = false := by unfold GS.eoiB; rw [hk]; rfl
    rw [E1, E2]
    clear E1 E2 hg hf h ha hk
    go_enter Try.func29, Try.ntmps29
    go_wp2_with (go_at_call 35; refine OF.out.mono ?_; rintro e w2 ⟨rfl, rfl⟩)
    go_ret2
    exact Tn.of HK.out HF.out (Fr.refl Nil w) HG.out (Fr.refl _ w) rfl fun i k hi hk => .inl hk
  · obtain ⟨c, i, rfl, rfl, h1, h2⟩ := okI_nat hk
    have OF := Lib.hid (of_yes gb cb av s c i w hg h.c8 h1 h2)
    have E1 : Hid (s.eoi (c : Int) (i : Int) = s.eoiN c i) := Lib.hid (by unfold GS.eoi; rw [hk, if_pos rfl, Int.toNat_natCast, Int.toNat_natCast])
    have E2 : Hid (s.eoiB (c : Int) (i : Int) = hasI (s.at_ c) (i : Int)) := Lib.hid (by unfold GS.eoiB; rw [hk, Bool.true_and, Int.toNat_natCast])
    have E3 : Hid (s.eoiN c i = if hasI (s.at_ c) (i : Int) = true then { s.put c i { s.get c i with ac := false } with at_ := upd s.at_ c (dropI (s.at_ c) (i : Int)) } else s) := Lib.hid rfl
    have H12 := Lib.hid h1
    have c0 := hg.cores_c
    have c1 := hg.at_c h1
    have hw := hg.ats c h1
    have hle := ha c h1
    generalize s.at_ c = l at *
    have hwr := hw
    rw [wks_rows] at hwr
    obtain ⟨ao, cap, ev, hcap, hmax, -⟩ := hw.shape
    have HAV := Lib.hid ev
    rw [ev] at c1 hw hwr
    have HW := Lib.hid hw
    have HWR := Lib.hid hwr
    have hlen : l.length ≤ 1000 := by omega
    have n1 : (c : Int) < (s.c : Int) := by omega
    have n8 : (s.c : Int) ≤ 8 := by have := h.c8; omega
    obtain ⟨i74, hi, hz0, hz1, hz2⟩ := info_parts Try.info96
    clear hg hf h ha hk h1 h2 hw hwr ev hle hcap hmax
    go_enter Try.func29, Try.ntmps29
    go_wp2_with (go_at_call 35; refine OF.out.mono ?_; rintro e w3 ⟨sb, so, rfl, SP, rfl⟩; have SP' := Lib.hid SP; clear SP)
    go_loopw [28] (fun x wr => ∃ k : Nat, k ≤ l.length ∧ x = .int .i64 (k : Int) ∧ Hid (hasI (l.take k) (i : Int) = false) ∧ Fr Nil w wr) (fun x _ => l.length - (intOf x).toNat)
    case atStart => exact ⟨0, Nat.zero_le _, rfl, Lib.hid rfl, Fr.refl _ _⟩
    case round =>
      obtain ⟨k, hk, rfl, hno, hfr⟩ := hrel
      by_cases hlt : k < l.length
      · have hW := HWR.out.fr hfr fun _ _ x => x
        obtain ⟨g, off, cap', e, -, -, -, -, -⟩ := hW.form (by omega)
        injection e with e1 e2 e3
        subst e1
        obtain ⟨m0, m1⟩ := mo_cells hW hlt
        have FR := Lib.hid hfr
        have KL := Lib.hid hlt
        clear hW e2 e3 hfr
        cases hq : (lfn l k).2 == (i : Int)
        · have HT := Lib.hid (hasI_take hlt hno.out hq)
          go_wp2_with fail
          go_roundw
          case rel => exact ⟨k + 1, KL.out, by go_num, HT, FR.out.alloc _⟩
          case measure => simp [intOf]; omega
        · have HT := Lib.hid (dropI_at hlt hno.out hq)
          go_upto_region 9 with fail
          have HF3 : Fr Nil w (wr.alloc (.cells #[.int .i64 (lfn l k).2, .int .i64 (lfn l k).1] 96)) := FR.out.alloc _
          generalize (wr.alloc (.cells #[.int .i64 (lfn l k).2, .int .i64 (lfn l k).1] 96)) = w3 at *
          have G3 := HG.out.fr HF3 fun _ _ x => x
          have c03 := G3.cores_c
          have c13 := G3.at_c H12.out
          rw [HAV.out] at c13
          have f3 := G3.cores.frozen (c * 194 + 193)
          have o1 := G3.ats_gb H12.out
          have o2 := G3.ats_cb H12.out
          rw [HAV.out] at o1 o2
          have W3 := HW.out.fr HF3 fun _ _ x => x
          have hcap := W3.shape
          have F3 := Lib.hid HF3
          have H3 := Lib.hid G3
          have HO := Lib.hid (And.intro o1 o2)
          have HW3 := Lib.hid W3
          obtain ⟨ao', cap'', e, hcp, hmx, -⟩ := hcap
          injection e with e1 e2 e3
          subst e3
          have k1 : (k : Int) + 1 ≤ (l.length : Int) := by omega
          have kc : (k : Int) + 1 ≤ (cap : Int) := by omega
          have ks : IntKind.i64.wrap ((k : Int) + 1) = (k : Int) + 1 := IntWalk.i64_in _ (by omega)
          have kt : ((k : Int) + 1).toNat = k + 1 := by omega
          have kn0 : k ≤ cap := by omega
          have kn1 : k + 1 ≤ cap := by omega
          have kn2 : k + 1 ≤ l.length := by omega
          have kp : (0 : Int) ≤ (k : Int) + 1 := by omega
          clear e1 e2 G3 W3 o1 o2 HF3 m0 m1 c0 c1 hq
          have HTC : Hid (∀ W, Blk W gb 80 (gcs cb s).toArray → W.cell? ⟨gb, 0, none⟩ = some (.slice (some ⟨cb, 0, none⟩) s.c s.c)) := Lib.hid fun W hW => hW.cellv (by simp [gcs])
          have HCC : Hid (∀ W, Blk W cb 83 (ccs av s).toArray → W.cell? ⟨cb, c * 194 + 193, none⟩ = some (.slice (some ⟨g, off, none⟩) l.length cap)) := Lib.hid fun W hW => by
            rw [← HAV.out]
            exact hW.cellv (by rw [List.getElem?_toArray, ccs_at H12.out])
          have CUT := Lib.hid (HW3.out.cut (m := k) (by omega))
          have KC := Lib.hid kn2
          have WT : Hid (wks (l.take k) = (wks l).take (k * 2)) := Lib.hid (wks_take l k)
          have WD : Hid (wks (l.drop (k + 1)) = (wks l).drop ((k + 1) * 2)) := Lib.hid (wks_drop l (k + 1))
          have HNE := Lib.hid H3.out.ne
          by_cases hla : k + 1 = l.length
          · have HLA := Lib.hid hla
            go_still_tail 16, (by kernel_rfl)
            refine wpStill_step (fun K hK => ?_)
            refine still_append_zero rfl (.tmp 45) (.tmp 49) 81 rfl 96 i74 Try.underlying81 hi g off k k (Nat.le_refl _) rfl _ rfl ⟨_, _, rfl⟩ (hK _ ?_)
            clear hK K
            refine wpStill_step (fun K hK => ?_)
            go_simp
            refine hK _ ?_
            clear hK K
            refine wpStill_step (fun K hK => ?_)
            go_simp
            refine hK _ ?_
            clear hK K
            refine wpStill_nil ?_
            change wpList _ _ _ _ _ w3.drew
            have hdl : dropI l (i : Int) = l.take k := by rw [HT.out.2, HLA.out, List.drop_length, List.append_nil]
            have hll : (l.take k).length = k := by rw [List.length_take]; have := KC.out; omega
            have FG : Fr (fun k => (av c).ownBlock = some k) w3 w3.drew := (Fr.refl _ w3).drew
            have NW : Win w3.drew 96 2 (.slice (some ⟨g, off, none⟩) k k) (dropI l (i : Int)).length (wks (dropI l (i : Int))) := by
              rw [hdl, hll, WT.out]
              exact CUT.out.drew
            have OW : ∀ b, (Value.slice (some ⟨g, off, none⟩) k k).ownBlock = some b → (av c).ownBlock = some b ∨ w3.heap.size ≤ b := fun b hb => .inl (by rw [HAV.out]; exact hb)
            have c13' : w3.drew.cell? ⟨cb, c * 194 + 193, none⟩ = some (.slice (some ⟨g, off, none⟩) l.length cap) := c13
            have f3' : w3.drew.frozen? ⟨cb, c * 194 + 193, none⟩ = false := f3
            generalize w3.drew = w4 at FG NW c13' f3' ⊢
            all_goals
              go_upto_region 10 with fail
              have GN := H3.out.newAt (i := c) (l := dropI l (i : Int)) (v := .slice (some ⟨g, off, none⟩) k k) H12.out FG NW OW
              have R6 := SP'.out.all _ _ _ GN H12.out
              have d3 := R6.cell 3 _ rfl
              have df := R6.frz (so + 3)
              have HGN := Lib.hid GN
              have HR6 := Lib.hid R6
              clear GN R6
              go_wp2_with fail
              all_goals
                go_ret2
                have GE := HR6.out.set 3 (.bool false) { s.get c i with ac := false } (by omega) rfl
                rw [GS.put_at2] at GE
                have e1 : s.eoi (c : Int) (i : Int) = { s.put c i { s.get c i with ac := false } with at_ := upd s.at_ c (dropI l (i : Int)) } := by rw [E1.out, E3.out, HT.out.1]; rfl
                have e2 : s.eoiB (c : Int) (i : Int) = true := by rw [E2.out, HT.out.1]
                rw [e1, e2]
                refine Tn.of HK.out HF.out F3.out GE (((FG.mono fun k _ hk => .inr (.inr ⟨c, H12.out, hk⟩)).setCell (.inl (.inr (.inl rfl))) _).setCell (.inl (SP'.out.foot.elim .inl fun e => .inr (.inl e))) _) (GS.put_c _ _ _ _) fun j b hj hb => ?_
                by_cases e : j = c
                · subst e
                  rw [upd_same] at hb
                  exact (OW _ hb).imp (fun h => h) fun h => by have := F3.out.size; omega
                · rw [upd_other _ _ e] at hb
                  exact .inl hb
          · have kne : ¬ cap = k + 1 := by omega
            have HLA := Lib.hid hla
            have LD : Hid (((wks l).drop ((k + 1) * 2)).length = (l.length - (k + 1)) * 2) := Lib.hid (by rw [List.length_drop, wks_length2]; omega)
            have ND : Hid (∀ W, Fr Nil w3 W → ∀ j u, ((wks l).drop ((k + 1) * 2))[j]? = some u → W.cell? ((⟨g, off + (k + 1) * 2, none⟩ : Addr).add j) = some u) := Lib.hid fun W hW j u hu => by
              rw [Addr.add_lit, Nat.add_assoc]
              refine (HW3.out.fr hW fun _ _ x => x).cellAt ?_
              rwa [List.getElem?_drop] at hu
            have OD : Hid (∀ u ∈ (wks l).drop ((k + 1) * 2), u.oneCell' = true) := Lib.hid fun u hu => wks_one l u (List.mem_of_mem_drop hu)
            go_region_held3 (fun w' => w'.cell? ⟨gb, 0, none⟩ = some (.slice (some ⟨cb, 0, none⟩) s.c s.c) ∧ w'.cell? ⟨gb, 0, none⟩ = some (.slice (some ⟨cb, 0, none⟩) s.c s.c)) (first | exact ⟨c03, c03⟩ | exact ⟨c05, c05⟩ | exact ⟨(cell_far _ _ _ _ HNE.out).trans c05, (cell_far _ _ _ _ HNE.out).trans c05⟩ | exact ⟨(cell_fard _ _ _ _ HNE.out).trans c05, (cell_fard _ _ _ _ HNE.out).trans c05⟩) (first | (refine step_append_win _ rfl (.tmp 45) (.tmp 49) 81 rfl 96 i74 _ 2 16 Try.underlying81 hi hz0 hz1 hz2 rfl (by decide) _ _ _ rfl CUT.out.drew ⟨g, off + (k + 1) * 2, none⟩ (l.length - (k + 1)) _ ((wks l).drop ((k + 1) * 2)) rfl LD.out (ND.out _ (Fr.refl Nil w3).drew) OD.out (by have := KC.out; have := HLA.out; omega) (by have := KC.out; simp only [maxLen]; omega) (by have := KC.out; omega) w3.heap.size rfl ?_; intro g' off' cap' w5 hw5 hgr hat; have hgr' := Lib.hid (show w3.grownBy w5 (Value.slice (some ⟨g, off, none⟩) l.length cap).ownBlock from ⟨hgr.os, hgr.tape, hgr.output, hgr.size, hgr.block⟩); have HAT := Lib.hid hat; have W5 := Lib.hid hw5; have c05 := HTC.out _ (H3.out.top.grown hgr'.out (Ne.symm HO.out.1)); have c15 := HCC.out _ (H3.out.cores.grown hgr'.out (Ne.symm HO.out.2)); have f5 := (H3.out.cores.grown hgr'.out (Ne.symm HO.out.2)).frozen (c * 194 + 193); clear hgr hat hw5) | fail)
            have hll : (dropI l (i : Int)).length = k + (l.length - (k + 1)) := by rw [HT.out.2, List.length_append, List.length_take, List.length_drop]; have := KC.out; omega
            have FG : Fr (fun k => (av c).ownBlock = some k) w3 w5 := (Fr.refl _ w3).grown hgr'.out fun k hk => .inl (by rw [HAV.out]; exact hk)
            have NW : Win w5 96 2 (.slice (some ⟨g', off', none⟩) (k + (l.length - (k + 1))) cap') (dropI l (i : Int)).length (wks (dropI l (i : Int))) := by
              rw [hll, HT.out.2, wks_app, WT.out, WD.out]
              exact W5.out
            have OW : ∀ b, (Value.slice (some ⟨g', off', none⟩) (k + (l.length - (k + 1))) cap').ownBlock = some b → (av c).ownBlock = some b ∨ w3.heap.size ≤ b := fun b hb => by
              obtain rfl : g' = b := Option.some.inj hb
              rw [HAV.out]
              exact HAT.out.imp (fun h => h) fun h => by omega
            go_upto_region 10 with fail
            have GN := H3.out.newAt (i := c) (l := dropI l (i : Int)) (v := .slice (some ⟨g', off', none⟩) (k + (l.length - (k + 1))) cap') H12.out FG NW OW
            have R6 := SP'.out.all _ _ _ GN H12.out
            have d3 := R6.cell 3 _ rfl
            have df := R6.frz (so + 3)
            have HGN := Lib.hid GN
            have HR6 := Lib.hid R6
            clear GN R6
            go_wp2_with fail
            all_goals
              go_ret2
              have GE := HR6.out.set 3 (.bool false) { s.get c i with ac := false } (by omega) rfl
              rw [GS.put_at2] at GE
              have e1 : s.eoi (c : Int) (i : Int) = { s.put c i { s.get c i with ac := false } with at_ := upd s.at_ c (dropI l (i : Int)) } := by rw [E1.out, E3.out, HT.out.1]; rfl
              have e2 : s.eoiB (c : Int) (i : Int) = true := by rw [E2.out, HT.out.1]
              rw [e1, e2]
              refine Tn.of HK.out HF.out F3.out GE (((FG.mono fun k _ hk => .inr (.inr ⟨c, H12.out, hk⟩)).setCell (.inl (.inr (.inl rfl))) _).setCell (.inl (SP'.out.foot.elim .inl fun e => .inr (.inl e))) _) (GS.put_c _ _ _ _) fun j b hj hb => ?_
              by_cases e : j = c
              · subst e
                rw [upd_same] at hb
                exact (OW _ hb).imp (fun h => h) fun h => by have := F3.out.size; omega
              · rw [upd_other _ _ e] at hb
                exact .inl hb
      · have hk' : k = l.length := by omega
        subst hk'
        have hd : decide (l.length < l.length) = false := by simp
        have HN := hno.out
        rw [List.take_length] at HN
        have HN' := Lib.hid HN
        clear HN
        go_wp2_with fail
        go_ret2
        have e1 : s.eoi (c : Int) (i : Int) = s := by rw [E1.out, E3.out, HN'.out]; rfl
        have e2 : s.eoiB (c : Int) (i : Int) = false := by rw [E2.out, HN'.out]
        rw [e1, e2]
        exact Tn.of HK.out HF.out hfr (HG.out.fr hfr fun _ _ x => x) (Fr.refl _ _) rfl fun i k hi hk => .inl hk
end Go.Proofs.Ytnmakbippgnekaa
