/- Ack. -/
import Derived.Test.YtnmakbippgnekaaGbest2
set_option linter.unusedSimpArgs false
set_option linter.unusedSectionVars false
namespace Go.Proofs.Ytnmakbippgnekaa
open Go.RowKit
set_option linter.unusedVariables false
set_option maxRecDepth 100000

def GS.take (s : GS) (c id : Nat) : GS :=
  { s.put c id { s.get c id with la := false, ac := true } with at_ := upd s.at_ c (s.at_ c ++ [((s.get c id).rk, (id : Int))]) }
def GS.ack (s : GS) (c : Int) : GS := if (s.best c).2 = true then s.take c.toNat (s.best c).1.toNat else s
def GS.ackV (s : GS) (c : Int) : Int := if (s.best c).2 = true then (s.best c).1 else 1023
def AtLe (s : GS) (n : Nat) : Prop := ∀ i, i < s.c → (s.at_ i).length ≤ n
theorem GS.take_c (s : GS) (c id : Nat) : (s.take c id).c = s.c := by
  unfold GS.take
  exact GS.put_c _ _ _ _
theorem GS.ack_c (s : GS) (c : Int) : (s.ack c).c = s.c := by
  unfold GS.ack
  split
  · exact GS.take_c _ _ _
  · rfl
theorem GS.best_nat {s : GS} {c : Int} (h : (s.best c).2 = true) : ∃ c' id : Nat, c = (c' : Int) ∧ c' < s.c ∧ id < 64 ∧ (s.best c).1 = (id : Int) ∧ candB s c' id = true := by
  unfold GS.best at h ⊢
  cases hk : thereB s c
  · rw [hk] at h
    simp at h
  · obtain ⟨c, rfl, h1⟩ := thereB_nat hk
    rw [hk, if_pos rfl] at h
    rw [if_pos rfl]
    rw [Int.toNat_natCast] at h ⊢
    cases hb : bestK s c 64 with
    | none =>
      rw [hb] at h
      simp [bestOf] at h
    | some m =>
      obtain ⟨⟨id, i1, i2, i3⟩, -⟩ := bestK_some hb
      subst i3
      refine ⟨c, id, rfl, h1, i1, ?_, i2⟩
      rw [hb] at h
      by_cases hq : s.lim c ≤ (one s c id).1 ∨ runl (s.at_ c) ≤ (one s c id).1
      · simp [bestOf, hq] at h
      · simp only [bestOf, hq, if_false]
        rfl
theorem wks_append (l : List Mo) (m : Mo) : wks (l ++ [m]) = wks l ++ [.int .i64 m.2, .int .i64 m.1] := by simp [wks]
theorem wks_length (l : List Mo) : (wks l).length = l.length * 2 := by
  rw [wks_rows, rows_length _ 2 (mo_length _)]
set_option maxHeartbeats 2000000 in
theorem ack_ok (K : Nat → Prop) (gb : Nat) (s : GS) (c : Int) (w : World) (h : Gk K w gb s) (n : Nat) (hn : n ≤ 1000) (ha : AtLe s n) :
    Calls Try.prog 33 #[.pointer (some ⟨gb, 0, none⟩), .int .i64 c] w (Tn K gb w (s.ack c) (.int .i64 (s.ackV c))) := by
  obtain ⟨cb, av, hg, hf⟩ := h.mem
  have BA := best_at gb cb av s c w hg h.c8
  have HK := Lib.hid h
  have HF := Lib.hid hf
  have HG := Lib.hid hg
  obtain ⟨bv, bo, hbe⟩ : ∃ x y, s.best c = (x, y) := ⟨_, _, rfl⟩
  cases bo
  · have E1 : s.ack c = s := by unfold GS.ack; rw [hbe]; rfl
    have E2 : s.ackV c = 1023 := by unfold GS.ackV; rw [hbe]; rfl
    rw [E1, E2]
    rw [hbe] at BA
    have BA' := Lib.hid BA
    clear E1 E2 hg hf h ha BA hbe
    go_enter Try.func33, Try.ntmps33
    go_wp2_with (go_at_call 45; refine BA'.out.mono ?_; rintro e w2 ⟨rfl, f2⟩; have F2 := Lib.hid f2; clear f2)
    go_ret
    exact Tn.of HK.out HF.out F2.out (HG.out.fr F2.out fun _ _ x => x) (Fr.refl _ _) rfl fun i k hi hk => .inl hk
  · obtain ⟨c, id, rfl, h1, h2, h3, -⟩ := GS.best_nat (s := s) (c := c) (by rw [hbe])
    have E1 : s.ack (c : Int) = s.take c id := by unfold GS.ack; rw [h3, hbe, if_pos rfl, Int.toNat_natCast, Int.toNat_natCast]
    have E2 : s.ackV (c : Int) = (id : Int) := by unfold GS.ackV; rw [h3, hbe, if_pos rfl]
    rw [hbe] at h3
    obtain rfl : bv = (id : Int) := h3
    rw [E1, E2]
    rw [hbe] at BA
    have BA' := Lib.hid BA
    have OF := Lib.hid (fun W (G : GicAt W gb cb av s) => of_yes gb cb av s c id W G h.c8 h1 h2)
    have n1 : (c : Int) < (s.c : Int) := by omega
    have n8 : (s.c : Int) ≤ 8 := by have := h.c8; omega
    have H12 := Lib.hid (And.intro h1 h2)
    have HA := Lib.hid (ha c h1)
    clear E1 E2 hg hf h ha BA hbe h1 h2
    go_enter Try.func33, Try.ntmps33
    go_upto_region 6 with (first | (go_at_call 45; refine BA'.out.mono ?_; rintro e w2 ⟨rfl, f2⟩; have F2 := Lib.hid f2; clear f2) | (go_at_call 35; refine (OF.out _ (HG.out.fr F2.out fun _ _ x => x)).mono ?_; rintro e w3 ⟨sb, so, rfl, SP, rfl⟩; have d1 := SP.cell 1 _ rfl; have d3 := SP.cell 3 _ rfl; have df := SP.frz; have SP' := Lib.hid SP; clear SP))
    have G3 := SP'.out.set 1 (.bool false) { s.get c id with la := false } (by omega) rfl
    have R3 := SP'.out.all _ _ _ G3 (by rw [GS.put_c]; exact H12.out.1)
    have G4 := R3.set 3 (.bool true) { s.get c id with la := false, ac := true } (by omega) (by rw [GS.get_put]; rfl)
    rw [GS.put_put] at G4
    have R4 := SP'.out.all _ _ _ G4 (by rw [GS.put_c]; exact H12.out.1)
    have r4 := R4.cell 4 _ rfl
    rw [GS.get_put] at r4
    have c0 := G4.cores_c
    rw [GS.put_c] at c0
    have c1 := G4.at_c (i := c) (by rw [GS.put_c]; exact H12.out.1)
    have hw := G4.ats c (by rw [GS.put_c]; exact H12.out.1)
    rw [GS.put_at] at hw
    have o1 := G4.ats_gb (i := c) (by rw [GS.put_c]; exact H12.out.1)
    have o2 := G4.ats_cb (i := c) (by rw [GS.put_c]; exact H12.out.1)
    have F4 : Fr (Foot gb cb av s.c) w2 ((w2.setCell ⟨sb, so + 1, none⟩ (.bool false)).setCell ⟨sb, so + 3, none⟩ (.bool true)) :=
      ((Fr.refl _ w2).setCell (.inl (SP'.out.foot.elim .inl fun e => .inr (.inl e))) _).setCell (.inl (SP'.out.foot.elim .inl fun e => .inr (.inl e))) _
    generalize ((w2.setCell ⟨sb, so + 1, none⟩ (.bool false)).setCell ⟨sb, so + 3, none⟩ (.bool true)) = w4 at *
    have HS1 : Hid (s.take c id = { s.put c id { s.get c id with la := false, ac := true } with at_ := upd (s.put c id { s.get c id with la := false, ac := true }).at_ c (s.at_ c ++ [((s.get c id).rk, (id : Int))]) }) := Lib.hid (by
      unfold GS.take
      rw [GS.put_at])
    have HC1 := Lib.hid (show (s.put c id { s.get c id with la := false, ac := true }).c = s.c from GS.put_c _ _ _ _)
    generalize s.put c id { s.get c id with la := false, ac := true } = s1 at *
    generalize hrk : (s.get c id).rk = rk at *
    obtain ⟨ao, cp, hv, hcp, hmx, _⟩ := hw.shape
    have HAV := Lib.hid hv
    rw [hv] at c1 hw o1 o2
    obtain ⟨i74, hi, hz0, hz1, hz2⟩ := info_parts Try.info96
    have HW := Lib.hid hw
    have H4 := Lib.hid G4
    have HF4 := Lib.hid F4
    have HO := Lib.hid (And.intro o1 o2)
    have hlen : (s.at_ c).length ≤ 1000 := by have := HA.out; omega
    have r4A : (w4.alloc (.cells #[.int .i64 (id : Int), .int .i64 rk] 96)).cell? ⟨sb, so + 4, none⟩ = some (.int .i64 rk) := by
      have hlt : sb < w4.heap.size := by
        rcases SP'.out.foot with e | e
        · rw [e]; exact G4.top.lt
        · rw [e]; exact G4.cores.lt
      rw [World.cell?_alloc_past _ _ _ hlt]; exact r4
    have c0A := (G4.box (.cells #[.int .i64 (id : Int), .int .i64 rk] 96)).cores_c
    rw [HC1.out] at c0A
    have HTC : Hid (∀ W, Blk W gb 80 (gcs cb s1).toArray → W.cell? ⟨gb, 0, none⟩ = some (.slice (some ⟨cb, 0, none⟩) s.c s.c)) := Lib.hid fun W hW => by
      rw [← HC1.out]
      exact hW.cellv (by simp [gcs])
    have HCC : Hid (∀ W, Blk W cb 83 (ccs av s1).toArray → W.cell? ⟨cb, c * 194 + 193, none⟩ = some (.slice ao (s.at_ c).length cp)) := Lib.hid fun W hW => by
      rw [← hv]
      exact hW.cellv (by rw [List.getElem?_toArray, ccs_at (by rw [HC1.out]; exact H12.out.1)])
    have c1A := HCC.out _ (G4.box (.cells #[.int .i64 (id : Int), .int .i64 rk] 96)).cores
    clear G3 R3 G4 R4 hw o1 o2 hv hrk F4 d1 d3 df
    go_region_law (refine step_append_win _ rfl (.tmp 38) (.tmp 45) 81 rfl 96 i74 _ 2 16 Try.underlying81 hi hz0 hz1 hz2 rfl (by decide) _ _ _ rfl (HW.out.drew.alloc _) ⟨w4.heap.size, 0, none⟩ 1 1 [.int .i64 (id : Int), .int .i64 rk] rfl rfl (news2 w4.drew _ _ _) (by simp [Value.oneCell']) (by omega) (by simp only [maxLen]; omega) (by omega) (w4.heap.size + 1) (by simp) ?_; intro g off' cap' w5 hw5 hgr hat; have hgr' := Lib.hid (show w4.grownBy w5 (Value.slice ao (s.at_ c).length cp).ownBlock from (let h := (World.grownBy_alloc w4.drew _ _).trans hgr; ⟨h.os, h.tape, h.output, h.size, h.block⟩)); have HAT := Lib.hid hat; have W5 := Lib.hid hw5; have c05 := HTC.out _ (H4.out.top.grown hgr'.out (Ne.symm HO.out.1)); have c15 := HCC.out _ (H4.out.cores.grown hgr'.out (Ne.symm HO.out.2)); have f5 := (H4.out.cores.grown hgr'.out (Ne.symm HO.out.2)).frozen (c * 194 + 193); clear hgr hat hw5)
    all_goals
      go_wp2_with fail
      go_ret
      have FG : Fr (fun k => (av c).ownBlock = some k) w4 w5 := (Fr.refl _ w4).grown hgr'.out fun k hk => .inl (by rw [HAV.out]; exact hk)
      have GN := H4.out.newAt (i := c) (l := s.at_ c ++ [(rk, (id : Int))]) (by rw [HC1.out]; exact H12.out.1) FG (by rw [List.length_append, wks_append]; exact W5.out) (fun k hk => by
        obtain rfl : g = k := Option.some.inj hk
        rw [HAV.out]
        exact HAT.out.imp (fun h => h) fun h => by omega)
      refine Tn.of HK.out HF.out F2.out (by rw [HS1.out]; exact GN) ((HF4.out.trans (FG.mono fun k _ hk => .inr (.inr ⟨c, H12.out.1, hk⟩))).setCell (.inl (.inr (.inl rfl))) _) (GS.take_c _ _ _) fun i k hi hk => ?_
      by_cases e : i = c
      · subst e
        rw [upd_same] at hk
        obtain rfl : g = k := Option.some.inj hk
        rw [HAV.out]
        exact HAT.out.imp (fun h => h) fun h => by have := HF4.out.size; have := F2.out.size; omega
      · rw [upd_other _ _ e] at hk
        exact .inl hk
end Go.Proofs.Ytnmakbippgnekaa
