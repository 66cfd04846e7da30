/- The interrupt that a core would take: the walk. -/
import Derived.Test.YtnmakbippgnekaaGbest
set_option linter.unusedSimpArgs false
set_option linter.unusedSectionVars false
namespace Go.Proofs.Ytnmakbippgnekaa
open Go.RowKit
set_option linter.unusedVariables false
set_option maxRecDepth 100000

def BestTo (w : World) (x : Int × Bool) (e : Ending) (w' : World) : Prop := e = .returned (.tuple #[.int .i64 x.1, .bool x.2]) ∧ Fr Nil w w'
/-- Where the heap lies. -/
structure Hl (w wr : World) (A : Nat) (v : Value) (n : Nat) (V : Nat → Mo) : Prop where
  top : Blk wr A 104 #[v]
  win : Win wr 96 2 v n (rows (mo V) n)
  fr : Fr Nil w wr
  own : ∀ g, v.ownBlock = some g → A ≤ g
theorem Hl.first (w : World) : Hl w (w.alloc (.cells #[.slice none 0 0] 104)) w.heap.size (.slice none 0 0) 0 (fun _ => (0, 0)) :=
  ⟨Blk.new w 104 _, Win.nil _ _ _, (Fr.refl Nil w).alloc _, fun g h => by cases h⟩
theorem Hl.push {w wr w2 : World} {A : Nat} {v : Value} {n : Nat} {V : Nat → Mo} {m : Mo} {e : Ending} (h : Hl w wr A v n V) (hA : w.heap.size ≤ A) (hp : PushTo wr A n v V m e w2) :
    e = .returned (.tuple #[]) ∧ ∃ v' V', Hl w w2 A v' (n + 1) V' ∧ Hp ltM V' 0 (n + 1) ∧ Perm (n + 1) (upd V n m) V' := by
  obtain ⟨he, g, off, cap, V', f, b, wn, ow, hp, pm⟩ := hp
  refine ⟨he, _, V', ⟨b, wn, h.fr.step f fun i hi hs => ?_, fun g' hg => ?_⟩, hp, pm⟩
  · rcases hs with e | e
    · exact .inr (by omega)
    · exact .inr (by have := h.own _ e; omega)
  · obtain rfl : g = g' := Option.some.inj hg
    rcases ow with e | e
    · have := h.own _ e
      omega
    · have := h.top.lt
      omega
set_option maxHeartbeats 4000000 in
theorem best_at (gb cb : Nat) (av : Nat → Value) (s : GS) (c : Int) (w : World) (h : GicAt w gb cb av s) (hc : s.c ≤ 8) :
    Calls Try.prog 45 #[.pointer (some ⟨gb, 0, none⟩), .int .i64 c] w (BestTo w (s.best c)) := by
  have TH := there_ok gb cb av s c w h hc
  cases hk : thereB s c
  · rw [hk] at TH
    have TH' := Lib.hid TH
    have E : s.best c = (0, false) := by unfold GS.best; rw [hk]; rfl
    rw [E]
    clear hk E h TH
    go_enter Try.func45, Try.ntmps45
    go_wp2_with (go_at_call 41; refine TH'.out.mono ?_; rintro e w2 ⟨rfl, rfl⟩)
    go_ret2
    exact ⟨rfl, Fr.refl _ _⟩
  · rw [hk] at TH
    have TH' := Lib.hid TH
    obtain ⟨c, rfl, h1⟩ := thereB_nat hk
    have E : s.best (c : Int) = bestOf s c (bestK s c 64) := by unfold GS.best; rw [hk, if_pos rfl, Int.toNat_natCast]
    have R : s.run (c : Int) = runl (s.at_ c) := by unfold GS.run; rw [hk, if_pos rfl, Int.toNat_natCast]
    have HE := Lib.hid E
    have HR := Lib.hid R
    have H := Lib.hid h
    have H1 := Lib.hid h1
    have HC := Lib.hid hc
    have L0 := Lib.hid (Hl.first w)
    clear h E R hk TH h1 hc
    go_enter Try.func45, Try.ntmps45
    go_upto_region 4 with (go_at_call 41; refine TH'.out.mono ?_; rintro e w2 ⟨rfl, rfl⟩)
    generalize hw0 : w.alloc (.cells #[.slice none 0 0] 104) = w0 at *
    obtain ⟨A, hA⟩ : ∃ A, A = w.heap.size := ⟨_, rfl⟩
    rw [← hA] at L0 ⊢
    have HA := Lib.hid hA
    clear hw0 hA
    go_wp2_with fail
    go_loopw [14] (fun i wr => ∃ (k n : Nat) (v : Value) (V : Nat → Mo), i = .int .i64 (k : Int) ∧ k ≤ 64 ∧ Hl w wr A v n V ∧ Ws s c k n V) (fun i _ => 64 - (intOf i).toNat)
    case atStart => exact ⟨0, 0, _, _, rfl, by omega, L0.out, ⟨fun j hj => by omega, fun id hid => by omega, Hp.end (by omega), Nat.le_refl _⟩⟩
    case round =>
      obtain ⟨k, n, v, V, rfl, hk, hl, hws⟩ := hrel
      have HL := Lib.hid hl
      have HW := Lib.hid hws
      have G := Lib.hid (H.out.fr hl.fr fun _ _ => id)
      by_cases hk64 : k < 64
      · have OF := Lib.hid (of_yes gb cb av s c k wr G.out HC.out H1.out hk64)
        have k0 : (k : Int) < 64 := by omega
        have HK := Lib.hid hk64
        clear hl hws hk hk64
        cases hen : (s.get c k).en
        · have CB : Hid (candB s c k = false) := Lib.hid (by simp [candB, hen])
          go_wp2_with (first | (go_at_call 35; refine OF.out.mono ?_; rintro e w2 ⟨sb, so, rfl, SP, rfl⟩; have c0 := SP.cell 0 _ rfl; have c3 := SP.cell 3 _ rfl; have c4 := SP.cell 4 _ rfl; have c5 := SP.cell 5 _ rfl; have PN := Lib.hid (pnd_ok SP); have SP' := Lib.hid SP; clear SP; simp only [Nat.add_zero] at c0; rw [hen] at c0) | (go_at_call 36; refine PN.out.mono ?_; rintro e w3 ⟨rfl, rfl⟩))
          go_roundw
          case rel => exact ⟨k + 1, n, v, V, by go_num, HK.out, HL.out, HW.out.skip CB.out⟩
          case measure => have := HK.out; simp [intOf]; omega
        cases hpn : (s.get c k).pn
        · have CB : Hid (candB s c k = false) := Lib.hid (by simp [candB, hen, hpn])
          go_wp2_with (first | (go_at_call 35; refine OF.out.mono ?_; rintro e w2 ⟨sb, so, rfl, SP, rfl⟩; have c0 := SP.cell 0 _ rfl; have c3 := SP.cell 3 _ rfl; have c4 := SP.cell 4 _ rfl; have c5 := SP.cell 5 _ rfl; have PN := Lib.hid (pnd_ok SP); have SP' := Lib.hid SP; clear SP; simp only [Nat.add_zero] at c0; rw [hen] at c0; rw [hpn] at PN) | (go_at_call 36; refine PN.out.mono ?_; rintro e w3 ⟨rfl, rfl⟩))
          go_roundw
          case rel => exact ⟨k + 1, n, v, V, by go_num, HK.out, HL.out, HW.out.skip CB.out⟩
          case measure => have := HK.out; simp [intOf]; omega
        cases hac : (s.get c k).ac
        rotate_left
        · have CB : Hid (candB s c k = false) := Lib.hid (by simp [candB, hen, hpn, hac])
          go_wp2_with (first | (go_at_call 35; refine OF.out.mono ?_; rintro e w2 ⟨sb, so, rfl, SP, rfl⟩; have c0 := SP.cell 0 _ rfl; have c3 := SP.cell 3 _ rfl; have c4 := SP.cell 4 _ rfl; have c5 := SP.cell 5 _ rfl; have PN := Lib.hid (pnd_ok SP); have SP' := Lib.hid SP; clear SP; simp only [Nat.add_zero] at c0; rw [hen] at c0; rw [hpn] at PN; rw [hac] at c3) | (go_at_call 36; refine PN.out.mono ?_; rintro e w3 ⟨rfl, rfl⟩))
          go_roundw
          case rel => exact ⟨k + 1, n, v, V, by go_num, HK.out, HL.out, HW.out.skip CB.out⟩
          case measure => have := HK.out; simp [intOf]; omega
        by_cases h32 : k < 32
        · have k32 : (k : Int) < 32 := by omega
          have CB : Hid (candB s c k = true) := Lib.hid (by simp [candB, hen, hpn, hac, h32])
          go_wp2_with (first | (go_at_call 35; refine OF.out.mono ?_; rintro e w2 ⟨sb, so, rfl, SP, rfl⟩; have c0 := SP.cell 0 _ rfl; have c3 := SP.cell 3 _ rfl; have c4 := SP.cell 4 _ rfl; have c5 := SP.cell 5 _ rfl; have PN := Lib.hid (pnd_ok SP); have SP' := Lib.hid SP; clear SP; simp only [Nat.add_zero] at c0; rw [hen] at c0; rw [hpn] at PN; rw [hac] at c3) | (go_at_call 36; refine PN.out.mono ?_; rintro e w3 ⟨rfl, rfl⟩) | (go_at_call 61; refine (hpush_ok A n v V (one s c k) _ HL.out.top HL.out.win HW.out.hp (by have := HW.out.le; have := HK.out; omega)).mono ?_; intro e w4 hp; obtain ⟨rfl, v', V', hl', hp', pm'⟩ := HL.out.push (Nat.le_of_eq HA.out.symm) hp; have HL2 := Lib.hid hl'; have HP2 := Lib.hid hp'; have PM2 := Lib.hid pm'; clear hp hl' hp' pm'))
          go_roundw
          case rel => exact ⟨k + 1, n + 1, v', V', by go_num, HK.out, HL2.out, HW.out.add CB.out HP2.out PM2.out⟩
          case measure => have := HK.out; simp [intOf]; omega
        cases hds : (s.get c k).dst == (c : Int)
        · have k32 : ¬ (k : Int) < 32 := by omega
          have CB : Hid (candB s c k = false) := Lib.hid (by simp [candB, hen, hpn, hac, hds, h32])
          go_wp2_with (first | (go_at_call 35; refine OF.out.mono ?_; rintro e w2 ⟨sb, so, rfl, SP, rfl⟩; have c0 := SP.cell 0 _ rfl; have c3 := SP.cell 3 _ rfl; have c4 := SP.cell 4 _ rfl; have c5 := SP.cell 5 _ rfl; have PN := Lib.hid (pnd_ok SP); have SP' := Lib.hid SP; clear SP; simp only [Nat.add_zero] at c0; rw [hen] at c0; rw [hpn] at PN; rw [hac] at c3) | (go_at_call 36; refine PN.out.mono ?_; rintro e w3 ⟨rfl, rfl⟩))
          go_roundw
          case rel => exact ⟨k + 1, n, v, V, by go_num, HK.out, HL.out, HW.out.skip CB.out⟩
          case measure => have := HK.out; simp [intOf]; omega
        · have k32 : ¬ (k : Int) < 32 := by omega
          have CB : Hid (candB s c k = true) := Lib.hid (by simp [candB, hen, hpn, hac, hds, h32])
          go_wp2_with (first | (go_at_call 35; refine OF.out.mono ?_; rintro e w2 ⟨sb, so, rfl, SP, rfl⟩; have c0 := SP.cell 0 _ rfl; have c3 := SP.cell 3 _ rfl; have c4 := SP.cell 4 _ rfl; have c5 := SP.cell 5 _ rfl; have PN := Lib.hid (pnd_ok SP); have SP' := Lib.hid SP; clear SP; simp only [Nat.add_zero] at c0; rw [hen] at c0; rw [hpn] at PN; rw [hac] at c3) | (go_at_call 36; refine PN.out.mono ?_; rintro e w3 ⟨rfl, rfl⟩) | (go_at_call 61; refine (hpush_ok A n v V (one s c k) _ HL.out.top HL.out.win HW.out.hp (by have := HW.out.le; have := HK.out; omega)).mono ?_; intro e w4 hp; obtain ⟨rfl, v', V', hl', hp', pm'⟩ := HL.out.push (Nat.le_of_eq HA.out.symm) hp; have HL2 := Lib.hid hl'; have HP2 := Lib.hid hp'; have PM2 := Lib.hid pm'; clear hp hl' hp' pm'))
          go_roundw
          case rel => exact ⟨k + 1, n + 1, v', V', by go_num, HK.out, HL2.out, HW.out.add CB.out HP2.out PM2.out⟩
          case measure => have := HK.out; simp [intOf]; omega
      · obtain rfl : k = 64 := by omega
        clear hk hk64
        cases n with
        | zero =>
          have EB := Lib.hid hws.none
          have d0 := hl.top.cellv (i := 0) rfl
          obtain ⟨ao, cap, ev, -, -, -⟩ := hl.win.shape
          subst ev
          clear hl hws
          go_wp2_with fail
          go_ret2
          exact ⟨by rw [HE.out, EB.out]; rfl, HL.out.fr⟩
        | succ n =>
          have EB := Lib.hid hws.some
          have d0 := hl.top.cellv (i := 0) rfl
          obtain ⟨g, off, cap, ev, -, -, -, -, -⟩ := hl.win.form (by omega)
          subst ev
          have n99 : n ≤ 99 := by have := hws.le; omega
          have PP := Lib.hid (hpop_ok A g off n cap V wr hl.top hl.win hws.hp n99)
          have ta := run_assert74
          have n9 : (n : Int) ≤ 99 := by omega
          have OWN := Lib.hid (hl.own g rfl)
          clear hl hws
          go_upto_region 14 with (go_at_call 62; refine PP.out.mono ?_; rintro e w2 ⟨rfl, f2, -⟩; have F2 := Lib.hid f2; clear f2)
          have f3 : Fr Nil w w2 := HL.out.fr.step F2.out fun i hi hs => .inr (by
            have := HA.out
            have := OWN.out
            rcases hs with e | e
            · rw [e]; omega
            · rw [e]; omega)
          have f4 : Fr Nil w (w2.alloc (.cells #[.int .i64 (V 0).2, .int .i64 (V 0).1] 96)) := f3.alloc _
          have BW := Blk.new w2 96 #[.int .i64 (V 0).2, .int .i64 (V 0).1]
          generalize hw3 : w2.alloc (.cells #[.int .i64 (V 0).2, .int .i64 (V 0).1] 96) = w3 at *
          generalize w2.heap.size = B at *
          generalize V 0 = m at *
          have G3 := H.out.fr f4 fun _ _ => id
          have q0 := BW.cellv (i := 0) rfl
          have q1 := BW.cellv (i := 1) rfl
          have q2 := G3.cores_c
          have q3 := G3.lim_c H1.out
          have n1 : (c : Int) < (s.c : Int) := by have := H1.out; omega
          have n8 : (s.c : Int) ≤ 8 := by have := HC.out; omega
          have F4 := Lib.hid f4
          have RN := Lib.hid (fun W (hW : Fr Nil w3 W) => run_at gb cb av s (c : Int) W (G3.fr hW fun _ _ => id) HC.out)
          rw [HR.out] at RN
          have HQ : Hid (∀ W, Fr Nil w3 W → W.cell? ⟨B, 1, none⟩ = some (.int .i64 m.1) ∧ W.cell? ⟨gb, 0, none⟩ = some (.slice (some ⟨cb, 0, none⟩) s.c s.c) ∧ W.cell? ⟨cb, c * 194 + 192, none⟩ = some (.int .i64 (s.lim c)) ∧ W.cell? ⟨B, 0, none⟩ = some (.int .i64 m.2) ∧ Fr Nil w3 W) :=
            Lib.hid fun W hW => ⟨(BW.fr0 hW).cellv (i := 1) rfl, (G3.fr hW fun _ _ => id).cores_c, (G3.fr hW fun _ _ => id).lim_c H1.out, (BW.fr0 hW).cellv (i := 0) rfl, hW⟩
          have EV : Hid (s.best (c : Int) = if s.lim c ≤ m.1 ∨ runl (s.at_ c) ≤ m.1 then (0, false) else (m.2, true)) := Lib.hid (by rw [HE.out, EB.out]; rfl)
          clear f3 f4 hw3 BW G3 TH' ta d0 PP
          cases t1 : decide (s.lim c ≤ m.1)
          · go_region_held3 (fun w' => w'.cell? ⟨B, 1, none⟩ = some (.int .i64 m.1) ∧ w'.cell? ⟨gb, 0, none⟩ = some (.slice (some ⟨cb, 0, none⟩) s.c s.c) ∧ w'.cell? ⟨cb, c * 194 + 192, none⟩ = some (.int .i64 (s.lim c)) ∧ w'.cell? ⟨B, 0, none⟩ = some (.int .i64 m.2) ∧ Fr Nil w3 w') (first | exact HQ.out _ (Fr.refl Nil _).drew | exact HQ.out _ G5) (first | (go_at_call 63; refine (RN.out _ (Fr.refl Nil _).drew).mono ?_; rintro e w5 ⟨rfl, f5⟩; have G5 := ((Fr.refl Nil w3).drew).trans f5) | fail)
            have z0 := (HQ.out _ G5).2.2.2.1
            have F5 := Lib.hid (F4.out.trans G5)
            have T1 := Lib.hid t1
            clear G5 t1 q0 q1 q2 q3
            cases t2 : decide (runl (s.at_ c) ≤ m.1)
            · have T2 := Lib.hid t2
              go_wp2_with fail
              go_ret2
              exact ⟨by rw [EV.out, if_neg (by have := T1.out; have := T2.out; simp at *; omega)]; rfl, F5.out⟩
            · have T2 := Lib.hid t2
              go_wp2_with fail
              go_ret2
              exact ⟨by rw [EV.out, if_pos (.inr (by have := T2.out; simpa using this))]; rfl, F5.out⟩
          · go_quiet (fail)
            go_wp2_with fail
            go_ret2
            exact ⟨by rw [EV.out, if_pos (.inl (by simpa using t1))]; rfl, (F4.out.drewN _)⟩

end Go.Proofs.Ytnmakbippgnekaa
