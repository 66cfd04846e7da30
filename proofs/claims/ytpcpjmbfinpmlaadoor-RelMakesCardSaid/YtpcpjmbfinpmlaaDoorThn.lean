/- One relation behind the other: Then. -/
import Derived.Test.YtpcpjmbfinpmlaaDoorBth
import Derived.Test.YtpcpjmbfinpmlaaDoorRpr
import Derived.Deep.RegionWith
set_option linter.unusedSimpArgs false
set_option linter.unusedVariables false
set_option linter.unusedSectionVars false
namespace Go.Proofs.YtpcpjmbfinpmlaaDoor
open Go.RowKit
set_option maxRecDepth 100000

def acc (f : Nat → Bool) (s : Rn) (t : Nat) : Nat → Bool := fun c => (List.range t).any fun b => f b && s b c
def thenR (r s : Rn) : Rn := fun a => acc (r a) s 64
theorem acc_true {f : Nat → Bool} {s : Rn} {t c : Nat} : acc f s t c = true ↔ ∃ b, b < t ∧ f b = true ∧ s b c = true := by
  unfold acc
  simp [List.any_eq_true]
theorem acc_skip {f : Nat → Bool} {s : Rn} {t u : Nat} (h : t ≤ u) (hn : ∀ i, t ≤ i → i < u → f i = false) : acc f s u = acc f s t := by
  funext c
  rw [Bool.eq_iff_iff, acc_true, acc_true]
  constructor
  · rintro ⟨b, h1, h2, h3⟩
    refine ⟨b, ?_, h2, h3⟩
    rcases Nat.lt_or_ge b t with h4 | h4
    · exact h4
    · rw [hn b h4 h1] at h2; cases h2
  · rintro ⟨b, h1, h2⟩
    exact ⟨b, by omega, h2⟩
theorem acc_take {f : Nat → Bool} {s : Rn} {u : Nat} (h : f u = true) : acc f s (u + 1) = fun c => acc f s u c || s u c := by
  funext c
  rw [Bool.eq_iff_iff, Bool.or_eq_true, acc_true, acc_true]
  constructor
  · rintro ⟨b, h1, h2, h3⟩
    by_cases e : b = u
    · subst e; exact .inr h3
    · exact .inl ⟨b, by omega, h2, h3⟩
  · rintro (⟨b, h1, h2⟩ | h1)
    · exact ⟨b, by omega, h2⟩
    · exact ⟨u, by omega, h, h1⟩
theorem thenR_ok {n : Nat} {r s : Rn} (hr : ∀ a c, r a c = true → a < n ∧ c < n) (hs : ∀ a c, s a c = true → a < n ∧ c < n) (a c : Nat) (h : thenR r s a c = true) : a < n ∧ c < n := by
  obtain ⟨b, _, h1, h2⟩ := acc_true.1 h
  exact ⟨(hr a b h1).1, (hs b c h2).2⟩
set_option maxHeartbeats 1000000 in
theorem th_ok (f : Nat → Bool) (y : Int) (bx c n : Nat) (s : Rn) (w : World) (hs : RelAt w c n s) (hb : w.cell? ⟨bx, 0, none⟩ = some (.pointer (some ⟨c, 0, none⟩))) (hbl : bx < w.heap.size) (hT : Tab w) :
    Calls Tryd.prog 51 #[.int .u64 (bw f : Int), .int .u64 y, .pointer (some ⟨bx, 0, none⟩)] w fun e w' => e = .returned (.int .u64 (bw (acc f s 64) : Int)) ∧ Fr Nil w w' := by
  have HS := Lib.hid hs
  have HT := Lib.hid hT
  have HB : Hid (∀ W, Fr Nil w W → W.cell? ⟨bx, 0, none⟩ = some (.pointer (some ⟨c, 0, none⟩))) := Lib.hid fun W hW => (hW.cell (p := ⟨bx, 0, none⟩) hbl id).trans hb
  clear hs hT hb hbl
  have f0 : bw f = bw (rest f 0) := by rw [rest_zero]
  have a0 : (0 : Int) = (bw (acc f s 0) : Int) := by
    have : bw (acc f s 0) = 0 := by
      rw [← bw_zero]
      exact bw_congr fun i _ => rfl
    rw [this]; rfl
  rw [f0]
  go_enter Tryd.func51, Tryd.ntmps51
  go_wp2_with fail
  go_loopw [0, 6] (fun x o wr => ∃ t : Nat, t ≤ 64 ∧ x = .int .u64 (bw (rest f t) : Int) ∧ o = .int .u64 (bw (acc f s t) : Int) ∧ Fr Nil w wr) (fun x _ _ => (intOf x).toNat)
  case atStart => exact ⟨0, by omega, rfl, by rw [← a0], Fr.refl _ _⟩
  case round =>
    obtain ⟨t, ht, rfl, rfl, hf⟩ := hrel
    have HF := Lib.hid hf
    clear hf
    by_cases hz : bw (rest f t) = 0
    · have E := Lib.hid (show acc f s 64 = acc f s t from acc_skip ht fun i hi h64 => by
        have := bw_eq0 hz h64
        simpa [rest, hi] using this)
      rw [hz]
      clear hz ht
      go_wp2_with fail
      go_ret
      exact ⟨by rw [E.out]; rfl, HF.out⟩
    · obtain ⟨u, hu, hu1, hu2⟩ := bw_ne hz
      have htu : t ≤ u := by
        simp only [rest, Bool.and_eq_true, decide_eq_true_eq] at hu1
        exact hu1.2
      have hru : f u = true := by
        simp only [rest, Bool.and_eq_true, decide_eq_true_eq] at hu1
        exact hu1.1
      have TZ := Lib.hid (fun k => (tz_ok (rest f t) u (wr.drewN k) (HT.out.fr0 (Fr.drewN HF.out k)) hu hu1 hu2).mono (R' := fun e w' => e = .returned (.int .i64 (u : Int)) ∧ w' = wr.drewN k) fun e w' h => ⟨h.1, h.2.symm⟩)
      have DR := low_drop hu hu1 hu2
      rw [rest_next htu hu2] at DR
      have hsub : IntKind.u64.wrap ((bw (rest f t) : Int) - 1) = ((bw (rest f t) - 1 : Nat) : Int) := by
        have := bw_lt (rest f t)
        rw [IntKind.wrap_u64]
        omega
      have hand : bits .and .u64 (bw (rest f t) : Int) ((bw (rest f t) - 1 : Nat) : Int) = (bw (rest f (u + 1)) : Int) := by
        have := bw_lt (rest f t)
        rw [bitsN _ _ (bw_lt _) (by omega), DR]
      have MS := Lib.hid (show bw (rest f (u + 1)) < bw (rest f t) by
        rw [← DR]
        have : bw (rest f t) &&& (bw (rest f t) - 1) ≤ bw (rest f t) - 1 := Nat.and_le_right
        omega)
      have AE : acc f s t = acc f s u := (acc_skip htu fun i hi hiu => by
        have := hu2 i hiu
        simpa [rest, hi] using this).symm
      have hor : bits .or .u64 (bw (acc f s t) : Int) (bw (s u) : Int) = (bw (acc f s (u + 1)) : Int) := by
        rw [orN _ _ (bw_lt _) (bw_lt _), bw_or, acc_take hru, AE]
      have x0 : ((bw (rest f t) : Int) != 0) = true := by simp; omega
      have U64 := Lib.hid hu
      have u64 : (u : Int) < 64 := by omega
      have cb := HB.out wr HF.out
      have cr := (HS.out.fr0 HF.out).row_c (a := u) hu
      clear hz hu hu1 hu2 htu hru DR ht AE
      generalize hx : bw (rest f t) = x at *
      generalize hxd : x - 1 = x1 at *
      clear hx hxd
      go_upto_region 4 with fail
      go_quiet ((go_at_call 49; exact Calls.quiet_of_same (TZ.out _)))
      go_wp2_with fail
      go_roundw
      case rel => exact ⟨u + 1, by have := U64.out; omega, rfl, rfl, HF.out.drewN _⟩
      case measure => have := MS.out; simp [intOf]; omega
set_option maxHeartbeats 2000000 in
theorem both_th (b c n bx : Nat) (r s : Rn) (w : World) (hr : RelAt w b n r) (hs : RelAt w c n s) (hb : w.cell? ⟨bx, 0, none⟩ = some (.pointer (some ⟨c, 0, none⟩))) (hbl : bx < w.heap.size) (hT : Tab w) : Calls Tryd.prog 50 #[.pointer (some ⟨b, 0, none⟩), .pointer (some ⟨c, 0, none⟩), .func (.func 51) #[] #[.pointer (some ⟨bx, 0, none⟩)]] w (BothTo w n (thenR r s)) := by
  have HR := Lib.hid hr
  have HS := Lib.hid hs
  have HT := Lib.hid hT
  have HB : Hid (∀ W, Fr Nil w W → W.cell? ⟨bx, 0, none⟩ = some (.pointer (some ⟨c, 0, none⟩)) ∧ bx < W.heap.size) := Lib.hid fun W hW => ⟨(hW.cell (p := ⟨bx, 0, none⟩) hbl id).trans hb, Nat.lt_of_lt_of_le hbl hW.size⟩
  have QK := Lib.hid (thenR_ok hr.ok hs.ok)
  have c0 := hr.n_c
  have d0 := hs.n_c
  have n64 : (n : Int) ≤ 64 := by have := hr.n64; omega
  have hne : ((n : Int) == (n : Int)) = true := by simp
  clear hr hs hT hb hbl
  go_enter Tryd.func50, Tryd.ntmps50
  go_upto_region 1 with fail
  go_quiet (fail)
  go_wp2_with fail
  have F0 := Lib.hid ((Fr.drewN (Fr.refl Nil w) nq).alloc (.cells (Tryd.zeroCells68.setIfInBounds 0 (.int .i64 (n : Int))) 68))
  have R0 := Lib.hid (show RelAt ((w.drewN nq).alloc (.cells (Tryd.zeroCells68.setIfInBounds 0 (.int .i64 (n : Int))) 68)) w.heap.size n noR from ⟨by rw [rcs_zero]; exact Blk.new (w.drewN nq) 68 _, HR.out.n64, fun a c hh => by cases hh⟩)
  generalize ((w.drewN nq).alloc (.cells (Tryd.zeroCells68.setIfInBounds 0 (.int .i64 (n : Int))) 68)) = w0 at *
  obtain ⟨g, hg⟩ : ∃ g, g = w.heap.size := ⟨_, rfl⟩
  rw [← hg] at R0 ⊢
  have HG := Lib.hid (Nat.le_of_eq hg.symm)
  clear hg c0 d0
  go_loopw [25] (fun i wr => ∃ k : Nat, k ≤ 64 ∧ i = .int .i64 (k : Int) ∧ RelAt wr g n (firR (thenR r s) k) ∧ Fr Nil w wr) (fun i _ => 64 - (intOf i).toNat)
  case atStart => exact ⟨0, by omega, rfl, by rw [firR_zero]; exact R0.out, F0.out⟩
  case round =>
    clear R0 F0
    obtain ⟨k, hk, rfl, hq, hf⟩ := hrel
    have HQ := Lib.hid hq
    have HF := Lib.hid hf
    clear hq hf
    by_cases hlt : k < 64
    · have HK := Lib.hid hlt
      have k64 : (k : Int) < 64 := by omega
      have c1 := (HR.out.fr0 HF.out).row_c hlt
      have c2 := (HS.out.fr0 HF.out).row_c hlt
      have SB := Lib.hid (fun W (hW : Fr Nil wr W) => th_ok (r k) (bw (s k) : Int) bx c n s W (HS.out.fr0 (HF.out.trans hW)) (HB.out W (HF.out.trans hW)).1 (HB.out W (HF.out.trans hW)).2 (HT.out.fr0 (HF.out.trans hW)))
      clear hk hlt
      have BG : b ≠ g := by have := HR.out.lt; have := HG.out; omega
      have CG : c ≠ g := by have := HS.out.lt; have := HG.out; omega
      have HKK : Hid (∀ W, Fr (One g) wr W → W.cell? ⟨b, 1 + k, none⟩ = some (.int .u64 (bw (r k) : Int)) ∧ W.cell? ⟨c, 1 + k, none⟩ = some (.int .u64 (bw (s k) : Int)) ∧ Fr (One g) wr W) := Lib.hid fun W hW => ⟨((HR.out.fr0 HF.out).fr hW BG).row_c HK.out, ((HS.out.fr0 HF.out).fr hW CG).row_c HK.out, hW⟩
      clear BG CG
      go_upto_region 7 with fail
      go_region_held3 (fun w' => w'.cell? ⟨b, 1 + k, none⟩ = some (.int .u64 (bw (r k) : Int)) ∧ w'.cell? ⟨c, 1 + k, none⟩ = some (.int .u64 (bw (s k) : Int)) ∧ Fr (One g) wr w') (first | exact HKK.out _ (Fr.refl _ _).drew | exact HKK.out _ G5.nil | exact HKK.out _ (G5.nil.set1 _)) (first | (go_at_call 51; refine (SB.out _ (Fr.refl Nil _).drew).mono ?_; rintro e w5 ⟨rfl, f5⟩; have G5 := ((Fr.refl Nil wr).drew).trans f5; have cg := (HQ.out.fr0 G5).row_c HK.out; have zg := (HQ.out.fr0 G5).blk.frozen (1 + k)) | fail)
      have R5 := Lib.hid ((HQ.out.fr0 G5).row_ (q := thenR r s) HK.out (firR_next _ _) QK.out)
      have F5 := Lib.hid ((HF.out.trans G5).setNew (g := g) (i := 1 + k) HG.out (.int .u64 (bw (thenR r s k) : Int)))
      have e1 : bw (acc (r k) s 64) = bw (thenR r s k) := rfl
      rw [e1]
      clear e1 G5 f5 cg zg HKK
      go_wp2_with fail
      go_roundw
      case rel => exact ⟨k + 1, HK.out, by go_num, R5.out, F5.out⟩
      case measure => have := HK.out; simp [intOf]; omega
    · obtain rfl : k = 64 := by omega
      have E := firR_all QK.out HR.out.n64
      rw [E] at HQ
      clear hk hlt E
      go_wp2_with fail
      go_ret2
      exact ⟨g, rfl, HQ.out, HF.out, HG.out⟩
theorem then_ok (b c n : Nat) (r s : Rn) (w : World) (hr : RelAt w b n r) (hs : RelAt w c n s) (hT : Tab w) : Calls Tryd.prog 22 #[.pointer (some ⟨b, 0, none⟩), .pointer (some ⟨c, 0, none⟩)] w (BothTo w n (thenR r s)) := by
  have FA := Lib.hid ((Fr.refl Nil w).alloc (.cells #[.pointer (some ⟨c, 0, none⟩)] 24))
  have B := Lib.hid (both_th b c n w.heap.size r s (w.alloc (.cells #[.pointer (some ⟨c, 0, none⟩)] 24)) (hr.fr0 FA.out) (hs.fr0 FA.out) (cell_one_new w (.pointer (some ⟨c, 0, none⟩)) 24 0 _ rfl) (by show w.heap.size < (w.heap.push _).size; rw [Array.size_push]; exact Nat.lt_succ_self _) (hT.fr0 FA.out))
  clear hr hs hT
  go_enter Tryd.func22, Tryd.ntmps22
  go_wp2_with fail
  refine B.out.mono ?_
  rintro e w2 ⟨g, rfl, h2, f2, h3⟩
  have H2 := Lib.hid h2
  have F2 := Lib.hid (FA.out.trans f2)
  have H3 := Lib.hid (Nat.le_trans FA.out.size h3)
  clear h2 f2 h3 B FA
  go_wp2_with fail
  go_ret2
  exact ⟨g, rfl, H2.out, F2.out, H3.out⟩
end Go.Proofs.YtpcpjmbfinpmlaaDoor
