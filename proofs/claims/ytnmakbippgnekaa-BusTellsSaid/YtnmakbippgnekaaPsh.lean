/- Push of the library's heap, with what waits. -/
import Derived.Test.YtnmakbippgnekaaPop
import Derived.Deep.RegionLaw
set_option linter.unusedSimpArgs false
set_option linter.unusedSectionVars false
namespace Go.Proofs.Ytnmakbippgnekaa
open Go.RowKit
set_option linter.unusedVariables false
set_option maxRecDepth 100000

def UpTo (w : World) (g off N cap : Nat) (V' : Nat → Mo) (e : Ending) (w' : World) : Prop :=
  e = .returned (.tuple #[]) ∧ Fr (One g) w w' ∧ Win w' 96 2 (.slice (some ⟨g, off, none⟩) N cap) N (rows (mo V') N)
set_option maxHeartbeats 2000000 in
theorem up_ok (A g off N cap j0 : Nat) (V : Nat → Mo) (w : World) (hA : Blk w A 104 #[.slice (some ⟨g, off, none⟩) N cap]) (hw : Win w 96 2 (.slice (some ⟨g, off, none⟩) N cap) N (rows (mo V) N)) (hN : N ≤ 100) (hj : j0 < N) :
    Calls Try.prog 73 #[.iface 106 (.pointer (some ⟨A, 0, none⟩)), .int .i64 (j0 : Int)] w (UpTo w g off N cap (upF ltM N V j0)) := by
  have hne : A ≠ g := fun e => by
    have := hw.ne hA (by decide)
    exact this (by rw [← e]; rfl)
  have HA := Lib.hid hA
  have HW := Lib.hid hw
  have HNE := Lib.hid hne
  have HN := Lib.hid (And.intro hN hj)
  clear hA hw hne hN hj
  go_enter Try.func73, Try.ntmps73
  go_wp2_with fail
  go_loopw [1] (fun i wr => ∃ (k f : Nat) (V' : Nat → Mo), i = .int .i64 (k : Int) ∧ k < N ∧ k < f ∧ Fr (One g) w wr ∧ Hid (Win wr 96 2 (.slice (some ⟨g, off, none⟩) N cap) N (rows (mo V') N)) ∧ Hid (upF ltM f V' k = upF ltM N V j0)) (fun i _ => (intOf i).toNat)
  case atStart => exact ⟨j0, N, V, rfl, HN.out.2, HN.out.2, Fr.refl _ _, HW, Lib.hid rfl⟩
  case round =>
    obtain ⟨k, f, V', rfl, hk, hf, fr, WN, EQ⟩ := hrel
    have hA := HA.out.fr1 fr HNE.out
    have FR := Lib.hid fr
    have HF := Lib.hid hf
    have ca := hA.cellv (i := 0) rfl
    have ms := run_method_val 235 "Less" 97 row_less A _ _ _ wr ca
    clear fr hf
    obtain ⟨f', rfl⟩ : ∃ f', f = f' + 1 := ⟨f - 1, by have := HF.out; omega⟩
    rcases Nat.eq_zero_or_pos k with h0 | h0
    · have hst := upF_stay (lt := ltM) (f := f') (V := V') (j := k) (.inl h0)
      have E := Lib.hid (hst.symm.trans EQ.out)
      clear hst EQ
      have hk0 : (k : Int) = 0 := by omega
      rw [hk0]
      clear hk0
      go_wp2_with fail
      go_end0
      exact ⟨rfl, FR.out, by rw [← E.out]; exact WN.out⟩
    · have k1 : (1 : Int) ≤ (k : Int) := by omega
      have k2 : (k : Int) ≤ 100 := by have := HN.out; omega
      obtain ⟨p, hp⟩ : ∃ p, (k - 1) / 2 = p := ⟨_, rfl⟩
      have e1 : ((k : Int) - 1) / 2 = (p : Int) := by omega
      have e2 : ((p : Int) == (k : Int)) = false := by simp; omega
      have hpk : p < N := by omega
      have LS := less_ok g off cap N V' k p wr WN.out hk hpk
      have HP := Lib.hid hp
      cases hl : ltM (V' k) (V' p) with
      | false =>
        rw [hl] at LS
        have LS' := Lib.hid LS
        have hst := upF_stay (lt := ltM) (f := f') (V := V') (j := k) (.inr (by rw [hp]; exact hl))
        have E := Lib.hid (hst.symm.trans EQ.out)
        clear hst EQ LS hl hp
        go_wp2_with fail
        refine LS'.out.mono ?_
        rintro e w4 ⟨rfl, f4⟩
        have W4 := Lib.hid (WN.out.fr f4 fun _ _ => id)
        have F4 := Lib.hid (FR.out.trans f4.nil)
        clear f4
        go_wp2_with fail
        go_end0
        exact ⟨rfl, F4.out, by rw [← E.out]; exact W4.out⟩
      | true =>
        rw [hl] at LS
        have LS' := Lib.hid LS
        have hgo := upF_go (lt := ltM) (f := f') (V := V') (j := k) (by omega) (by rw [hp]; exact hl)
        rw [hp] at hgo
        have E := Lib.hid (hgo.symm.trans EQ.out)
        clear hgo EQ LS hl hp
        go_wp2_with fail
        refine LS'.out.mono ?_
        rintro e w4 ⟨rfl, f4⟩
        have W4 := Lib.hid (WN.out.fr f4 fun _ _ => id)
        have F4 := Lib.hid (FR.out.trans f4.nil)
        have ca4 := (hA.fr0 f4).cellv (i := 0) rfl
        have ms4 := run_method_val 235 "Swap" 98 row_swap A _ _ _ w4 ca4
        have SW := Lib.hid (swap_ok g off cap N V' p k w4 W4.out (frozen_win W4.out) hpk hk)
        clear f4 ms ca
        go_wp2_with fail
        refine SW.out.mono ?_
        rintro e w5 ⟨rfl, f5, w5w⟩
        have W5 := Lib.hid w5w
        have F5 := Lib.hid (F4.out.trans f5)
        clear f5 w5w SW ms4 ca4
        go_wp2_with fail
        go_roundw
        case rel => exact ⟨p, f', _, rfl, hpk, by have := HF.out; have := HP.out; omega, F5.out, W5, E⟩
        case measure => have := HP.out; simp [intOf]; omega
theorem Try.info96 : (Try.prog.info? 96).map (fun i => (i.zero, i.size, i.bytes)) = some (some (.agg #[.int .i64 0, .int .i64 0]), 2, 16) := by kernel_rfl
theorem news2 (w : World) (x y : Value) (t : TypeId) : ∀ j u, [x, y][j]? = some u → (w.alloc (.cells #[x, y] t)).cell? ((⟨w.heap.size, 0, none⟩ : Addr).add j) = some u := by
  intro j u hu
  rw [Addr.add_lit, Nat.zero_add]
  exact (Blk.new w t #[x, y]).cellv (by simpa using hu)
theorem run_assert74 (v : Value) (w : World) : (Instr.typeAssert (.iface 96 v) 20 96 false).run Try.prog w = .ok v w := by
  have hu := Try.underlying96
  simp [Instr.typeAssert, run_underlying hu, Sem.run_bind]
theorem row_push : mrow 106 "Push" = some (0, some (100, true)) := by kernel_rfl
/-- Blocks that a heap's slice turns. -/
def Hb (A : Nat) (v : Value) : Nat → Prop := fun k => k = A ∨ v.ownBlock = some k
/-- What one more at the end leaves. -/
def AddTo (w : World) (A n : Nat) (v : Value) (V : Nat → Mo) (e : Ending) (w' : World) : Prop :=
  e = .returned (.tuple #[]) ∧ ∃ g off cap, Fr (Hb A v) w w' ∧ Blk w' A 104 #[.slice (some ⟨g, off, none⟩) (n + 1) cap] ∧ Win w' 96 2 (.slice (some ⟨g, off, none⟩) (n + 1) cap) (n + 1) (rows (mo V) (n + 1)) ∧ (v.ownBlock = some g ∨ w.heap.size ≤ g)
theorem rows_more (V : Nat → Mo) (n : Nat) (m : Mo) : rows (mo (upd V n m)) (n + 1) = rows (mo V) n ++ [.int .i64 m.2, .int .i64 m.1] := by
  rw [rows_succ]
  congr 1
  · exact rows_congr fun i hi => by unfold mo; rw [upd_other _ _ (by omega)]
  · unfold mo; rw [upd_same]
set_option maxHeartbeats 2000000 in
theorem lpush_ok (A n : Nat) (v : Value) (V : Nat → Mo) (m : Mo) (w : World) (hA : Blk w A 104 #[v]) (hw : Win w 96 2 v n (rows (mo V) n)) (hN : n ≤ 100) :
    Calls Try.prog 100 #[.pointer (some ⟨A, 0, none⟩), .iface 96 (.agg #[.int .i64 m.2, .int .i64 m.1])] w (AddTo w A n v (upd V n m)) := by
  obtain ⟨ao, cp, rfl, hcp, hmx, _⟩ := hw.shape
  obtain ⟨i74, hi, hz0, hz1, hz2⟩ := info_parts Try.info96
  have hne := hw.ne hA (by decide)
  have ta := run_assert74 (.agg #[.int .i64 m.2, .int .i64 m.1])
  have HA := Lib.hid hA
  have HW := Lib.hid hw
  have HNE := Lib.hid hne
  have cA : w.cell? ⟨A, 0, none⟩ = some (.slice ao n cp) := hA.cellv rfl
  have cA2 : (w.alloc (.cells #[.int .i64 m.2, .int .i64 m.1] 96)).cell? ⟨A, 0, none⟩ = some (.slice ao n cp) := (hA.alloc _).cellv rfl
  clear hA hw hne
  go_enter Try.func100, Try.ntmps100
  go_wp2_with fail
  go_region_law (refine step_append_win _ rfl (.tmp 7) (.tmp 10) 104 rfl 96 i74 _ 2 16 Try.underlying104 hi hz0 hz1 hz2 rfl (by decide) _ _ _ rfl (HW.out.drew.alloc _) ⟨w.heap.size, 0, none⟩ 1 1 [.int .i64 m.2, .int .i64 m.1] rfl rfl (news2 w.drew _ _ _) (by simp [Value.oneCell']) (by omega) (by simp only [maxLen]; omega) (by omega) (w.heap.size + 1) (by simp) ?_; intro g off' cap' w3 hw3 hgr hat; have hgr' := Lib.hid (show w.grownBy w3 (Value.slice ao n cp).ownBlock from (let h := (World.grownBy_alloc w.drew _ _).trans hgr; ⟨h.os, h.tape, h.output, h.size, h.block⟩)); have HAT := Lib.hid hat; have W3 := Lib.hid hw3; have hb3 := HA.out.grown hgr'.out (Ne.symm HNE.out); have B3 := Lib.hid hb3; have cB3 := hb3.cellv (i := 0) rfl; have fB3 := hb3.frozen 0; clear hgr hat hw3 hb3)
  all_goals
    go_wp2_with fail
    go_end0
    refine ⟨rfl, g, off', cap', ((Fr.refl _ w).grown hgr'.out (fun k hk => .inl (.inr hk))).setCell (p := ⟨A, 0, none⟩) (.inl (.inl rfl)) _, B3.out.set_ 0 _, ?_, ?_⟩
    · rw [rows_more]
      exact W3.out.far (g := A) (i := 0) (W3.out.ne B3.out (by decide)) _
    · exact HAT.out.imp id (fun h => by omega)
/-- What Push of the heap leaves. -/
def PushTo (w : World) (A n : Nat) (v : Value) (V : Nat → Mo) (m : Mo) (e : Ending) (w' : World) : Prop :=
  e = .returned (.tuple #[]) ∧ ∃ g off cap V', Fr (Hb A v) w w' ∧ Blk w' A 104 #[.slice (some ⟨g, off, none⟩) (n + 1) cap] ∧ Win w' 96 2 (.slice (some ⟨g, off, none⟩) (n + 1) cap) (n + 1) (rows (mo V') (n + 1)) ∧ (v.ownBlock = some g ∨ w.heap.size ≤ g) ∧ Hp ltM V' 0 (n + 1) ∧ Perm (n + 1) (upd V n m) V'
set_option maxHeartbeats 2000000 in
theorem hpush_ok (A n : Nat) (v : Value) (V : Nat → Mo) (m : Mo) (w : World) (hA : Blk w A 104 #[v]) (hw : Win w 96 2 v n (rows (mo V) n)) (hp : Hp ltM V 0 n) (hN : n ≤ 99) :
    Calls Try.prog 61 #[.iface 106 (.pointer (some ⟨A, 0, none⟩)), .iface 96 (.agg #[.int .i64 m.2, .int .i64 m.1])] w (PushTo w A n v V m) := by
  have ms := run_method_ptr 235 "Push" 100 row_push A w
  have LP := Lib.hid (lpush_ok A n v V m w hA hw (by omega))
  have HP := Lib.hid hp
  have b1 : (n : Int) ≤ 99 := by omega
  have HN := Lib.hid hN
  clear hA hw hp hN
  go_enter Try.func61, Try.ntmps61
  go_wp2_with fail
  refine LP.out.mono ?_
  rintro e w2 ⟨rfl, g, off, cap, f2, b2, w2w, at2⟩
  have F2 := Lib.hid f2
  have B2 := Lib.hid b2
  have W2 := Lib.hid w2w
  have AT2 := Lib.hid at2
  have ca := b2.cellv (i := 0) rfl
  have ms2 := run_method_val 235 "Len" 96 row_len A _ _ _ w2 ca
  have LN := Lib.hid (len_ok (some ⟨g, off, none⟩) (n + 1) cap w2)
  have UP := Lib.hid (up_ok A g off (n + 1) cap n (upd V n m) w2 b2 w2w (by have := HN.out; omega) (by omega))
  clear f2 b2 w2w at2 ms
  go_wp2_with fail
  refine LN.out.mono ?_
  rintro e w3 ⟨rfl, rfl⟩
  go_wp2_with fail
  refine UP.out.mono ?_
  rintro e w4 ⟨rfl, f4, w4w⟩
  have F4 := Lib.hid f4
  have W4 := Lib.hid w4w
  clear f4 w4w ca ms2
  go_wp2_with fail
  go_end0
  refine ⟨rfl, g, off, cap, _, ?_, ?_, W4.out, AT2.out, upF_hp ordM (n + 1) (n + 1) _ n (by omega) (by omega) (HP.out.snoc fun k hk => upd_other _ _ (by omega)), upF_perm (n + 1) (n + 1) _ n (by omega)⟩
  · refine F2.out.step F4.out fun i hi hs => ?_
    rcases AT2.out with h | h
    · exact .inl (.inr (by cases hs; exact h))
    · exact .inr (by cases hs; exact h)
  · exact B2.out.fr1 F4.out fun e => W2.out.ne B2.out (by decide) (by rw [e]; rfl)
end Go.Proofs.Ytnmakbippgnekaa
