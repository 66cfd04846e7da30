/- The document's answer: a count, two slices. -/
import Derived.Test.YtoehhbcocecibaaKnow
namespace Go.Proofs.Ytoehhbcocecibaa
open Go.RowKit
set_option linter.unusedVariables false
set_option maxRecDepth 100000

def cA (s : Ts) : Array Value := ((List.range s.n).map fun i => Value.int .u64 (s.c i : Int)).toArray
def vA (s : Ts) : Array Value := ((List.range s.n).map fun i => Value.int .u64 (s.v i)).toArray
def qA (gc gv : Nat) (s : Ts) : Array Value := #[.int .u64 s.t, .slice (some ⟨gc, 0, none⟩) s.n s.n, .slice (some ⟨gv, 0, none⟩) s.n s.n]
theorem cA_get (s : Ts) {i : Nat} (hi : i < s.n) : (cA s)[i]? = some (.int .u64 (s.c i : Int)) := by
  unfold cA
  rw [List.getElem?_toArray, List.getElem?_map, List.getElem?_range hi]
  rfl
theorem vA_get (s : Ts) {i : Nat} (hi : i < s.n) : (vA s)[i]? = some (.int .u64 (s.v i)) := by
  unfold vA
  rw [List.getElem?_toArray, List.getElem?_map, List.getElem?_range hi]
  rfl
theorem cA_set (s : Ts) (k x : Nat) : (cA s).setIfInBounds k (.int .u64 (x : Int)) = cA { s with c := upd s.c k x } := by
  unfold cA
  rw [map_range_set]
  congr 1
  refine List.map_congr_left fun i _ => ?_
  by_cases h : i = k
  · subst h; simp [upd_same]
  · simp [upd_other _ _ h]
theorem vA_set (s : Ts) (k : Nat) (x : Int) : (vA s).setIfInBounds k (.int .u64 x) = vA { s with v := upd s.v k x } := by
  unfold vA
  rw [map_range_set]
  congr 1
  refine List.map_congr_left fun i _ => ?_
  by_cases h : i = k
  · subst h; simp [upd_same]
  · simp [upd_other _ _ h]
structure RfAt (w : World) (q gc gv : Nat) (s : Ts) : Prop where
  top : Blk w q 42 (qA gc gv s)
  ctl : Blk w gc 30 (cA s)
  cvl : Blk w gv 30 (vA s)
  ne : gc ≠ gv
def Three (q gc gv : Nat) (i : Nat) : Prop := i = q ∨ i = gc ∨ i = gv
theorem RfAt.fr {w w' : World} {q gc gv : Nat} {s : Ts} {S : Nat → Prop} (h : RfAt w q gc gv s) (hf : Fr S w w') (h1 : ¬ S q) (h2 : ¬ S gc) (h3 : ¬ S gv) : RfAt w' q gc gv s := ⟨h.top.fr hf h1, h.ctl.fr hf h2, h.cvl.fr hf h3, h.ne⟩
theorem RfAt.fr0 {w w' : World} {q gc gv : Nat} {s : Ts} (h : RfAt w q gc gv s) (hf : Fr Nil w w') : RfAt w' q gc gv s := h.fr hf id id id
section
variable {w : World} {q gc gv : Nat} {s : Ts} (h : RfAt w q gc gv s)
include h
theorem RfAt.nc : q ≠ gc := h.top.ne_ h.ctl (by decide)
theorem RfAt.nv : q ≠ gv := h.top.ne_ h.cvl (by decide)
theorem RfAt.q0 : w.cell? ⟨q, 0, none⟩ = some (.int .u64 s.t) := h.top.cellv rfl
theorem RfAt.q1 : w.cell? ⟨q, 1, none⟩ = some (.slice (some ⟨gc, 0, none⟩) s.n s.n) := h.top.cellv rfl
theorem RfAt.q2 : w.cell? ⟨q, 2, none⟩ = some (.slice (some ⟨gv, 0, none⟩) s.n s.n) := h.top.cellv rfl
theorem RfAt.cc {i : Nat} (hi : i < s.n) : w.cell? ⟨gc, i, none⟩ = some (.int .u64 (s.c i : Int)) := h.ctl.cellv (cA_get s hi)
theorem RfAt.cv {i : Nat} (hi : i < s.n) : w.cell? ⟨gv, i, none⟩ = some (.int .u64 (s.v i)) := h.cvl.cellv (vA_get s hi)
end
theorem there_ok (q gc gv : Nat) (s : Ts) (i : Int) (w : World) (hm : RfAt w q gc gv s) : Calls Try.prog 24 #[.pointer (some ⟨q, 0, none⟩), .int .i64 i] w fun e w' => e = .returned (.bool (decide (0 ≤ i ∧ i < s.n))) ∧ w = w' := by
  have c1 := hm.q1
  clear hm
  generalize s.n = n at *
  by_cases h0 : 0 ≤ i
  · by_cases h1 : i < n
    · rw [decide_eq_true (⟨h0, h1⟩ : 0 ≤ i ∧ i < n)]
      go_enter Try.func24, Try.ntmps24
      go_wp2
      go_ret
      exact ⟨by simp <;> omega, rfl⟩
    · rw [decide_eq_false (fun h => h1 h.2)]
      have h2 : (n : Int) ≤ i := by omega
      clear h1
      go_enter Try.func24, Try.ntmps24
      go_wp2
      go_ret
      exact ⟨by simp <;> omega, rfl⟩
  · rw [decide_eq_false (fun h => h0 h.1)]
    have h2 : i < 0 := by omega
    clear h0
    go_enter Try.func24, Try.ntmps24
    go_wp2
    go_ret
    exact ⟨by simp <;> omega, rfl⟩
theorem rread_ok (q gc gv : Nat) (s : Ts) (i : Int) (sys : Int) (w : World) (hm : RfAt w q gc gv s) (hg : Right s) : Calls Try.prog 12 #[.pointer (some ⟨q, 0, none⟩), .int .i64 i, .int .i64 sys] w fun e w' => e = .returned (.tuple #[.int .u64 (rdV s i sys).1, .int .i64 (rdV s i sys).2]) ∧ Fr Nil w w' := by
  have th := there_ok q gc gv s i w hm
  unfold rdV
  by_cases h : 0 ≤ i ∧ i < s.n
  · rw [if_pos h]
    rw [decide_eq_true h] at th
    have OF := Lib.hid th
    obtain ⟨k, rfl⟩ : ∃ k : Nat, i = (k : Int) := ⟨i.toNat, by omega⟩
    have hk : k < s.n := by omega
    have k0 : (0 : Int) ≤ (k : Int) := by omega
    have kn : (k : Int) < (s.n : Int) := by omega
    have c0 := hm.q0
    have c1 := hm.q1
    have c2 := hm.q2
    have c3 := hm.cc hk
    have c4 := hm.cv hk
    have hb := bits1 _ (hg.c4 k hk)
    have hb4 := bits4 _ (hg.c4 k hk)
    have hc4 := hg.c4 k hk
    rw [Int.toNat_natCast]
    unfold ctlV
    clear hm hg th h hk
    generalize s.n = n at *
    generalize s.t = t at *
    generalize s.c k = c at *
    generalize s.v k = v at *
    by_cases h1 : sys = 24322
    · subst h1
      clear hb hb4 hc4 c3 c4
      go_enter Try.func12, Try.ntmps12
      go_wp2_with fail
      refine OF.out.mono ?_
      rintro e w2 ⟨rfl, rfl⟩
      go_wp2_with fail
      go_ret2
      exact ⟨by simp, Fr.refl _ _⟩
    · rw [if_neg h1]
      have b1 : (sys == 24322) = false := by simp [h1]
      by_cases h2 : sys = 24345
      · subst h2
        clear h1 b1
        by_cases h3 : c % 2 = 1
        · rw [h3] at hb
          have hb' : bits .and .u64 (c : Int) 1 = 1 := hb
          clear hb
          by_cases h4 : v ≤ t
          · have e : cmB c t v = true := by simp [cmB, h3, h4]
            rw [e]
            clear e h3 hc4
            go_enter Try.func12, Try.ntmps12
            go_wp2_with fail
            refine OF.out.mono ?_
            rintro e w2 ⟨rfl, rfl⟩
            go_wp2_with fail
            go_quiet (fail)
            go_wp2_with fail
            go_ret2
            exact ⟨by simp, Fr.drewN (Fr.refl _ _) _⟩
          · have e : cmB c t v = false := by simp [cmB, h4]
            rw [e]
            have h5 : t < v := by omega
            clear e h3 h4 hb4 hc4
            go_enter Try.func12, Try.ntmps12
            go_wp2_with fail
            refine OF.out.mono ?_
            rintro e w2 ⟨rfl, rfl⟩
            go_wp2_with fail
            go_quiet (fail)
            go_wp2_with fail
            go_ret2
            exact ⟨by simp, Fr.drewN (Fr.refl _ _) _⟩
        · have h0 : c % 2 = 0 := by omega
          rw [h0] at hb
          have hb' : bits .and .u64 (c : Int) 1 = 0 := hb
          have e : cmB c t v = false := by simp [cmB, h0]
          rw [e]
          clear e h0 h3 hb hb4 hc4
          go_enter Try.func12, Try.ntmps12
          go_wp2_with fail
          refine OF.out.mono ?_
          rintro e w2 ⟨rfl, rfl⟩
          go_wp2_with fail
          go_quiet (fail)
          go_wp2_with fail
          go_ret2
          exact ⟨by simp, Fr.drewN (Fr.refl _ _) _⟩
      · rw [if_neg h2]
        have b2 : (sys == 24345) = false := by simp [h2]
        by_cases h3 : sys = 24346
        · subst h3
          clear h1 b1 h2 b2 hb hb4 hc4 c3
          go_enter Try.func12, Try.ntmps12
          go_wp2_with fail
          refine OF.out.mono ?_
          rintro e w2 ⟨rfl, rfl⟩
          go_wp2_with fail
          go_ret2
          exact ⟨by simp, Fr.refl _ _⟩
        · rw [if_neg h3]
          have b3 : (sys == 24346) = false := by simp [h3]
          clear h1 h2 h3 hb hb4 hc4 c3 c4
          go_enter Try.func12, Try.ntmps12
          go_wp2_with fail
          refine OF.out.mono ?_
          rintro e w2 ⟨rfl, rfl⟩
          go_wp2_with fail
          go_ret2
          exact ⟨rfl, Fr.refl _ _⟩
  · rw [if_neg h]
    rw [decide_eq_false h] at th
    have OF := Lib.hid th
    clear hm hg h th
    go_enter Try.func12, Try.ntmps12
    go_wp2_with fail
    refine OF.out.mono ?_
    rintro e w2 ⟨rfl, rfl⟩
    go_wp2_with fail
    go_ret2
    exact ⟨rfl, Fr.refl _ _⟩
def RfTo (w : World) (q gc gv : Nat) (s' : Ts) (v : Value) (e : Ending) (w' : World) : Prop := e = .returned v ∧ RfAt w' q gc gv s' ∧ Fr (Three q gc gv) w w'
theorem Fr.wide {w w' : World} {S S' : Nat → Prop} (h : Fr S w w') (hs : ∀ i, S i → S' i) : Fr S' w w' := ⟨h.os, h.tape, h.output, h.size, fun k hk hn => h.block k hk fun h2 => hn (hs k h2)⟩
theorem rwrite_ok (q gc gv : Nat) (s : Ts) (i sys x : Int) (w : World) (hm : RfAt w q gc gv s) (x0 : 0 ≤ x) (x1 : x ≤ 18446744073709551615) : Calls Try.prog 13 #[.pointer (some ⟨q, 0, none⟩), .int .i64 i, .int .i64 sys, .int .u64 x] w (RfTo w q gc gv (wrS s i sys x) (.int .i64 (wrV s i sys))) := by
  have th := there_ok q gc gv s i w hm
  unfold wrS wrV
  by_cases h : 0 ≤ i ∧ i < s.n
  · rw [if_pos h]
    rw [decide_eq_true h] at th
    have OF := Lib.hid th
    obtain ⟨k, rfl⟩ : ∃ k : Nat, i = (k : Int) := ⟨i.toNat, by omega⟩
    have hk : k < s.n := by omega
    have k0 : (0 : Int) ≤ (k : Int) := by omega
    have kn : (k : Int) < (s.n : Int) := by omega
    have c1 := hm.q1
    have c2 := hm.q2
    have c3 := hm.cc hk
    have c4 := hm.cv hk
    have f3 := hm.ctl.frozen k
    have f4 := hm.cvl.frozen k
    rw [Int.toNat_natCast]
    by_cases h1 : sys = 24345
    · subst h1
      rw [if_pos rfl, if_pos (⟨h, .inl rfl⟩ : (0 ≤ (k : Int) ∧ (k : Int) < (s.n : Int)) ∧ ((24345 : Int) = 24345 ∨ (24345 : Int) = 24346))]
      have hb := bits3 x x0 x1
      obtain ⟨y, hy⟩ : ∃ y : Nat, x % 4 = (y : Int) := ⟨(x % 4).toNat, by omega⟩
      rw [hy] at hb
      have M2 := Lib.hid (show RfAt (w.setCell ⟨gc, k, none⟩ (.int .u64 (y : Int))) q gc gv { s with c := upd s.c k y } from ⟨hm.top.farc hm.nc _, (hm.ctl.set_ _ _).cast (cA_set s k y), hm.cvl.farc (Ne.symm hm.ne) _, hm.ne⟩)
      have hy2 : (x % 4).toNat = y := by omega
      rw [hy2]
      clear hm h hk hy hy2 th c4 f4
      go_enter Try.func13, Try.ntmps13
      go_wp2_with fail
      refine OF.out.mono ?_
      rintro e w2 ⟨rfl, rfl⟩
      go_wp2_with fail
      go_ret
      exact ⟨rfl, M2.out, ((Fr.refl (One gc) _).set1 _).wide fun i h => .inr (.inl h)⟩
    · rw [if_neg h1]
      have b1 : (sys == 24345) = false := by simp [h1]
      have b1' : (sys != 24345) = true := by simp [h1]
      by_cases h2 : sys = 24346
      · subst h2
        rw [if_pos rfl, if_pos (⟨h, .inr rfl⟩ : (0 ≤ (k : Int) ∧ (k : Int) < (s.n : Int)) ∧ ((24346 : Int) = 24345 ∨ (24346 : Int) = 24346))]
        have M2 := Lib.hid (show RfAt (w.setCell ⟨gv, k, none⟩ (.int .u64 x)) q gc gv { s with v := upd s.v k x } from ⟨hm.top.farc hm.nv _, hm.ctl.farc hm.ne _, (hm.cvl.set_ _ _).cast (vA_set s k x), hm.ne⟩)
        clear hm h hk h1 th c3 f3
        go_enter Try.func13, Try.ntmps13
        go_wp2_with fail
        refine OF.out.mono ?_
        rintro e w2 ⟨rfl, rfl⟩
        go_wp2_with fail
        go_ret
        exact ⟨rfl, M2.out, ((Fr.refl (One gv) _).set1 _).wide fun i h => .inr (.inr h)⟩
      · rw [if_neg h2, if_neg (by rintro ⟨_, h | h⟩; exact h1 h; exact h2 h)]
        have b2 : (sys == 24346) = false := by simp [h2]
        have b2' : (sys != 24346) = true := by simp [h2]
        have M2 := Lib.hid hm
        clear hm h hk h1 h2 th
        go_enter Try.func13, Try.ntmps13
        go_wp2_with fail
        refine OF.out.mono ?_
        rintro e w2 ⟨rfl, rfl⟩
        go_wp2_with fail
        go_ret
        exact ⟨rfl, M2.out, Fr.refl _ _⟩
  · rw [if_neg h, if_neg (fun h' => h h'.1)]
    rw [decide_eq_false h] at th
    have OF := Lib.hid th
    have M2 := Lib.hid hm
    clear hm h th
    go_enter Try.func13, Try.ntmps13
    go_wp2_with fail
    refine OF.out.mono ?_
    rintro e w2 ⟨rfl, rfl⟩
    go_wp2_with fail
    go_ret
    exact ⟨rfl, M2.out, Fr.refl _ _⟩
theorem rhigh_ok (q gc gv : Nat) (s : Ts) (i : Int) (w : World) (hm : RfAt w q gc gv s) (hg : Right s) : Calls Try.prog 16 #[.pointer (some ⟨q, 0, none⟩), .int .i64 i] w fun e w' => e = .returned (.bool (hiB s i)) ∧ Fr Nil w w' := by
  have th := there_ok q gc gv s i w hm
  unfold hiB
  by_cases h : 0 ≤ i ∧ i < s.n
  · rw [decide_eq_true h] at th ⊢
    have OF := Lib.hid th
    obtain ⟨k, rfl⟩ : ∃ k : Nat, i = (k : Int) := ⟨i.toNat, by omega⟩
    have hk : k < s.n := by omega
    have k0 : (0 : Int) ≤ (k : Int) := by omega
    have kn : (k : Int) < (s.n : Int) := by omega
    have c0 := hm.q0
    have c1 := hm.q1
    have c2 := hm.q2
    have c3 := hm.cc hk
    have c4 := hm.cv hk
    rw [Int.toNat_natCast, Bool.true_and]
    clear hm hg th h hk
    generalize s.n = n at *
    generalize s.t = t at *
    generalize s.c k = c at *
    generalize s.v k = v at *
    by_cases h1 : c = 1
    · subst h1
      by_cases h2 : v ≤ t
      · have e : (decide ((1 : Nat) = 1) && decide (v ≤ t)) = true := by simp [h2]
        rw [e]
        clear e
        go_enter Try.func16, Try.ntmps16
        go_wp2_with fail
        refine OF.out.mono ?_
        rintro e w2 ⟨rfl, rfl⟩
        go_wp2_with fail
        go_quiet (fail)
        go_wp2_with fail
        go_ret
        exact ⟨by simp <;> omega, Fr.drewN (Fr.refl _ _) _⟩
      · have e : (decide ((1 : Nat) = 1) && decide (v ≤ t)) = false := by simp [h2]
        rw [e]
        have h3 : t < v := by omega
        clear e h2
        go_enter Try.func16, Try.ntmps16
        go_wp2_with fail
        refine OF.out.mono ?_
        rintro e w2 ⟨rfl, rfl⟩
        go_wp2_with fail
        go_quiet (fail)
        go_wp2_with fail
        go_ret
        exact ⟨by simp <;> omega, Fr.drewN (Fr.refl _ _) _⟩
    · have e : (decide (c = 1) && decide (v ≤ t)) = false := by simp [h1]
      rw [e]
      have b1 : ((c : Int) == 1) = false := by simp; omega
      clear e h1
      go_enter Try.func16, Try.ntmps16
      go_wp2_with fail
      refine OF.out.mono ?_
      rintro e w2 ⟨rfl, rfl⟩
      go_wp2_with fail
      go_quiet (fail)
      go_wp2_with fail
      go_ret
      exact ⟨by simp <;> omega, Fr.drewN (Fr.refl _ _) _⟩
  · rw [decide_eq_false h] at th ⊢
    have OF := Lib.hid th
    clear hm hg h th
    go_enter Try.func16, Try.ntmps16
    go_wp2_with fail
    refine OF.out.mono ?_
    rintro e w2 ⟨rfl, rfl⟩
    go_wp2_with fail
    go_quiet (fail)
    go_wp2_with fail
    go_ret
    exact ⟨by simp, Fr.drewN (Fr.refl _ _) _⟩
/-- The best so far. -/
def BestR (s : Ts) (k : Nat) (x : Int) : Prop := (x = -1 ∧ ∀ i, i < k → candB s i = false) ∨ (∃ m : Nat, x = (m : Int) ∧ m < k ∧ candB s m = true ∧ ∀ i, i < k → candB s i = true → ltM (s.v i, (i : Int)) (s.v m, (m : Int)) = false)
theorem BestR.skip {s : Ts} {k : Nat} {x : Int} (h : BestR s k x) (hc : candB s k = false) : BestR s (k + 1) x := by
  rcases h with ⟨rfl, h⟩ | ⟨m, rfl, hm, h1, h2⟩
  · refine .inl ⟨rfl, fun i hi => ?_⟩
    by_cases e : i = k
    · rw [e]; exact hc
    · exact h i (by omega)
  · refine .inr ⟨m, rfl, by omega, h1, fun i hi hci => ?_⟩
    by_cases e : i = k
    · rw [e, hc] at hci; cases hci
    · exact h2 i (by omega) hci
theorem BestR.first {s : Ts} {k : Nat} (h : BestR s k (-1)) (hc : candB s k = true) : BestR s (k + 1) (k : Int) := by
  rcases h with ⟨_, h⟩ | ⟨m, hm, _⟩
  · refine .inr ⟨k, rfl, by omega, hc, fun i hi hci => ?_⟩
    by_cases e : i = k
    · rw [e]; exact ordM.irr _
    · rw [h i (by omega)] at hci; cases hci
  · omega
theorem BestR.less {s : Ts} {k m : Nat} (h : BestR s k (m : Int)) (hc : candB s k = true) (hv : s.v k < s.v m) : BestR s (k + 1) (k : Int) := by
  rcases h with ⟨h, _⟩ | ⟨m', hm, h0, h1, h2⟩
  · omega
  · obtain rfl : m = m' := by omega
    refine .inr ⟨k, rfl, by omega, hc, fun i hi hci => ?_⟩
    by_cases e : i = k
    · rw [e]; exact ordM.irr _
    · have := h2 i (by omega) hci
      simp only [ltM, decide_eq_false_iff_not] at this ⊢
      omega
theorem BestR.stay {s : Ts} {k m : Nat} (h : BestR s k (m : Int)) (hv : s.v m ≤ s.v k) : BestR s (k + 1) (m : Int) := by
  rcases h with ⟨h, _⟩ | ⟨m', hm, h0, h1, h2⟩
  · omega
  · obtain rfl : m = m' := by omega
    refine .inr ⟨m, rfl, by omega, h1, fun i hi hci => ?_⟩
    by_cases e : i = k
    · rw [e]; simp only [ltM, decide_eq_false_iff_not]; omega
    · exact h2 i (by omega) hci
set_option maxHeartbeats 2000000 in
theorem rnext_ok (q gc gv : Nat) (s : Ts) (w : World) (hm : RfAt w q gc gv s) (hg : Right s) : Calls Try.prog 19 #[.pointer (some ⟨q, 0, none⟩)] w (NextTo w s) := by
  have HM := Lib.hid hm
  have HG := Lib.hid hg
  have hn8 : (s.n : Int) ≤ 8 := by have := hg.n8; omega
  clear hm hg
  go_enter Try.func19, Try.ntmps19
  go_wp2_with fail
  go_loopw [5, 6] (fun x i wr => ∃ (k : Nat) (y : Int), i = .int .i64 (k : Int) ∧ k ≤ s.n ∧ x = .int .i64 y ∧ BestR s k y ∧ Fr Nil w wr) (fun _ i _ => s.n - (intOf i).toNat)
  case atStart => exact ⟨0, -1, rfl, by omega, rfl, .inl ⟨rfl, fun i hi => absurd hi (by omega)⟩, Fr.refl _ _⟩
  case round =>
    obtain ⟨k, y, rfl, hk, rfl, hb, fr⟩ := hrel
    have HB := Lib.hid hb
    have FR := Lib.hid fr
    have HR := Lib.hid (HM.out.fr0 fr)
    have c0 := HR.out.q0
    have c1 := HR.out.q1
    have c2 := HR.out.q2
    have k0 : (0 : Int) ≤ (k : Int) := by omega
    clear hb fr HM
    by_cases hkn : k < s.n
    · have c3 := HR.out.cc hkn
      have c4 := HR.out.cv hkn
      have k1 : (k : Int) < (s.n : Int) := by omega
      have KN := Lib.hid hkn
      have hc : candB s k = (decide (s.c k = 1) && decide (s.t < s.v k)) := rfl
      by_cases h1 : s.c k = 1
      · rw [h1] at c3 hc
        by_cases h2 : s.t < s.v k
        · have HC := Lib.hid (show candB s k = true by rw [hc]; simp [h2])
          clear hc
          rcases HB.out with ⟨hy, _⟩ | ⟨m, hy, hmk, _, _⟩
          · subst hy
            clear hkn hk h1
            go_wp2_with fail
            go_quiet (fail)
            go_wp2_with fail
            go_roundw
            case rel => first | exact ⟨k + 1, (k : Int), by simp, KN.out, rfl, HB.out.first HC.out, Fr.drewN FR.out _⟩ | ((repeat apply Exists.intro); exact ⟨⟨k + 1, (k : Int), (show Value.int .i64 ((k : Int) + 1) = .int .i64 ((k + 1 : Nat) : Int) by simp), KN.out, rfl, HB.out.first HC.out, Fr.drewN FR.out _⟩, rfl⟩)
            case measure => have := KN.out; simp [intOf]; omega
          · subst hy
            have c5 := HR.out.cv (i := m) (by omega)
            have m0 : (0 : Int) ≤ (m : Int) := by omega
            have m1 : (m : Int) < (s.n : Int) := by omega
            by_cases h3 : s.v k < s.v m
            · have HN := Lib.hid (HB.out.less HC.out h3)
              clear hkn hk h1 hmk
              go_wp2_with fail
              go_quiet (fail)
              go_wp2_with fail
              go_roundw
              case rel => first | exact ⟨k + 1, (k : Int), by simp, KN.out, rfl, HN.out, Fr.drewN FR.out _⟩ | ((repeat apply Exists.intro); exact ⟨⟨k + 1, (k : Int), (show Value.int .i64 ((k : Int) + 1) = .int .i64 ((k + 1 : Nat) : Int) by simp), KN.out, rfl, HN.out, Fr.drewN FR.out _⟩, rfl⟩)
              case measure => have := KN.out; simp [intOf]; omega
            · have h4 : s.v m ≤ s.v k := by omega
              have HN := Lib.hid (HB.out.stay h4)
              clear hkn hk h1 hmk h3
              go_wp2_with fail
              go_quiet (fail)
              go_wp2_with fail
              go_roundw
              case rel => first | exact ⟨k + 1, (m : Int), by simp, KN.out, rfl, HN.out, Fr.drewN FR.out _⟩ | ((repeat apply Exists.intro); exact ⟨⟨k + 1, (m : Int), (show Value.int .i64 ((k : Int) + 1) = .int .i64 ((k + 1 : Nat) : Int) by simp), KN.out, rfl, HN.out, Fr.drewN FR.out _⟩, rfl⟩)
              case measure => have := KN.out; simp [intOf]; omega
        · have HC := Lib.hid (show candB s k = false by rw [hc]; simp [h2])
          have h3 : decide (s.t < s.v k) = false := decide_eq_false h2
          clear hc hkn hk h1 h2
          go_wp2_with fail
          go_quiet (fail)
          go_wp2_with fail
          go_roundw
          case rel => first | exact ⟨k + 1, y, by simp, KN.out, rfl, HB.out.skip HC.out, Fr.drewN FR.out _⟩ | ((repeat apply Exists.intro); exact ⟨⟨k + 1, y, (show Value.int .i64 ((k : Int) + 1) = .int .i64 ((k + 1 : Nat) : Int) by simp), KN.out, rfl, HB.out.skip HC.out, Fr.drewN FR.out _⟩, rfl⟩)
          case measure => have := KN.out; simp [intOf]; omega
      · have HC := Lib.hid (show candB s k = false by rw [hc]; simp [h1])
        have b1 : ((s.c k : Int) == 1) = false := by simp; omega
        clear hc hkn hk h1
        obtain ⟨cz, hcz⟩ : ∃ cz : Int, (s.c k : Int) = cz := ⟨_, rfl⟩
        rw [hcz] at b1 c3
        clear hcz
        go_wp2_with fail
        go_quiet (fail)
        go_wp2_with fail
        go_roundw
        case rel => first | exact ⟨k + 1, y, by simp, KN.out, rfl, HB.out.skip HC.out, Fr.drewN FR.out _⟩ | ((repeat apply Exists.intro); exact ⟨⟨k + 1, y, (show Value.int .i64 ((k : Int) + 1) = .int .i64 ((k + 1 : Nat) : Int) by simp), KN.out, rfl, HB.out.skip HC.out, Fr.drewN FR.out _⟩, rfl⟩)
        case measure => have := KN.out; simp [intOf]; omega
    · have hke : k = s.n := by omega
      subst hke
      have k1 : decide (s.n < s.n) = false := by simp
      rcases HB.out with ⟨hy, hn⟩ | ⟨m, hy, hmk, hm1, hm2⟩
      · subst hy
        have HN := Lib.hid hn
        clear hkn hk hn
        go_wp2_with fail
        go_ret3
        exact ⟨0, 0, false, .inl ⟨rfl, rfl, rfl, HN.out⟩, rfl, FR.out⟩
      · subst hy
        have c5 := HR.out.cv hmk
        have m0 : (0 : Int) ≤ (m : Int) := by omega
        have m1 : (m : Int) < (s.n : Int) := by omega
        have w1 : IntKind.u64.wrap (s.v m - s.t) = s.v m - s.t := by
          have a1 := HG.out.t0
          have a2 := HG.out.v1 m hmk
          have : s.t < s.v m := by unfold candB at hm1; simp at hm1; exact hm1.2
          rw [IntKind.wrap_u64]; omega
        have HN := Lib.hid (And.intro hmk (And.intro hm1 hm2))
        clear hkn hk hmk hm1 hm2
        go_wp2_with fail
        go_quiet (fail)
        go_wp2_with fail
        go_ret3
        exact ⟨(m : Int), s.v m - s.t, true, .inr ⟨m, HN.out.1, HN.out.2.1, HN.out.2.2, rfl, rfl, rfl⟩, rfl, Fr.drewN FR.out _⟩
theorem Try.info30 : (Try.prog.info? 30).map (fun i => (i.zero, i.size, i.bytes)) = some (some (.int .u64 0), 1, 8) := by kernel_rfl
theorem made1 (a : Value) (n : Nat) : madeCells #[a] (n * 1) = ((List.range n).map fun _ => a).toArray := by
  apply Array.ext
  · simp [size_madeCells]
  · intro i h1 h2
    simp [madeCells, Nat.mod_one]
theorem make40 (n : Nat) (hn : n ≤ 8) (w : World) : (Instr.makeSlice 40 (.int .i64 (n : Int)) (.int .i64 (n : Int))).run Try.prog w = .ok (.slice (some ⟨w.heap.size, 0, none⟩) n n) (w.alloc (.cells ((List.range n).map fun _ => Value.int .u64 0).toArray 30)) := by
  obtain ⟨i, hi, hz0, hz1, hz2⟩ := info_parts Try.info30
  have := run_make (P := Try.prog) w 40 30 i _ Try.underlying40 hi hz0 .i64 .i64 n n (by omega) (by omega) (by rw [hz2]; omega) (by omega)
  rw [hz1, Int.toNat_natCast, show (Value.int .u64 0).cells = #[.int .u64 0] from rfl, made1] at this
  exact this
set_option maxHeartbeats 2000000 in
theorem rnew_ok (n : Nat) (w : World) (h1 : 1 ≤ n) (h8 : n ≤ 8) : Calls Try.prog 9 #[.int .i64 (n : Int)] w fun e w' => ∃ q gc gv, e = .returned (.pointer (some ⟨q, 0, none⟩)) ∧ RfAt w' q gc gv (T0 n) ∧ Fr Nil w w' ∧ w.heap.size ≤ q ∧ w.heap.size ≤ gc ∧ w.heap.size ≤ gv := by
  have a1 : (1 : Int) ≤ (n : Int) := by omega
  have a2 : (n : Int) ≤ 8 := by omega
  have H := Lib.hid (And.intro h1 h8)
  have m1 := make40 n h8
  clear h1 h8
  go_enter Try.func9, Try.ntmps9
  go_upto_region 1 with fail
  go_region
  all_goals
    go_wp2_with fail
    go_ret
    first
      | exact ⟨w.heap.size + 2, w.heap.size, w.heap.size + 1, rfl, ⟨(((Blk.new3 w _ _ 42 _).drew).cast rfl), ((((((Blk.new w 30 _).alloc _).alloc _)).drew).cast rfl), ((((Blk.new2 w _ 30 _).alloc _).drew).cast rfl), by omega⟩, (((Fr.refl Nil w).alloc _).alloc _).alloc _ |>.drew, by omega, by omega, by omega⟩
      | exact ⟨w.heap.size + 2, w.heap.size + 1, w.heap.size, rfl, ⟨(((Blk.new3 w _ _ 42 _).drew).cast rfl), ((((Blk.new2 w _ 30 _).alloc _).drew).cast rfl), ((((((Blk.new w 30 _).alloc _).alloc _)).drew).cast rfl), by omega⟩, (((Fr.refl Nil w).alloc _).alloc _).alloc _ |>.drew, by omega, by omega, by omega⟩
end Go.Proofs.Ytoehhbcocecibaa
