/- The walk of MonitorPlays: what both machines hold, call by call. -/
import Derived.Test.YtffjembeimpdmaaLApart
import Derived.Deep.CutBlock
import Derived.Deep.CutRange
namespace Go.Proofs.Ytffjembeimpdmaa
open Go.RowKit
set_option linter.unusedVariables false

def PS (n : Nat) (L : Nat → Int) (I : Nat → Bool) (H : Nat → Bool) (A : Nat → Int) : Prop :=
  ∀ j, j < 8 → (0 ≤ L j ∧ L j ≤ 288230376151711743) ∧ (I j = false → L j = 0) ∧ (n ≤ j → I j = false) ∧ (j < n → H j = I j ∧ (I j = true → A j = L j))
section
variable {n : Nat} {L : Nat → Int} {I H : Nat → Bool} {A : Nat → Int} {k : Nat} {a : Int}
theorem ps_start : PS n (fun _ => 0) (fun _ => false) (fun _ => false) (fun _ => 0) := fun j _ => ⟨by simp, fun _ => rfl, fun _ => rfl, fun _ => ⟨rfl, fun _ => rfl⟩⟩
theorem ps_mark (h : PS n L I H A) (hk : k < n) (h0 : 0 ≤ a) (h1 : a ≤ 18446744073709551615) : PS n (upd L k (a / 64)) (upd I k true) (upd H k true) (upd A k (a / 64)) := by
  intro j hj
  by_cases e : j = k
  · subst e
    rw [upd_same, upd_same, upd_same, upd_same]
    exact ⟨⟨by omega, by omega⟩, (fun h => by cases h), (fun h => by omega), fun _ => ⟨rfl, fun _ => rfl⟩⟩
  · rw [upd_other _ _ e, upd_other _ _ e, upd_other _ _ e, upd_other _ _ e]
    exact h j hj
theorem ps_gone (h : PS n L I H A) : PS n (upd L k 0) (upd I k false) (upd H k false) A := by
  intro j hj
  by_cases e : j = k
  · subst e
    rw [upd_same, upd_same, upd_same]
    exact ⟨by simp, fun _ => rfl, fun _ => rfl, fun _ => ⟨rfl, (fun h => by cases h)⟩⟩
  · rw [upd_other _ _ e, upd_other _ _ e, upd_other _ _ e]
    exact h j hj
theorem ps_hit (h : PS n L I H A) {c ln : Int} {j : Nat} (hj : j < 8) (hn : j < n) : hit A H c ln j = hit L I c ln j := by
  obtain ⟨_, _, _, h4⟩ := h j hj
  obtain ⟨h5, h6⟩ := h4 hn
  unfold hit
  rw [h5]
  cases hi : I j with
  | false => simp
  | true => rw [h6 hi]
theorem ps_nohit (h : PS n L I H A) {c ln : Int} {j : Nat} (hj : j < 8) (hn : n ≤ j) : hit L I c ln j = false := by
  obtain ⟨_, _, h3, _⟩ := h j hj
  simp [hit, h3 hn]
theorem ps_wrote (h : PS n L I H A) (hn : n ≤ 8) {c ln : Int} : PS n (LA L I c ln 8) (IA L I c ln 8) (IA A H c ln n) A := by
  intro j hj
  obtain ⟨h1, h2, h3, h4⟩ := h j hj
  refine ⟨?_, ?_, ?_, ?_⟩
  · unfold LA; split
    · omega
    · exact h1
  · unfold LA IA
    split
    · intro _; rfl
    · exact h2
  · intro hx
    unfold IA
    split
    · rfl
    · exact h3 hx
  · intro hx
    have hh := ps_hit h (c := c) (ln := ln) hj hx
    obtain ⟨h5, h6⟩ := h4 hx
    unfold IA LA
    rw [hh]
    by_cases e : hit L I c ln j = true
    · simp [e, hj, hx]
    · simp [e, h5]
      exact h6
theorem filter_range_le (p : Nat → Bool) (n m : Nat) (hnm : n ≤ m) (hp : ∀ j, n ≤ j → j < m → p j = false) : (List.range m).filter p = (List.range n).filter p := by
  induction m with
  | zero => have : n = 0 := by omega
            subst this; rfl
  | succ m ih =>
    by_cases e : n = m + 1
    · subst e; rfl
    · rw [List.range_succ, List.filter_append, ih (by omega) (fun j h1 h2 => hp j h1 (by omega))]
      simp [hp m (by omega) (by omega)]
theorem ps_list (h : PS n L I H A) (hn : n ≤ 8) {c ln : Int} : HL A H c ln n = HL L I c ln 8 := by
  unfold HL
  rw [filter_range_le (hit L I c ln) n 8 hn (fun j h1 h2 => ps_nohit h h2 h1)]
  congr 1
  apply List.filter_congr
  intro j hj
  have := List.mem_range.1 hj
  exact ps_hit h (by omega) this
theorem ps_take (h : PS n L I H A) (hk : k < n) (hn : n ≤ 8) (ln : Int) : (H k && A k == ln) = (I k && L k == ln) := by
  obtain ⟨_, _, _, h4⟩ := h k (by omega)
  obtain ⟨h5, h6⟩ := h4 hk
  rw [h5]
  cases hi : I k with
  | false => simp
  | true => rw [h6 hi]
end
/-- What holds behind each call of a script. -/
def PlW (w : World) (n b rb hb ab : Nat) (wr : World) : Prop :=
  ∃ L I H A, MonAt wr b n L I ∧ RefAt wr rb hb ab n H A ∧ PS n L I H A ∧ Fr Nil w wr
def PlR (w : World) (n b rb hb ab len : Nat) (i : Value) (wr : World) : Prop :=
  ∃ k : Nat, k ≤ len ∧ i = .int .i64 k ∧ PlW w n b rb hb ab wr
def PlC (w : World) (n b rb hb ab : Nat) (bad f same : Value) (wr : World) : Prop :=
  ∃ x : Bool, bad = .bool x ∧ f = .int .i64 (if x then 1 else 0) ∧ same = .bool true ∧ PlW w n b rb hb ab wr
def PlI (w : World) (n b rb hb ab : Nat) (i : Value) (wr : World) : Prop :=
  ∃ k : Nat, k ≤ n ∧ i = .int .i64 k ∧ PlW w n b rb hb ab wr
theorem Fr.own2 {w wr w' : World} {b c : Nat} (h : Fr Nil w wr) (k : Fr (Two b c) wr w') (hb : w.heap.size ≤ b) (hc : w.heap.size ≤ c) : Fr Nil w w' :=
  h.step k fun _ _ hi => .inr (by rcases hi with hi | hi <;> rw [hi] <;> assumption)


theorem RefAt.alloc {w : World} {rb hb ab n : Nat} {H : Nat → Bool} {A : Nat → Int} (h : RefAt w rb hb ab n H A) (o : Obj) : RefAt (w.alloc o) rb hb ab n H A := ⟨h.top.alloc o, h.has.alloc o, h.at_.alloc o⟩
theorem RefAt.frM {w w' : World} {rb hb ab n b : Nat} {m : Int} {H : Nat → Bool} {A : Nat → Int} {L : Nat → Int} {I : Nat → Bool} (h : RefAt w rb hb ab n H A) (hm : MonAt w b m L I) (hf : Fr (One b) w w') : RefAt w' rb hb ab n H A :=
  h.fr hf (Blk.ne_ h.top hm (by decide)) (Blk.ne_ h.has hm (by decide)) (Blk.ne_ h.at_ hm (by decide))
theorem MonAt.frR {w w' : World} {rb hb ab n b : Nat} {m : Int} {H : Nat → Bool} {A : Nat → Int} {L : Nat → Int} {I : Nat → Bool} (hm : MonAt w b m L I) (h : RefAt w rb hb ab n H A) (hf : Fr (Two hb ab) w w') : MonAt w' b m L I :=
  Blk.fr hm hf (fun x => by rcases x with x | x; exact Blk.ne_ h.has hm (by decide) x.symm; exact Blk.ne_ h.at_ hm (by decide) x.symm)
theorem MonAt.frH {w w' : World} {rb hb ab n b : Nat} {m : Int} {H : Nat → Bool} {A : Nat → Int} {L : Nat → Int} {I : Nat → Bool} (hm : MonAt w b m L I) (h : RefAt w rb hb ab n H A) (hf : Fr (One hb) w w') : MonAt w' b m L I :=
  Blk.fr1 hm hf (fun x => Blk.ne_ h.has hm (by decide) x.symm)
theorem Fr.ownH {w wr w' : World} {b : Nat} (h : Fr Nil w wr) (k : Fr (One b) wr w') (hb : w.heap.size ≤ b) : Fr Nil w w' := h.own1 k hb

set_option maxRecDepth 100000 in
set_option maxHeartbeats 8000000 in
theorem monitorPlays_no (a0 : Int) (a1 : Option Addr) (len1 cap1 : Nat) (w : World) (h : a0 < 1 ∨ 8 < a0) :
    Calls Try.prog 4 #[.int .i64 a0, .slice a1 len1 cap1] w fun e w' => e = .returned (.bool true) ∧ Below w.heap.size w w' := by
  have H := Lib.hid h
  clear h
  rcases H.out with h | h
  · go_enter Try.func4, Try.ntmps4
    go_wp2_with fail
    refine (known_ok w).mono ?_
    rintro e w1 ⟨rfl, hf0⟩
    go_wp2_with fail
    refine (new_bad _ _ H.out).mono ?_
    rintro e w2 ⟨rfl, rfl⟩
    go_wp2
    go_ret
    exact ⟨rfl, hf0.below (Nat.le_refl _) (fun _ _ => id)⟩
  · have h' : ¬ a0 < 1 := by omega
    go_enter Try.func4, Try.ntmps4
    go_wp2_with fail
    refine (known_ok w).mono ?_
    rintro e w1 ⟨rfl, hf0⟩
    go_wp2_with fail
    refine (new_bad _ _ H.out).mono ?_
    rintro e w2 ⟨rfl, rfl⟩
    go_wp2
    go_ret
    exact ⟨rfl, hf0.below (Nat.le_refl _) (fun _ _ => id)⟩

set_option maxRecDepth 100000 in
set_option maxHeartbeats 8000000 in
theorem monitorPlays_yes (n : Nat) (a1 : Option Addr) (len1 cap1 : Nat) (Z1 : Nat → Nat → Int) (w : World) (hn1 : 1 ≤ n) (hn : n ≤ 8)
    (l1 : len1 ≤ cap1) (m1 : cap1 ≤ maxLen) (s1 : SlRows [.i64, .i64, .u64] w a1 len1 Z1) :
    Calls Try.prog 4 #[.int .i64 (n : Int), .slice a1 len1 cap1] w fun e w' => e = .returned (.bool true) ∧ Below w.heap.size w w' := by
  unfold maxLen at m1
  have hn1' : 1 ≤ (n : Int) := by omega
  have hn' : (n : Int) ≤ 8 := by omega
  go_enter Try.func4, Try.ntmps4
  go_wp2_with fail
  refine (known_ok w).mono ?_
  rintro e w1 ⟨rfl, hf0⟩
  go_wp2_with fail
  refine (new_ok _ _ (by omega) (by omega)).mono ?_
  rintro e w2 ⟨rfl, rfl⟩
  have hm0 : MonAt (w1.alloc (.cells (cs17 n (fun _ => 0) (fun _ => false)) 58)) w1.heap.size n (fun _ => 0) (fun _ => false) := Blk.new _ _ _
  have hf1 : Fr Nil w (w1.alloc (.cells (cs17 n (fun _ => 0) (fun _ => false)) 58)) := hf0.alloc _
  have hb : w.heap.size ≤ w1.heap.size := hf0.size
  clear hf0
  generalize (w1.alloc (.cells (cs17 n (fun _ => 0) (fun _ => false)) 58)) = w2 at *
  generalize w1.heap.size = b at *
  go_wp2_with fail
  refine (rnew_ok n _ hn).mono ?_
  rintro e w3 ⟨rb, hbk, ab, rfl, hr0, hf2, q1, q2, q3⟩
  have hb1 : w.heap.size ≤ rb := Nat.le_trans hf1.size q1
  have hb2 : w.heap.size ≤ hbk := Nat.le_trans hf1.size q2
  have hb3 : w.heap.size ≤ ab := Nat.le_trans hf1.size q3
  have hm1 := hm0.fr0 hf2
  have hf3 := hf1.trans hf2
  clear hm0 hf1 hf2 q1 q2 q3
  go_wp2_with fail
  go_loopw [9] (fun i wr => PlR w n b rb hbk ab len1 i wr) (fun i _ => len1 - (intOf i).toNat)
  case atStart => exact ⟨0, by omega, rfl, _, _, _, _, hm1, hr0, ps_start, hf3⟩
  case round =>
    obtain ⟨i, hi, rfl, L, I, H, A, hm, hr, hps, hfr⟩ := hrel
    clear hm1 hr0 hf3
    by_cases hlt : i < len1 ∧ i < 200
    · obtain ⟨hlt1, hlt2⟩ := hlt
      have hlt2' : (i : Int) < 200 := by omega
      obtain ⟨b1, o1, rfl, hbb1, c0, c1, c2, e0, e1, e2⟩ := s1.at3 hfr hlt1
      obtain ⟨x0, x1⟩ := bounds_i64 e1
      obtain ⟨x2, x3⟩ := bounds_u64 e2
      clear s1 e0 e1 e2
      generalize Z1 i 0 = kd at *
      generalize Z1 i 1 = cr at *
      generalize Z1 i 2 = ad at *
      by_cases hc : 0 ≤ cr ∧ cr < n
      · obtain ⟨k, rfl⟩ : ∃ k : Nat, cr = (k : Int) := ⟨cr.toNat, by omega⟩
        have hk : k < n := by omega
        have hki : (k : Int) < n := by omega
        have hkb : (decide ((k : Int) < 0) || decide (n ≤ k)) = false := by simp [hk]
        clear hc
        go_upto_block 2 with fail
        go_cut [11, 12, 13] from 65 to 247 (fun bad f same wx => PlC w n b rb hbk ab bad f same wx)
        case first =>
          by_cases k1 : kd = 1
          · as_aux_lemma =>
              subst k1
              go_wp2_with fail
              refine (mark_ok b k n _ _ _ _ (Blk.alloc hm _) (by omega) hn' x2 x3).mono ?_
              rintro e w5 ⟨rfl, hm', hf'⟩
              have o1 : w5.cell? ⟨wr.heap.size, 1, none⟩ = some (.int .i64 (k : Int)) := new_cell hf' (Blk.lt hm) rfl
              have o2 : w5.cell? ⟨wr.heap.size, 2, none⟩ = some (.int .u64 ad) := new_cell hf' (Blk.lt hm) rfl
              have hr5 := (hr.alloc _).frM (Blk.alloc hm _) hf'
              have hfr5 := (hfr.alloc _).own1 hf' hb
              go_wp2_with fail
              refine (rmark_ok rb hbk ab n k _ _ _ _ hr5 hk hn x2 x3).mono ?_
              rintro e w6 ⟨rfl, hr6, hf6⟩
              go_wp2_with fail
              go_meet
              exact ⟨false, rfl, rfl, rfl, _, _, _, _, hm'.frR hr5 hf6, hr6, ps_mark hps hk x2 x3, hfr5.own2 hf6 hb2 hb3⟩
          by_cases k2 : kd = 2
          · as_aux_lemma =>
              subst k2
              clear k1
              go_wp2_with fail
              refine (clear_ok b k n _ _ _ (Blk.alloc hm _) (by omega) hn').mono ?_
              rintro e w5 ⟨rfl, hm', hf'⟩
              have o1 : w5.cell? ⟨wr.heap.size, 1, none⟩ = some (.int .i64 (k : Int)) := new_cell hf' (Blk.lt hm) rfl
              have o2 : w5.cell? ⟨wr.heap.size, 2, none⟩ = some (.int .u64 ad) := new_cell hf' (Blk.lt hm) rfl
              have hr5 := (hr.alloc _).frM (Blk.alloc hm _) hf'
              have hfr5 := (hfr.alloc _).own1 hf' hb
              have l1 := hr5.top.lt
              have l2 := hr5.has.lt
              have n1 : rb ≠ hbk := Blk.ne_ hr5.top hr5.has (by decide)
              have n3 : ab ≠ hbk := Blk.ne_ hr5.at_ hr5.has (by decide)
              have n5 : b ≠ hbk := Blk.ne_ hm' hr5.has (by decide)
              have d0 : w5.cell? ⟨rb, 0, none⟩ = some (.slice (some ⟨hbk, 0, none⟩) n n) := hr5.top.cellv rfl
              have d2 : w5.cell? ⟨hbk, k, none⟩ = some (.bool (H k)) := hr5.has.cellv (bs_get hk)
              have f2 : w5.frozen? ⟨hbk, k, none⟩ = false := hr5.has.frozen _
              have hk' : (k : Int) < n := by omega
              go_wp2_with fail
              go_region
              all_goals go_wp2_with fail
              all_goals go_meet
              all_goals exact ⟨false, rfl, rfl, rfl, _, _, _, _, Blk.drew (Blk.far hm' n5 _), ⟨Blk.drew (Blk.far hr5.top n1 _), Blk.drew ((Blk.set_ hr5.has _ _).cast (bs_set _ _)), Blk.drew (Blk.far hr5.at_ n3 _)⟩, ps_gone hps, Fr.drew (hfr5.setNew hb2 _)⟩
          by_cases k3 : kd = 3
          · as_aux_lemma =>
              subst k3
              clear k1 k2
              go_wp2_with fail
              refine (wrote_ok b k n _ _ _ _ (Blk.alloc hm _) (by omega) (by omega) hn' x2 x3).mono ?_
              rintro e w5 ⟨v, rfl, hown, hm', hf'⟩
              have o1 : w5.cell? ⟨wr.heap.size, 1, none⟩ = some (.int .i64 (k : Int)) := new_cell hf' (Blk.lt hm) rfl
              have o2 : w5.cell? ⟨wr.heap.size, 2, none⟩ = some (.int .u64 ad) := new_cell hf' (Blk.lt hm) rfl
              have hr5 := (hr.alloc _).frM (Blk.alloc hm _) hf'
              have hfr5 := (hfr.alloc _).own1 hf' hb
              go_wp2_with fail
              refine (rwrote_ok rb hbk ab n _ _ _ _ _ hr5 hn x2 x3).mono ?_
              rintro e w6 ⟨v2, rfl, hown2, hr6, hf6⟩
              have hown6 := Fr.own hown hf6 (fun j hj hx => own_blk_ne hown hr5.has (by decide) (by rw [hj, hx]))
              rw [ps_list hps hn] at hown2
              have hps6 := ps_wrote hps hn (c := (k : Int)) (ln := ad / 64)
              have hle8 := HL_le (L := L) (I := I) (c := (k : Int)) (ln := ad / 64) (k := 8)
              have hm6 := hm'.frH hr5 hf6
              have hfr6 := hfr5.own1 hf6 hb2
              clear hown hf6 hf' hr5 hfr5 hm' hps o1 o2
              generalize HL L I (k : Int) (ad / 64) 8 = xs at *
              obtain ⟨va, vc, rfl⟩ := own_len hown6
              obtain ⟨va2, vc2, rfl⟩ := own_len hown2
              go_wp2_with fail
              go_loopw [13, 17] (fun same q wq => same = .bool true ∧ (∃ j : Nat, j ≤ xs.length ∧ q = .int .i64 j) ∧ ∃ m, wq = w6.drewN m) (fun _ q _ => xs.length - (intOf q).toNat)
              case atStart => exact ⟨rfl, ⟨0, by omega, rfl⟩, 0, rfl⟩
              case round =>
                obtain ⟨rfl, ⟨j, hj, rfl⟩, m, rfl⟩ := hrel
                by_cases hjl : j < xs.length
                · obtain ⟨g, cap, hv, hg, hgl, hcell⟩ := own_at hown6 hjl
                  obtain ⟨g2, cap2, hv2, hg2, hgl2, hcell2⟩ := own_at hown2 hjl
                  injection hv with hv1 hv2' hv3
                  injection hv2 with hv1' hv2'' hv3'
                  subst hv1
                  subst hv1'
                  generalize xs[j] = xj at *
                  clear hv2' hv3 hv2'' hv3'
                  go_wp2_with fail
                  go_quiet (fail)
                  go_wp2_with fail
                  go_roundw
                  case rel => exact ⟨by simp, ⟨j + 1, by omega, rfl⟩, _, rfl⟩
                  case measure => simp [intOf]; omega
                · have hjl' : decide (j < xs.length) = false := by simpa using hjl
                  go_wp2_with fail
                  go_meet
                  exact ⟨false, rfl, rfl, rfl, _, _, _, _, Blk.drewN hm6 _, ⟨hr6.top.drewN _, hr6.has.drewN _, hr6.at_.drewN _⟩, hps6, hfr6.drewN _⟩
          by_cases k4 : kd = 4
          · as_aux_lemma =>
              subst k4
              clear k1 k2 k3
              go_wp2_with fail
              refine (take_ok b k n _ _ _ _ (Blk.alloc hm _) (by omega) hn' x2 x3).mono ?_
              rintro e w5 ⟨rfl, hm', hf'⟩
              have o1 : w5.cell? ⟨wr.heap.size, 1, none⟩ = some (.int .i64 (k : Int)) := new_cell hf' (Blk.lt hm) rfl
              have o2 : w5.cell? ⟨wr.heap.size, 2, none⟩ = some (.int .u64 ad) := new_cell hf' (Blk.lt hm) rfl
              have hr5 := (hr.alloc _).frM (Blk.alloc hm _) hf'
              have hfr5 := (hfr.alloc _).own1 hf' hb
              go_wp2_with fail
              refine (rtake_ok rb hbk ab n k _ _ _ _ hr5 hk hn x2 x3).mono ?_
              rintro e w6 ⟨rfl, hr6, hf6⟩
              rw [ps_take hps hk hn]
              go_wp2_with fail
              go_meet
              exact ⟨false, rfl, rfl, by simp, _, _, _, _, hm'.frR hr5 hf6, hr6, ps_gone hps, hfr5.own2 hf6 hb2 hb3⟩
          · as_aux_lemma =>
              go_wp2_with fail
              go_meet
              exact ⟨false, rfl, rfl, rfl, _, _, _, _, Blk.alloc hm _, hr.alloc _, hps, hfr.alloc _⟩
        case rest =>
          clear hm hr hps hfr c0 c1 c2
          obtain ⟨x, rfl, rfl, rfl, L, I, H, A, hm, hr, hps, hfr⟩ := hcut
          cases x with
          | true =>
            as_aux_lemma =>
              go_wp2_with fail
              go_loopw [21] (fun i wr => PlI w n b rb hbk ab i wr) (fun i _ => n - (intOf i).toNat)
              case atStart => exact ⟨0, by omega, rfl, _, _, _, _, hm, hr, hps, hfr⟩
              case round =>
                clear hm hr hps hfr
                obtain ⟨q, hq, rfl, L, I, H, A, hm, hr, hps, hfr⟩ := hrel
                by_cases hqn : q < n
                · have hqn' : (q : Int) < n := by omega
                  obtain ⟨⟨y0, y1⟩, y2, _, y4⟩ := hps q (by omega)
                  obtain ⟨y5, y6⟩ := y4 hqn
                  go_wp2_with fail
                  refine (marked_ok b q n _ _ _ hm hqn' hn' y0 y1).mono ?_
                  rintro e w7 ⟨rfl, hf7⟩
                  have hr7 := hr.fr hf7 id id id
                  have d0 : w7.cell? ⟨rb, 0, none⟩ = some (.slice (some ⟨hbk, 0, none⟩) n n) := hr7.top.cellv rfl
                  have d1 : w7.cell? ⟨rb, 1, none⟩ = some (.slice (some ⟨ab, 0, none⟩) n n) := hr7.top.cellv rfl
                  have d2 : w7.cell? ⟨hbk, q, none⟩ = some (.bool (I q)) := by rw [← y5]; exact hr7.has.cellv (bs_get hqn)
                  have d3 : w7.cell? ⟨ab, q, none⟩ = some (.int .u64 (A q)) := hr7.at_.cellv (us_get hqn)
                  clear y5 y4
                  cases hI : I q with
                  | true =>
                    rw [y6 hI] at d3
                    rw [hI] at d2
                    clear y6 y2
                    generalize L q = lq at *
                    go_wp2_with fail
                    go_roundw
                    case rel => exact ⟨q + 1, by omega, rfl, _, _, _, _, hm.fr0 hf7, hr7, hps, hfr.trans hf7⟩
                    case measure => simp [intOf]; omega
                  | false =>
                    rw [hI] at d2
                    rw [y2 hI]
                    clear y6 y2 y0 y1
                    go_wp2_with fail
                    go_roundw
                    case rel => exact ⟨q + 1, by omega, rfl, _, _, _, _, hm.fr0 hf7, hr7, hps, hfr.trans hf7⟩
                    case measure => simp [intOf]; omega
                · have hqn' : decide (q < n) = false := by simpa using hqn
                  go_wp2_with fail
                  go_roundw
                  case rel => exact ⟨i + 1, by omega, rfl, _, _, _, _, hm, hr, hps, hfr⟩
                  case measure => simp [intOf]; omega
          | false =>
            as_aux_lemma =>
              go_wp2_with fail
              go_loopw [21] (fun i wr => PlI w n b rb hbk ab i wr) (fun i _ => n - (intOf i).toNat)
              case atStart => exact ⟨0, by omega, rfl, _, _, _, _, hm, hr, hps, hfr⟩
              case round =>
                clear hm hr hps hfr
                obtain ⟨q, hq, rfl, L, I, H, A, hm, hr, hps, hfr⟩ := hrel
                by_cases hqn : q < n
                · have hqn' : (q : Int) < n := by omega
                  obtain ⟨⟨y0, y1⟩, y2, _, y4⟩ := hps q (by omega)
                  obtain ⟨y5, y6⟩ := y4 hqn
                  go_wp2_with fail
                  refine (marked_ok b q n _ _ _ hm hqn' hn' y0 y1).mono ?_
                  rintro e w7 ⟨rfl, hf7⟩
                  have hr7 := hr.fr hf7 id id id
                  have d0 : w7.cell? ⟨rb, 0, none⟩ = some (.slice (some ⟨hbk, 0, none⟩) n n) := hr7.top.cellv rfl
                  have d1 : w7.cell? ⟨rb, 1, none⟩ = some (.slice (some ⟨ab, 0, none⟩) n n) := hr7.top.cellv rfl
                  have d2 : w7.cell? ⟨hbk, q, none⟩ = some (.bool (I q)) := by rw [← y5]; exact hr7.has.cellv (bs_get hqn)
                  have d3 : w7.cell? ⟨ab, q, none⟩ = some (.int .u64 (A q)) := hr7.at_.cellv (us_get hqn)
                  clear y5 y4
                  cases hI : I q with
                  | true =>
                    rw [y6 hI] at d3
                    rw [hI] at d2
                    clear y6 y2
                    generalize L q = lq at *
                    go_wp2_with fail
                    go_roundw
                    case rel => exact ⟨q + 1, by omega, rfl, _, _, _, _, hm.fr0 hf7, hr7, hps, hfr.trans hf7⟩
                    case measure => simp [intOf]; omega
                  | false =>
                    rw [hI] at d2
                    rw [y2 hI]
                    clear y6 y2 y0 y1
                    go_wp2_with fail
                    go_roundw
                    case rel => exact ⟨q + 1, by omega, rfl, _, _, _, _, hm.fr0 hf7, hr7, hps, hfr.trans hf7⟩
                    case measure => simp [intOf]; omega
                · have hqn' : decide (q < n) = false := by simpa using hqn
                  go_wp2_with fail
                  go_roundw
                  case rel => exact ⟨i + 1, by omega, rfl, _, _, _, _, hm, hr, hps, hfr⟩
                  case measure => simp [intOf]; omega
      · have hcb : cr < 0 ∨ n ≤ cr := by omega
        have HC := Lib.hid hcb
        clear hcb
        by_cases hc0 : cr < 0
        · go_upto_block 2 with fail
          go_cut [11, 12, 13] from 65 to 247 (fun bad f same wx => PlC w n b rb hbk ab bad f same wx)
          case first =>
            by_cases k1 : kd = 1
            · as_aux_lemma =>
                subst k1
                go_wp2_with fail
                refine (mark_bad b _ n _ _ _ _ (Blk.alloc hm _) x2 x3 HC.out).mono ?_
                rintro e w5 ⟨rfl, hf5⟩
                go_wp2_with fail
                go_meet
                exact ⟨true, rfl, rfl, rfl, _, _, _, _, Blk.fr0 (Blk.alloc hm _) hf5, (hr.alloc _).fr hf5 id id id, hps, (hfr.alloc _).trans hf5⟩
            by_cases k2 : kd = 2
            · as_aux_lemma =>
                subst k2
                clear k1
                go_wp2_with fail
                refine (clear_bad b _ n _ _ _ (Blk.alloc hm _) HC.out).mono ?_
                rintro e w5 ⟨rfl, hf5⟩
                go_wp2_with fail
                go_meet
                exact ⟨true, rfl, rfl, rfl, _, _, _, _, Blk.fr0 (Blk.alloc hm _) hf5, (hr.alloc _).fr hf5 id id id, hps, (hfr.alloc _).trans hf5⟩
            by_cases k3 : kd = 3
            · as_aux_lemma =>
                subst k3
                clear k1 k2
                go_wp2_with fail
                refine (wrote_bad b _ n _ _ _ _ (Blk.alloc hm _) HC.out).mono ?_
                rintro e w5 ⟨rfl, rfl⟩
                go_wp2_with fail
                refine wp_loop_rounds 1 ?_
                rw [rounds_succ]
                go_wp2_with fail
                go_meet
                exact ⟨true, rfl, rfl, rfl, _, _, _, _, Blk.alloc hm _, hr.alloc _, hps, hfr.alloc _⟩
            by_cases k4 : kd = 4
            · as_aux_lemma =>
                subst k4
                clear k1 k2 k3
                go_wp2_with fail
                refine (take_bad b _ n _ _ _ _ (Blk.alloc hm _) HC.out).mono ?_
                rintro e w5 ⟨rfl, rfl⟩
                go_wp2_with fail
                go_meet
                exact ⟨true, rfl, rfl, rfl, _, _, _, _, Blk.alloc hm _, hr.alloc _, hps, hfr.alloc _⟩
            · as_aux_lemma =>
                go_wp2_with fail
                go_meet
                exact ⟨false, rfl, rfl, rfl, _, _, _, _, Blk.alloc hm _, hr.alloc _, hps, hfr.alloc _⟩
          case rest =>
            clear hm hr hps hfr c0 c1 c2
            obtain ⟨x, rfl, rfl, rfl, L, I, H, A, hm, hr, hps, hfr⟩ := hcut
            cases x with
            | true =>
              as_aux_lemma =>
                go_wp2_with fail
                go_loopw [21] (fun i wr => PlI w n b rb hbk ab i wr) (fun i _ => n - (intOf i).toNat)
                case atStart => exact ⟨0, by omega, rfl, _, _, _, _, hm, hr, hps, hfr⟩
                case round =>
                  clear hm hr hps hfr
                  obtain ⟨q, hq, rfl, L, I, H, A, hm, hr, hps, hfr⟩ := hrel
                  by_cases hqn : q < n
                  · have hqn' : (q : Int) < n := by omega
                    obtain ⟨⟨y0, y1⟩, y2, _, y4⟩ := hps q (by omega)
                    obtain ⟨y5, y6⟩ := y4 hqn
                    go_wp2_with fail
                    refine (marked_ok b q n _ _ _ hm hqn' hn' y0 y1).mono ?_
                    rintro e w7 ⟨rfl, hf7⟩
                    have hr7 := hr.fr hf7 id id id
                    have d0 : w7.cell? ⟨rb, 0, none⟩ = some (.slice (some ⟨hbk, 0, none⟩) n n) := hr7.top.cellv rfl
                    have d1 : w7.cell? ⟨rb, 1, none⟩ = some (.slice (some ⟨ab, 0, none⟩) n n) := hr7.top.cellv rfl
                    have d2 : w7.cell? ⟨hbk, q, none⟩ = some (.bool (I q)) := by rw [← y5]; exact hr7.has.cellv (bs_get hqn)
                    have d3 : w7.cell? ⟨ab, q, none⟩ = some (.int .u64 (A q)) := hr7.at_.cellv (us_get hqn)
                    clear y5 y4
                    cases hI : I q with
                    | true =>
                      rw [y6 hI] at d3
                      rw [hI] at d2
                      clear y6 y2
                      generalize L q = lq at *
                      go_wp2_with fail
                      go_roundw
                      case rel => exact ⟨q + 1, by omega, rfl, _, _, _, _, hm.fr0 hf7, hr7, hps, hfr.trans hf7⟩
                      case measure => simp [intOf]; omega
                    | false =>
                      rw [hI] at d2
                      rw [y2 hI]
                      clear y6 y2 y0 y1
                      go_wp2_with fail
                      go_roundw
                      case rel => exact ⟨q + 1, by omega, rfl, _, _, _, _, hm.fr0 hf7, hr7, hps, hfr.trans hf7⟩
                      case measure => simp [intOf]; omega
                  · have hqn' : decide (q < n) = false := by simpa using hqn
                    go_wp2_with fail
                    go_roundw
                    case rel => exact ⟨i + 1, by omega, rfl, _, _, _, _, hm, hr, hps, hfr⟩
                    case measure => simp [intOf]; omega
            | false =>
              as_aux_lemma =>
                go_wp2_with fail
                go_loopw [21] (fun i wr => PlI w n b rb hbk ab i wr) (fun i _ => n - (intOf i).toNat)
                case atStart => exact ⟨0, by omega, rfl, _, _, _, _, hm, hr, hps, hfr⟩
                case round =>
                  clear hm hr hps hfr
                  obtain ⟨q, hq, rfl, L, I, H, A, hm, hr, hps, hfr⟩ := hrel
                  by_cases hqn : q < n
                  · have hqn' : (q : Int) < n := by omega
                    obtain ⟨⟨y0, y1⟩, y2, _, y4⟩ := hps q (by omega)
                    obtain ⟨y5, y6⟩ := y4 hqn
                    go_wp2_with fail
                    refine (marked_ok b q n _ _ _ hm hqn' hn' y0 y1).mono ?_
                    rintro e w7 ⟨rfl, hf7⟩
                    have hr7 := hr.fr hf7 id id id
                    have d0 : w7.cell? ⟨rb, 0, none⟩ = some (.slice (some ⟨hbk, 0, none⟩) n n) := hr7.top.cellv rfl
                    have d1 : w7.cell? ⟨rb, 1, none⟩ = some (.slice (some ⟨ab, 0, none⟩) n n) := hr7.top.cellv rfl
                    have d2 : w7.cell? ⟨hbk, q, none⟩ = some (.bool (I q)) := by rw [← y5]; exact hr7.has.cellv (bs_get hqn)
                    have d3 : w7.cell? ⟨ab, q, none⟩ = some (.int .u64 (A q)) := hr7.at_.cellv (us_get hqn)
                    clear y5 y4
                    cases hI : I q with
                    | true =>
                      rw [y6 hI] at d3
                      rw [hI] at d2
                      clear y6 y2
                      generalize L q = lq at *
                      go_wp2_with fail
                      go_roundw
                      case rel => exact ⟨q + 1, by omega, rfl, _, _, _, _, hm.fr0 hf7, hr7, hps, hfr.trans hf7⟩
                      case measure => simp [intOf]; omega
                    | false =>
                      rw [hI] at d2
                      rw [y2 hI]
                      clear y6 y2 y0 y1
                      go_wp2_with fail
                      go_roundw
                      case rel => exact ⟨q + 1, by omega, rfl, _, _, _, _, hm.fr0 hf7, hr7, hps, hfr.trans hf7⟩
                      case measure => simp [intOf]; omega
                  · have hqn' : decide (q < n) = false := by simpa using hqn
                    go_wp2_with fail
                    go_roundw
                    case rel => exact ⟨i + 1, by omega, rfl, _, _, _, _, hm, hr, hps, hfr⟩
                    case measure => simp [intOf]; omega
        · have hc1 : (n : Int) ≤ cr := by omega
          clear hc
          go_upto_block 2 with fail
          go_cut [11, 12, 13] from 65 to 247 (fun bad f same wx => PlC w n b rb hbk ab bad f same wx)
          case first =>
            by_cases k1 : kd = 1
            · as_aux_lemma =>
                subst k1
                go_wp2_with fail
                refine (mark_bad b _ n _ _ _ _ (Blk.alloc hm _) x2 x3 HC.out).mono ?_
                rintro e w5 ⟨rfl, hf5⟩
                go_wp2_with fail
                go_meet
                exact ⟨true, rfl, rfl, rfl, _, _, _, _, Blk.fr0 (Blk.alloc hm _) hf5, (hr.alloc _).fr hf5 id id id, hps, (hfr.alloc _).trans hf5⟩
            by_cases k2 : kd = 2
            · as_aux_lemma =>
                subst k2
                clear k1
                go_wp2_with fail
                refine (clear_bad b _ n _ _ _ (Blk.alloc hm _) HC.out).mono ?_
                rintro e w5 ⟨rfl, hf5⟩
                go_wp2_with fail
                go_meet
                exact ⟨true, rfl, rfl, rfl, _, _, _, _, Blk.fr0 (Blk.alloc hm _) hf5, (hr.alloc _).fr hf5 id id id, hps, (hfr.alloc _).trans hf5⟩
            by_cases k3 : kd = 3
            · as_aux_lemma =>
                subst k3
                clear k1 k2
                go_wp2_with fail
                refine (wrote_bad b _ n _ _ _ _ (Blk.alloc hm _) HC.out).mono ?_
                rintro e w5 ⟨rfl, rfl⟩
                go_wp2_with fail
                refine wp_loop_rounds 1 ?_
                rw [rounds_succ]
                go_wp2_with fail
                go_meet
                exact ⟨true, rfl, rfl, rfl, _, _, _, _, Blk.alloc hm _, hr.alloc _, hps, hfr.alloc _⟩
            by_cases k4 : kd = 4
            · as_aux_lemma =>
                subst k4
                clear k1 k2 k3
                go_wp2_with fail
                refine (take_bad b _ n _ _ _ _ (Blk.alloc hm _) HC.out).mono ?_
                rintro e w5 ⟨rfl, rfl⟩
                go_wp2_with fail
                go_meet
                exact ⟨true, rfl, rfl, rfl, _, _, _, _, Blk.alloc hm _, hr.alloc _, hps, hfr.alloc _⟩
            · as_aux_lemma =>
                go_wp2_with fail
                go_meet
                exact ⟨false, rfl, rfl, rfl, _, _, _, _, Blk.alloc hm _, hr.alloc _, hps, hfr.alloc _⟩
          case rest =>
            clear hm hr hps hfr c0 c1 c2
            obtain ⟨x, rfl, rfl, rfl, L, I, H, A, hm, hr, hps, hfr⟩ := hcut
            cases x with
            | true =>
              as_aux_lemma =>
                go_wp2_with fail
                go_loopw [21] (fun i wr => PlI w n b rb hbk ab i wr) (fun i _ => n - (intOf i).toNat)
                case atStart => exact ⟨0, by omega, rfl, _, _, _, _, hm, hr, hps, hfr⟩
                case round =>
                  clear hm hr hps hfr
                  obtain ⟨q, hq, rfl, L, I, H, A, hm, hr, hps, hfr⟩ := hrel
                  by_cases hqn : q < n
                  · have hqn' : (q : Int) < n := by omega
                    obtain ⟨⟨y0, y1⟩, y2, _, y4⟩ := hps q (by omega)
                    obtain ⟨y5, y6⟩ := y4 hqn
                    go_wp2_with fail
                    refine (marked_ok b q n _ _ _ hm hqn' hn' y0 y1).mono ?_
                    rintro e w7 ⟨rfl, hf7⟩
                    have hr7 := hr.fr hf7 id id id
                    have d0 : w7.cell? ⟨rb, 0, none⟩ = some (.slice (some ⟨hbk, 0, none⟩) n n) := hr7.top.cellv rfl
                    have d1 : w7.cell? ⟨rb, 1, none⟩ = some (.slice (some ⟨ab, 0, none⟩) n n) := hr7.top.cellv rfl
                    have d2 : w7.cell? ⟨hbk, q, none⟩ = some (.bool (I q)) := by rw [← y5]; exact hr7.has.cellv (bs_get hqn)
                    have d3 : w7.cell? ⟨ab, q, none⟩ = some (.int .u64 (A q)) := hr7.at_.cellv (us_get hqn)
                    clear y5 y4
                    cases hI : I q with
                    | true =>
                      rw [y6 hI] at d3
                      rw [hI] at d2
                      clear y6 y2
                      generalize L q = lq at *
                      go_wp2_with fail
                      go_roundw
                      case rel => exact ⟨q + 1, by omega, rfl, _, _, _, _, hm.fr0 hf7, hr7, hps, hfr.trans hf7⟩
                      case measure => simp [intOf]; omega
                    | false =>
                      rw [hI] at d2
                      rw [y2 hI]
                      clear y6 y2 y0 y1
                      go_wp2_with fail
                      go_roundw
                      case rel => exact ⟨q + 1, by omega, rfl, _, _, _, _, hm.fr0 hf7, hr7, hps, hfr.trans hf7⟩
                      case measure => simp [intOf]; omega
                  · have hqn' : decide (q < n) = false := by simpa using hqn
                    go_wp2_with fail
                    go_roundw
                    case rel => exact ⟨i + 1, by omega, rfl, _, _, _, _, hm, hr, hps, hfr⟩
                    case measure => simp [intOf]; omega
            | false =>
              as_aux_lemma =>
                go_wp2_with fail
                go_loopw [21] (fun i wr => PlI w n b rb hbk ab i wr) (fun i _ => n - (intOf i).toNat)
                case atStart => exact ⟨0, by omega, rfl, _, _, _, _, hm, hr, hps, hfr⟩
                case round =>
                  clear hm hr hps hfr
                  obtain ⟨q, hq, rfl, L, I, H, A, hm, hr, hps, hfr⟩ := hrel
                  by_cases hqn : q < n
                  · have hqn' : (q : Int) < n := by omega
                    obtain ⟨⟨y0, y1⟩, y2, _, y4⟩ := hps q (by omega)
                    obtain ⟨y5, y6⟩ := y4 hqn
                    go_wp2_with fail
                    refine (marked_ok b q n _ _ _ hm hqn' hn' y0 y1).mono ?_
                    rintro e w7 ⟨rfl, hf7⟩
                    have hr7 := hr.fr hf7 id id id
                    have d0 : w7.cell? ⟨rb, 0, none⟩ = some (.slice (some ⟨hbk, 0, none⟩) n n) := hr7.top.cellv rfl
                    have d1 : w7.cell? ⟨rb, 1, none⟩ = some (.slice (some ⟨ab, 0, none⟩) n n) := hr7.top.cellv rfl
                    have d2 : w7.cell? ⟨hbk, q, none⟩ = some (.bool (I q)) := by rw [← y5]; exact hr7.has.cellv (bs_get hqn)
                    have d3 : w7.cell? ⟨ab, q, none⟩ = some (.int .u64 (A q)) := hr7.at_.cellv (us_get hqn)
                    clear y5 y4
                    cases hI : I q with
                    | true =>
                      rw [y6 hI] at d3
                      rw [hI] at d2
                      clear y6 y2
                      generalize L q = lq at *
                      go_wp2_with fail
                      go_roundw
                      case rel => exact ⟨q + 1, by omega, rfl, _, _, _, _, hm.fr0 hf7, hr7, hps, hfr.trans hf7⟩
                      case measure => simp [intOf]; omega
                    | false =>
                      rw [hI] at d2
                      rw [y2 hI]
                      clear y6 y2 y0 y1
                      go_wp2_with fail
                      go_roundw
                      case rel => exact ⟨q + 1, by omega, rfl, _, _, _, _, hm.fr0 hf7, hr7, hps, hfr.trans hf7⟩
                      case measure => simp [intOf]; omega
                  · have hqn' : decide (q < n) = false := by simpa using hqn
                    go_wp2_with fail
                    go_roundw
                    case rel => exact ⟨i + 1, by omega, rfl, _, _, _, _, hm, hr, hps, hfr⟩
                    case measure => simp [intOf]; omega
    · have H' := Lib.hid hlt
      clear hlt
      have hlt3 : len1 ≤ i ∨ 200 ≤ i := by have := H'.out; omega
      clear H'
      rcases hlt3 with hx | hx
      · go_wp2_with fail
        refine (marked_bad b _ n _ _ _ hm (Or.inr (Int.le_refl _))).mono ?_
        rintro e w5 ⟨rfl, rfl⟩
        go_wp2_with fail
        refine (marked_bad b _ n _ _ _ hm (Or.inl (by omega))).mono ?_
        rintro e w5 ⟨rfl, rfl⟩
        go_wp2
        go_ret
        exact ⟨rfl, hfr.below (Nat.le_refl _) (fun _ _ => id)⟩
      · have hx' : 200 ≤ (i : Int) := by omega
        by_cases hx2 : i < len1
        · have hx3 : (i : Int) < len1 := by omega
          go_wp2_with fail
          refine (marked_bad b _ n _ _ _ hm (Or.inr (Int.le_refl _))).mono ?_
          rintro e w5 ⟨rfl, rfl⟩
          go_wp2_with fail
          refine (marked_bad b _ n _ _ _ hm (Or.inl (by omega))).mono ?_
          rintro e w5 ⟨rfl, rfl⟩
          go_wp2
          go_ret
          exact ⟨rfl, hfr.below (Nat.le_refl _) (fun _ _ => id)⟩
        · go_wp2_with fail
          refine (marked_bad b _ n _ _ _ hm (Or.inr (Int.le_refl _))).mono ?_
          rintro e w5 ⟨rfl, rfl⟩
          go_wp2_with fail
          refine (marked_bad b _ n _ _ _ hm (Or.inl (by omega))).mono ?_
          rintro e w5 ⟨rfl, rfl⟩
          go_wp2
          go_ret
          exact ⟨rfl, hfr.below (Nat.le_refl _) (fun _ _ => id)⟩
end Go.Proofs.Ytffjembeimpdmaa
