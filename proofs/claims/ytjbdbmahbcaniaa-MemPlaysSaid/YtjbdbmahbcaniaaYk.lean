/- One call on both memories, of any kind; the law's frame. -/
import Derived.Test.YtjbdbmahbcaniaaVload
import Derived.Test.YtjbdbmahbcaniaaVstore
import Derived.Test.YtjbdbmahbcaniaaVdrain
import Derived.Test.YtjbdbmahbcaniaaVdrain0
import Derived.Test.YtjbdbmahbcaniaaVflush
import Derived.Test.YtjbdbmahbcaniaaVput
import Derived.Test.YtjbdbmahbcaniaaVfetch
import Derived.Test.YtjbdbmahbcaniaaVpeek
import Derived.Test.YtjbdbmahbcaniaaVheld
import Derived.Test.YtjbdbmahbcaniaaVset
import Derived.Test.YtjbdbmahbcaniaaVother
set_option linter.unusedSimpArgs false
set_option linter.unusedVariables false
set_option linter.unusedSectionVars false
namespace Go.Proofs.Ytjbdbmahbcaniaa
open Go.RowKit
set_option maxRecDepth 100000

theorem goodB_core {n c : Nat} {core a : Int} (h : goodB n c core a = true) : 0 ≤ core ∧ core < (c : Int) := by
  unfold goodB at h
  simp only [Bool.and_eq_true, decide_eq_true_eq, beq_iff_eq] at h
  omega
theorem step_ok (w0 w : World) (KB : Nat → Prop) (rb : Nat) (q : Bs) (s : St) (fv av : Value) (F : Nat → Int) (g : List G) (m wb : Nat) (kd core a v : Int) (h : Pq w0 w KB rb q s fv av F g m) (hm : m ≤ 199) (hb : Blk w wb 66 #[.pointer (some ⟨q.b, 0, none⟩), .pointer (some ⟨rb, 0, none⟩)]) (kb : KB wb) (ha : U64 a) (hv : U64 v) :
    Calls Try.prog 32 #[.pointer (some ⟨wb, 0, none⟩), .agg #[.int .i64 kd, .int .i64 core, .int .u64 a, .int .u64 v]] w (StepTo w0 w KB rb q s fv m) := by
  have hgd : ∀ c0 a0, goodB s.n s.c c0 a0 = true ∨ goodB s.n s.c c0 a0 = false := fun c0 a0 => by cases goodB s.n s.c c0 a0 <;> simp
  have hcr : (0 ≤ core ∧ core < (s.c : Int)) ∨ (core < 0 ∨ (s.c : Int) ≤ core) := by omega
  have h1n := h.n1
  have h1c := h.c1
  obtain ⟨a0, a1⟩ := ha
  have ha : U64 a := ⟨a0, a1⟩
  by_cases k1 : kd = 1
  · subst k1
    rcases hgd core a with hg | hg
    · exact st_load w0 w KB rb q s fv av F g m wb core a v h hm hb kb ha hv hg
    · exact st_loadB w0 w KB rb q s fv av F g m wb core a v h hm hb kb ha hv hg
  by_cases k2 : kd = 2
  · subst k2
    rcases hgd core a with hg | hg
    · obtain ⟨i, k, rfl, hak, hi, hk⟩ := goodB_nat a0 hg
      have hd := h.ok.depth i hi
      by_cases hf : (s.H i).length = s.d
      · exact st_storeF w0 w KB rb q s fv av F g m wb _ a v h hm hb kb ha hv hg (fun j hj => (show i = j by omega) ▸ hf)
      · have hlt : (s.H i).length < s.d := by omega
        exact st_store w0 w KB rb q s fv av F g m wb _ a v h hm hb kb ha hv hg (fun j hj => (show i = j by omega) ▸ hlt)
    · exact st_storeB w0 w KB rb q s fv av F g m wb core a v h hm hb kb ha hv hg
  by_cases k3 : kd = 3
  · subst k3
    rcases hcr with hc | hc
    · cases hx : s.H core.toNat with
      | nil => exact st_drainN w0 w KB rb q s fv av F g m wb core a v h hm hb kb ha hv hc (fun j hj => (show core.toNat = j by omega) ▸ hx)
      | cons x l => exact st_drain w0 w KB rb q s fv av F g m wb core a v h hm hb kb ha hv hc x l (fun j hj => (show core.toNat = j by omega) ▸ hx)
    · exact st_drainB w0 w KB rb q s fv av F g m wb core a v h hm hb kb ha hv hc
  by_cases k4 : kd = 4
  · subst k4
    rcases hcr with hc | hc
    · exact st_flush w0 w KB rb q s fv av F g m wb core a v h hm hb kb ha hv hc
    · exact st_flushB w0 w KB rb q s fv av F g m wb core a v h hm hb kb ha hv hc
  by_cases k5 : kd = 5
  · subst k5
    rcases hgd core a with hg | hg
    · exact st_put w0 w KB rb q s fv av F g m wb core a v h hm hb kb ha hv hg
    · exact st_putB w0 w KB rb q s fv av F g m wb core a v h hm hb kb ha hv hg
  by_cases k6 : kd = 6
  · subst k6
    rcases hgd 0 (a - a % 8) with hg | hg
    · by_cases h4 : a % 4 = 0
      · obtain ⟨_, k, _, hz, _, hk⟩ := goodB_nat (by omega) hg
        by_cases h8 : a % 8 = 4
        · exact st_fetchH w0 w KB rb q s fv av F g m wb core a v h hm hb kb ha hv k hk hz h8
        · exact st_fetchL w0 w KB rb q s fv av F g m wb core a v h hm hb kb ha hv k hk hz (by omega)
      · exact st_fetchO w0 w KB rb q s fv av F g m wb core a v h hm hb kb ha hv hg h4
    · exact st_fetchB w0 w KB rb q s fv av F g m wb core a v h hm hb kb ha hv hg
  by_cases k7 : kd = 7
  · subst k7
    rcases hgd 0 a with hg | hg
    · obtain ⟨_, k, _, hz, _, hk⟩ := goodB_nat a0 hg
      exact st_peek w0 w KB rb q s fv av F g m wb core a v h hm hb kb ha hv k hk hz
    · exact st_peekB w0 w KB rb q s fv av F g m wb core a v h hm hb kb ha hv hg
  by_cases k8 : kd = 8
  · subst k8
    rcases hcr with hc | hc
    · exact st_held w0 w KB rb q s fv av F g m wb core a v h hm hb kb ha hv hc
    · exact st_heldB w0 w KB rb q s fv av F g m wb core a v h hm hb kb ha hv hc
  by_cases k9 : kd = 9
  · subst k9
    by_cases hg : a % 8 ≠ 0 ∨ (s.n : Int) ≤ a / 8
    · exact st_setB w0 w KB rb q s fv av F g m wb core a v h hm hb kb ha hv hg
    · by_cases he : g = []
      · exact st_set w0 w KB rb q s fv av F g m wb core a v h hm hb kb ha hv (a / 8).toNat (by omega) (by omega) he
      · exact st_setR w0 w KB rb q s fv av F g m wb core a v h hm hb kb ha hv (a / 8).toNat (by omega) (by omega) he
  · exact st_other w0 w KB rb q s fv av F g m wb core a v h hm hb kb ha hv kd (by omega)
/-- What stands between two calls. -/
structure Pw (w0 w : World) (wb mb rb : Nat) (fv : Value) (n c d : Nat) (g : List G) (m : Nat) : Prop where
  b : Blk w wb 66 #[.pointer (some ⟨mb, 0, none⟩), .pointer (some ⟨rb, 0, none⟩)]
  p : ∃ q s av F, Pq w0 w (fun k => k = wb) rb q s fv av F g m ∧ q.b = mb ∧ s.n = n ∧ s.c = c ∧ s.d = d
section
variable {w0 w w' : World} {wb mb rb n c d m : Nat} {fv : Value} {g : List G}
theorem Pw.step (h : Pw w0 w wb mb rb fv n c d g m) (hm : m ≤ 199) (kd core a v : Int) (ha : U64 a) (hv : U64 v) :
    Calls Try.prog 32 #[.pointer (some ⟨wb, 0, none⟩), .agg #[.int .i64 kd, .int .i64 core, .int .u64 a, .int .u64 v]] w fun e w' => e = .returned (.bool true) ∧ ∃ g', Pw w0 w' wb mb rb fv n c d g' (m + 1) := by
  obtain ⟨hb, q, s, av, F, hp, hq, hn, hc, hd⟩ := h
  subst hq
  refine (step_ok w0 w (fun k => k = wb) rb q s fv av F g m wb kd core a v hp hm hb rfl ha hv).mono ?_
  rintro e w' ⟨rfl, q', s', av', F', g', hp', hq', hn', hc', hd', f⟩
  exact ⟨rfl, g', hb.fr f fun hx => hx rfl, q', s', av', F', hp', hq', hn'.trans hn, hc'.trans hc, hd'.trans hd⟩
theorem Pw.still (h : Pw w0 w wb mb rb fv n c d g m) (f : Fr Nil w w') : Pw w0 w' wb mb rb fv n c d g m := by
  obtain ⟨hb, q, s, av, F, hp, hq⟩ := h
  exact ⟨hb.fr0 f, q, s, av, F, hp.still f, hq⟩
theorem Pw.fr (h : Pw w0 w wb mb rb fv n c d g m) : Fr Nil w0 w := by
  obtain ⟨hb, q, s, av, F, hp, hq⟩ := h
  exact hp.pd.fr
/-- How many there are: both tell the same. -/
theorem Pw.count (h : Pw w0 w wb mb rb fv n c d g m) (hm : m ≤ 200) : g.length ≤ 200 ∧ (∃ ao cap, w.cell? ⟨rb, 3, none⟩ = some (.slice ao g.length cap)) ∧
    ∀ w', Fr Nil w w' → Calls Try.prog 21 #[.pointer (some ⟨mb, 0, none⟩)] w' fun e w2 => e = .returned (.int .i64 (g.length : Int)) ∧ w2 = w' := by
  obtain ⟨hb, q, s, av, F, hp, hq, hn, hc, hd⟩ := h
  subst hq
  have hl := hp.len
  have hs := hp.stl
  refine ⟨by omega, ?_, fun w' f => ?_⟩
  · obtain ⟨ao, cap, e, _⟩ := hp.pd.hr.all.shape
    rw [als_len] at e
    exact ⟨ao, cap, by rw [← e]; exact hp.pd.hr.top.cellv rfl⟩
  · have := tickets_ok q s w' (hp.pd.hm.fr0 f) (by omega)
    rw [hs, show (((g.length + 1 : Nat) : Int) - 1) = (g.length : Int) by omega] at this
    exact this.mono fun e w2 h => ⟨h.1, h.2.symm⟩
/-- In the end: the same order of both, and the stamps. -/
theorem Pw.orders (h : Pw w0 w wb mb rb fv n c d g m) (hm : m ≤ 200) : ∃ od : List Nat, od.length ≤ 200 ∧ (∀ w', Fr Nil w w' → Calls Try.prog 22 #[.pointer (some ⟨mb, 0, none⟩)] w' (RHeldTo w' od)) ∧
    (∀ w', Fr Nil w w' → Calls Try.prog 33 #[.pointer (some ⟨rb, 0, none⟩)] w' (RHeldTo w' od)) ∧
    (∀ w', Fr Nil w w' → ∀ t : Int, t < 1 ∨ (g.length : Int) + 1 ≤ t → Calls Try.prog 30 #[.pointer (some ⟨mb, 0, none⟩), .int .i64 t] w' fun e w2 => e = .returned (.int .i64 0) ∧ w' = w2) ∧
    ∀ w', Fr Nil w w' → ∀ (j t : Nat), od[j]? = some t → Calls Try.prog 30 #[.pointer (some ⟨mb, 0, none⟩), .int .i64 (t : Int)] w' fun e w2 => e = .returned (.int .i64 ((j : Int) + 1)) ∧ w2 = w' := by
  obtain ⟨hb, q, s, av, F, hp, hq, hn, hc, hd⟩ := h
  subst hq
  have hl := hp.len
  have hs := hp.stl
  have ho := hp.odl
  refine ⟨s.od, by omega, fun w' f => ?_, fun w' f => ?_, fun w' f t ht => ?_, fun w' f j t hj => ?_⟩
  · refine (order_ok q s w' (hp.pd.hm.fr0 f) (by omega)).mono ?_
    rintro e w2 ⟨v, rfl, hw, f2, o2⟩
    obtain ⟨ao, cap, ev, _⟩ := hw.shape
    subst ev
    exact ⟨ao, cap, rfl, hw, f2, o2⟩
  · exact rorder_ok rb fv av s.n s.c s.d F (als g s.st) s.od w' (hp.pd.hr.fr0 f) hp.ok.ordd (by rw [als_len]; omega) (by omega)
  · exact stamp_out q s t w' (hp.pd.hm.fr0 f) (by omega) (by rw [hs]; omega)
  · obtain ⟨h1, h2⟩ := hp.ok.ord j t hj
    exact (stamp_ok q s t (j + 1) w' (hp.pd.hm.fr0 f) (by omega) h1 h2).mono fun e w2 h => ⟨h.1, h.2.symm⟩
end
theorem Pw.start {w0 w wm w5 : World} {rb : Nat} {q : Bs} {fv : Value} {n c d : Nat} (f0 : Fr Nil w0 w) (hm : MemAt wm q (St0 n c d)) (f1 : Fr Nil w wm) (o1 : ∀ k, Foot q (St0 n c d) k → w.heap.size ≤ k)
    (hr : RAt w5 rb fv (.slice none 0 0) n c d (fun _ => 0) [] 0) (f2 : Fr Nil wm w5) (o2 : ∀ k, RFt rb fv (.slice none 0 0) k → wm.heap.size ≤ k)
    (h1 : 1 ≤ n ∧ n ≤ 8192) (h2 : 1 ≤ c ∧ c ≤ 8) (h3 : 1 ≤ d ∧ d ≤ 32) :
    Pw w0 (w5.alloc (.cells #[.pointer (some ⟨q.b, 0, none⟩), .pointer (some ⟨rb, 0, none⟩)] 66)) w5.heap.size q.b rb fv n c d [] 0 := by
  refine ⟨Blk.new w5 66 _, q, St0 n c d, .slice none 0 0, fun _ => 0, ⟨?_, Ok.start n c d, h1, h2, h3, Nat.le_refl _, fun e he => (by cases he), fun k => ⟨by decide, by decide⟩⟩, rfl, rfl, rfl, rfl⟩
  have hm5 := hm.fr0 f2
  have hsz := f1.size
  have hsz2 := f2.size
  have p5 : Pd w0 w5 (fun _ => False) rb q (St0 n c d) fv (.slice none 0 0) (fun _ => 0) [] 0 := by
    refine ⟨hm5, hr, fun k hk => hk.elim, fun k hk hf => ?_, fun k hk => Nat.le_trans f0.size (o1 k hk), fun k hk => Nat.le_trans (f0.trans f1).size (o2 k hk), (f0.trans f1).trans f2⟩
    have := hm.lt hf
    have := o2 k hk
    omega
  exact (p5.more _).less fun k hk => .inr hk
end Go.Proofs.Ytjbdbmahbcaniaa
