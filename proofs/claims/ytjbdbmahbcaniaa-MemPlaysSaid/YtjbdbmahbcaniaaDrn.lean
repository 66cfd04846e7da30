/- Contracts of Drain. -/
import Derived.Test.YtjbdbmahbcaniaaHold
set_option linter.unusedSimpArgs false
set_option linter.unusedSectionVars false
namespace Go.Proofs.Ytjbdbmahbcaniaa
open Go.RowKit
set_option linter.unusedVariables false

def St.pop (s : St) (i : Nat) (l : List L) : St := { s with H := upd s.H i l }
theorem Win.tail1 {w : World} {e : TypeId} {size g off : Nat} {xs : List Value} (h : Win w e size (.slice (some ⟨g, off, none⟩) 1 1) 1 xs) : Win w e size (.slice (some ⟨g, off, none⟩) 0 0) 0 [] := by
  rcases h.2 with ⟨h0, _⟩ | ⟨g', off', cap', cs, hv, hb, h1, h2, h3, h4⟩
  · cases h0
  · cases hv
    exact ⟨by simp, .inr ⟨g, off, 0, cs, rfl, hb, Nat.le_refl _, by simp [maxLen], by omega, by simp⟩⟩
theorem drain_bad (q : Bs) (s : St) (c : Int) (w : World) (hm : MemAt w q s) (h : c < 0 ∨ (s.c : Int) ≤ c) :
    Calls Try.prog 24 #[.pointer (some ⟨q.b, 0, none⟩), .int .i64 c] w fun e w' => e = .returned (.tuple #[.agg #[.int .u64 0, .int .u64 0, .int .i64 0], .int .i64 1]) ∧ Fr Nil w w' := by
  have F0 : Fr Nil w (w.alloc (.cells #[.int .u64 0, .int .u64 0, .int .i64 0] 47)) := (Fr.refl Nil w).alloc _
  have HC := Lib.hid (core_ok q s c _ (hm.fr0 F0))
  have hd : decide (0 ≤ c ∧ c < (s.c : Int)) = false := by simp; omega
  rw [hd] at HC
  clear hm h hd F0
  go_enter Try.func24, Try.ntmps24
  go_wp2_with fail
  refine HC.out.mono ?_
  rintro e w2 ⟨rfl, rfl⟩
  go_wp2_with fail
  exact bodyPost_ret (v := .tuple #[.agg #[.int .u64 0, .int .u64 0, .int .i64 0], .int .i64 1]) (by simp [results, Try.results24, go_sem]) rfl ⟨rfl, (Fr.refl Nil w).alloc _⟩
theorem drain_none (q : Bs) (s : St) (i : Nat) (w : World) (hm : MemAt w q s) (hi : i < s.c) (hl : s.H i = []) :
    Calls Try.prog 24 #[.pointer (some ⟨q.b, 0, none⟩), .int .i64 (i : Int)] w fun e w' => e = .returned (.tuple #[.agg #[.int .u64 0, .int .u64 0, .int .i64 0], .int .i64 31]) ∧ Fr Nil w w' := by
  have F0 : Fr Nil w (w.alloc (.cells #[.int .u64 0, .int .u64 0, .int .i64 0] 47)) := (Fr.refl Nil w).alloc _
  have HC := Lib.hid (core_ok q s (i : Int) _ (hm.fr0 F0))
  have hd : decide (0 ≤ (i : Int) ∧ (i : Int) < (s.c : Int)) = true := by simp; omega
  rw [hd] at HC
  have c1 : (w.alloc (.cells #[.int .u64 0, .int .u64 0, .int .i64 0] 47)).cell? ⟨q.b, 1, none⟩ = some (.slice (some ⟨q.bh, 0, none⟩) s.c s.c) := (hm.fr0 F0).top.cellv rfl
  have c2 : (w.alloc (.cells #[.int .u64 0, .int .u64 0, .int .i64 0] 47)).cell? ⟨q.bh, i, none⟩ = some (q.hv i) := (hm.fr0 F0).held.cellv (hvs_get hi)
  obtain ⟨ao, cap, hv, _, _, _⟩ := (hm.own i hi).shape
  rw [hl] at hv
  rw [hv] at c2
  have i0 : (0 : Int) ≤ (i : Int) := by omega
  have i1 : (i : Int) < (s.c : Int) := by omega
  clear hm hv hl hd F0 hi
  go_enter Try.func24, Try.ntmps24
  go_wp2_with fail
  refine HC.out.mono ?_
  rintro e w2 ⟨rfl, rfl⟩
  go_wp2_with fail
  exact bodyPost_ret (v := .tuple #[.agg #[.int .u64 0, .int .u64 0, .int .i64 0], .int .i64 31]) (by simp [results, Try.results24, go_sem]) rfl ⟨rfl, (Fr.refl Nil w).alloc _⟩
/-- Blocks of the call's own, which turn at the end. -/
theorem Upd.close {w w0 w2 w3 : World} {q : Bs} {s s1 : St} {S : Nat → Prop} (hm : MemAt w q s) (hf : Fr Nil w w0) (h : Upd w0 q s s1 w2) (hs : Fr S w2 w3) (hS : ∀ k, S k → w.heap.size ≤ k ∧ k < w0.heap.size) : Upd w q s s1 w3 := by
  obtain ⟨q2, e2, m2, f2, t2⟩ := h
  refine ⟨q2, e2, m2.fr hs fun k hk hk2 => ?_, (hf.nil.trans f2).step hs fun i _ hi => .inr (hS i hi).1, fun k hk => (t2 k hk).imp id (Nat.le_trans hf.size)⟩
  obtain ⟨h1, h2⟩ := hS k hk2
  rcases t2 k hk with h | h
  · have := hm.lt h; omega
  · omega
theorem Upd.blk {w w2 : World} {q : Bs} {s s1 : St} {g : Nat} {t : TypeId} {cs : Array Value} (h : Upd w q s s1 w2) (hb : Blk w g t cs) (hn : ¬ Foot q s g) : Blk w2 g t cs := by
  obtain ⟨q2, e2, m2, f2, t2⟩ := h
  exact hb.fr f2 hn
set_option maxHeartbeats 1000000 in
theorem drain_ok (q : Bs) (s : St) (i : Nat) (x : L) (l : List L) (k : Nat) (w : World) (hm : MemAt w q s) (hi : i < s.c) (hx : s.H i = x :: l) (hk : k < s.n) (hn : s.n ≤ 8192) (ha : x.a = 8 * (k : Int)) (ht : x.t < s.st.length) (hs : s.st.length ≤ 1000000) (ho : s.od.length ≤ 1000000) :
    Calls Try.prog 24 #[.pointer (some ⟨q.b, 0, none⟩), .int .i64 (i : Int)] w fun e w' => e = .returned (.tuple #[.agg #[.int .u64 x.a, .int .u64 x.v, .int .i64 (x.t : Int)], .int .i64 0]) ∧ Upd w q s ((s.pop i l).reach x k) w' := by
  have F0 : Fr Nil w (w.alloc (.cells #[.int .u64 0, .int .u64 0, .int .i64 0] 47)) := (Fr.refl Nil w).alloc _
  have M0 := hm.fr0 F0
  have HC := Lib.hid (core_ok q s (i : Int) _ M0)
  have hd : decide (0 ≤ (i : Int) ∧ (i : Int) < (s.c : Int)) = true := by simp; omega
  rw [hd] at HC
  have c1 : (w.alloc (.cells #[.int .u64 0, .int .u64 0, .int .i64 0] 47)).cell? ⟨q.b, 1, none⟩ = some (.slice (some ⟨q.bh, 0, none⟩) s.c s.c) := M0.top.cellv rfl
  have hw := M0.own i hi
  rw [hx] at hw
  obtain ⟨g, off, cap, hv, hle, hmx, _, hcell, _⟩ := hw.form (by simp)
  have c2 : (w.alloc (.cells #[.int .u64 0, .int .u64 0, .int .i64 0] 47)).cell? ⟨q.bh, i, none⟩ = some (.slice (some ⟨g, off, none⟩) (l.length + 1) cap) := by
    rw [← List.length_cons (a := x), ← hv]; exact M0.held.cellv (hvs_get hi)
  have d0 : (w.alloc (.cells #[.int .u64 0, .int .u64 0, .int .i64 0] 47)).cell? ⟨g, off, none⟩ = some (.int .u64 x.a) := hcell 0 _ (lcs_get (l := x :: l) (i := 0) rfl (j := 0) (by omega))
  have d1 : (w.alloc (.cells #[.int .u64 0, .int .u64 0, .int .i64 0] 47)).cell? ⟨g, off + 1, none⟩ = some (.int .u64 x.v) := hcell 1 _ (lcs_get (l := x :: l) (i := 0) rfl (j := 1) (by omega))
  have d2 : (w.alloc (.cells #[.int .u64 0, .int .u64 0, .int .i64 0] 47)).cell? ⟨g, off + 2, none⟩ = some (.int .i64 (x.t : Int)) := hcell 2 _ (lcs_get (l := x :: l) (i := 0) rfl (j := 2) (by omega))
  have i0 : (0 : Int) ≤ (i : Int) := by omega
  have i1 : (i : Int) < (s.c : Int) := by omega
  have l0 : (0 : Int) ≤ (l.length : Int) := by omega
  have HM := Lib.hid hm
  have HX := Lib.hid hx
  have HV := Lib.hid hv
  have HI := Lib.hid hi
  have HA := Lib.hid ha
  clear ha
  have hfoot : ∀ k, Foot q s k → k < w.heap.size := fun k => hm.lt
  have HF := Lib.hid hfoot
  clear M0 hm hx hv hcell hw hd F0 hfoot hi
  have hcap : (cap : Int) ≤ 9223372036854775807 := by simp only [maxLen] at hmx; omega
  clear hmx
  go_enter Try.func24, Try.ntmps24
  go_wp2_with fail
  refine HC.out.mono ?_
  rintro e w2 ⟨rfl, rfl⟩
  go_upto_region 6 with fail
  have bA : Blk ((w.alloc (.cells #[.int .u64 0, .int .u64 0, .int .i64 0] 47)).alloc (.cells #[.int .u64 x.a, .int .u64 x.v, .int .i64 (x.t : Int)] 47)) w.heap.size 47 #[.int .u64 0, .int .u64 0, .int .i64 0] := (Blk.new w 47 _).alloc _
  have bX : Blk ((w.alloc (.cells #[.int .u64 0, .int .u64 0, .int .i64 0] 47)).alloc (.cells #[.int .u64 x.a, .int .u64 x.v, .int .i64 (x.t : Int)] 47)) (w.heap.size + 1) 47 #[.int .u64 x.a, .int .u64 x.v, .int .i64 (x.t : Int)] := Blk.new2 w _ 47 _
  have F1 : Fr Nil w ((w.alloc (.cells #[.int .u64 0, .int .u64 0, .int .i64 0] 47)).alloc (.cells #[.int .u64 x.a, .int .u64 x.v, .int .i64 (x.t : Int)] 47)) := ((Fr.refl Nil w).alloc _).alloc _
  have hsz : ((w.alloc (.cells #[.int .u64 0, .int .u64 0, .int .i64 0] 47)).alloc (.cells #[.int .u64 x.a, .int .u64 x.v, .int .i64 (x.t : Int)] 47)).heap.size = w.heap.size + 2 := by simp
  generalize ((w.alloc (.cells #[.int .u64 0, .int .u64 0, .int .i64 0] 47)).alloc (.cells #[.int .u64 x.a, .int .u64 x.v, .int .i64 (x.t : Int)] 47)) = w0 at *
  have M0 := HM.out.fr0 F1
  have c1 : w0.cell? ⟨q.b, 1, none⟩ = some (.slice (some ⟨q.bh, 0, none⟩) s.c s.c) := M0.top.cellv rfl
  have c2 : w0.cell? ⟨q.bh, i, none⟩ = some (.slice (some ⟨g, off, none⟩) (l.length + 1) cap) := by
    rw [← List.length_cons (a := x), ← HV.out]; exact M0.held.cellv (hvs_get HI.out)
  have f2 : w0.frozen? ⟨q.bh, i, none⟩ = false := M0.held.frozen i
  have n1 : ¬ Foot q s w.heap.size := fun h => Nat.lt_irrefl _ (HF.out _ h)
  have n2 : ¬ Foot q s (w.heap.size + 1) := fun h => by have := HF.out _ h; omega
  have hwin := M0.own i HI.out
  rw [HX.out, HV.out] at hwin
  have hat : (q.hv i).ownBlock = some g := by rw [HV.out]; rfl
  have UU : ∀ v', Win w0 47 3 v' l.length (lcs l) → v'.ownBlock = some g → Upd w0 q s (s.pop i l) (w0.setCell ⟨q.bh, i, none⟩ v') := fun v' h1 h2 =>
    M0.setHv HI.out (Fr.refl _ _) h1 fun k hk => .inl (by rw [hat, ← h2, hk])
  have UUH := Lib.hid UU
  have BA := Lib.hid bA
  have BX := Lib.hid bX
  have FF := Lib.hid F1
  have SZ := Lib.hid hsz
  have N1 := Lib.hid n1
  have N2 := Lib.hid n2
  have HW := Lib.hid hwin
  clear UU bA bX F1 n1 n2 hwin hat M0 hsz d0 d1 d2
  have hz : w0.cell? ⟨q.bh, i, none⟩ = some (.slice (some ⟨g, off, none⟩) (l.length + 1) cap) := c2
  by_cases hc1 : cap = 1
  · have hl0 : l = [] := List.eq_nil_of_length_eq_zero (by simp at hle; omega)
    subst hc1 hl0
    go_region
    have U1 : Upd w0 q s (s.pop i []) (w0.setCell ⟨q.bh, i, none⟩ (.slice (some ⟨g, off, none⟩) 0 0)).drew := (UUH.out _ (Win.tail1 HW.out) rfl).fr0 (Fr.refl Nil _).drew
    have BA1 : Blk (w0.setCell ⟨q.bh, i, none⟩ (.slice (some ⟨g, off, none⟩) 0 0)).drew w.heap.size 47 #[.int .u64 0, .int .u64 0, .int .i64 0] := (BA.out.farc (fun e => N1.out (.inr (.inr (.inl e)))) _).drew
    have BX1 : Blk (w0.setCell ⟨q.bh, i, none⟩ (.slice (some ⟨g, off, none⟩) 0 0)).drew (w.heap.size + 1) 47 #[.int .u64 x.a, .int .u64 x.v, .int .i64 (x.t : Int)] := (BX.out.farc (fun e => N2.out (.inr (.inr (.inl e)))) _).drew
    generalize (w0.setCell ⟨q.bh, i, none⟩ (.slice (some ⟨g, off, none⟩) 0 0)).drew = w1 at *
    have b0 : w1.cell? ⟨w.heap.size + 1, 0, none⟩ = some (.int .u64 x.a) := BX1.cellv rfl
    have b1 : w1.cell? ⟨w.heap.size + 1, 1, none⟩ = some (.int .u64 x.v) := BX1.cellv rfl
    have b2 : w1.cell? ⟨w.heap.size + 1, 2, none⟩ = some (.int .i64 (x.t : Int)) := BX1.cellv rfl
    have UH := Lib.hid U1
    clear U1 c1 c2 f2 hz
    obtain ⟨q1, e1, m1, f1, t1⟩ := UH.out
    have RR := reach_ok q1 (s.pop i []) x k w1 m1 hk hn HA.out ht hs ho
    rw [e1] at RR
    have RH := Lib.hid RR
    have E1 := Lib.hid e1
    have F1 := Lib.hid f1
    have K1 := Lib.hid t1
    have BX2 := Lib.hid BX1
    have HT := Lib.hid ht
    clear RR e1 f1 t1 m1 BX1 ht BA1
    go_wp2_with fail
    refine RH.out.mono ?_
    rintro e w2 ⟨rfl, U2⟩
    have U3 := Upd.chain E1.out F1.out K1.out U2
    have BX3 := U3.blk BX.out N2.out
    have BA3 := U3.blk BA.out N1.out
    have d0 : w2.cell? ⟨w.heap.size + 1, 0, none⟩ = some (.int .u64 x.a) := BX3.cellv rfl
    have d1 : w2.cell? ⟨w.heap.size + 1, 1, none⟩ = some (.int .u64 x.v) := BX3.cellv rfl
    have d2 : w2.cell? ⟨w.heap.size + 1, 2, none⟩ = some (.int .i64 (x.t : Int)) := BX3.cellv rfl
    have a0 : w2.cell? ⟨w.heap.size, 0, none⟩ = some (.int .u64 0) := BA3.cellv rfl
    have a1 : w2.cell? ⟨w.heap.size, 1, none⟩ = some (.int .u64 0) := BA3.cellv rfl
    have a2 : w2.cell? ⟨w.heap.size, 2, none⟩ = some (.int .i64 0) := BA3.cellv rfl
    have g0 := BA3.frozen 0
    have g1 := BA3.frozen 1
    have g2 := BA3.frozen 2
    have BB := (((BA3.set_ 0 (.int .u64 x.a)).set_ 1 (.int .u64 x.v)).set_ 2 (.int .i64 (x.t : Int)))
    have FB := (((Fr.refl (One w.heap.size) w2).set1 (i := 0) (.int .u64 x.a)).set1 (i := 1) (.int .u64 x.v)).set1 (i := 2) (.int .i64 (x.t : Int))
    have U4 := Upd.close HM.out FF.out U3 FB (fun k hk => by cases hk; exact ⟨Nat.le_refl _, by rw [SZ.out]; omega⟩)
    have U4H := Lib.hid U4
    have BBH := Lib.hid BB
    clear U4 BB FB U3 U2 BA3 BX3
    go_wp2_with fail
    refine bodyPost_ret (v := .tuple #[.agg #[.int .u64 x.a, .int .u64 x.v, .int .i64 (x.t : Int)], .int .i64 0]) ?_ rfl ⟨rfl, U4H.out⟩
    exact results_cell_tmp (p := 4) (q := 5) (ty := 47) Try.results24 _ _ w.heap.size _ _ rfl BBH.out Try.underlying47 rfl (by kernel_rfl)
  · have hc2 : (cap = 1) = False := by simp [hc1]
    go_region
    have hw3 := Win.tail HW.out
    rw [lcs_drop] at hw3
    have HW3 := Lib.hid hw3
    clear hw3
    have U1 : Upd w0 q s (s.pop i l) (w0.setCell ⟨q.bh, i, none⟩ (.slice (some ⟨g, off + 3, none⟩) l.length (cap - 1))).drew := (UUH.out _ HW3.out rfl).fr0 (Fr.refl Nil _).drew
    have BA1 : Blk (w0.setCell ⟨q.bh, i, none⟩ (.slice (some ⟨g, off + 3, none⟩) l.length (cap - 1))).drew w.heap.size 47 #[.int .u64 0, .int .u64 0, .int .i64 0] := (BA.out.farc (fun e => N1.out (.inr (.inr (.inl e)))) _).drew
    have BX1 : Blk (w0.setCell ⟨q.bh, i, none⟩ (.slice (some ⟨g, off + 3, none⟩) l.length (cap - 1))).drew (w.heap.size + 1) 47 #[.int .u64 x.a, .int .u64 x.v, .int .i64 (x.t : Int)] := (BX.out.farc (fun e => N2.out (.inr (.inr (.inl e)))) _).drew
    generalize (w0.setCell ⟨q.bh, i, none⟩ (.slice (some ⟨g, off + 3, none⟩) l.length (cap - 1))).drew = w1 at *
    have b0 : w1.cell? ⟨w.heap.size + 1, 0, none⟩ = some (.int .u64 x.a) := BX1.cellv rfl
    have b1 : w1.cell? ⟨w.heap.size + 1, 1, none⟩ = some (.int .u64 x.v) := BX1.cellv rfl
    have b2 : w1.cell? ⟨w.heap.size + 1, 2, none⟩ = some (.int .i64 (x.t : Int)) := BX1.cellv rfl
    have UH := Lib.hid U1
    clear U1 c1 c2 f2 hz
    obtain ⟨q1, e1, m1, f1, t1⟩ := UH.out
    have RR := reach_ok q1 (s.pop i l) x k w1 m1 hk hn HA.out ht hs ho
    rw [e1] at RR
    have RH := Lib.hid RR
    have E1 := Lib.hid e1
    have F1 := Lib.hid f1
    have K1 := Lib.hid t1
    have BX2 := Lib.hid BX1
    have HT := Lib.hid ht
    clear RR e1 f1 t1 m1 BX1 ht BA1
    go_wp2_with fail
    refine RH.out.mono ?_
    rintro e w2 ⟨rfl, U2⟩
    have U3 := Upd.chain E1.out F1.out K1.out U2
    have BX3 := U3.blk BX.out N2.out
    have BA3 := U3.blk BA.out N1.out
    have d0 : w2.cell? ⟨w.heap.size + 1, 0, none⟩ = some (.int .u64 x.a) := BX3.cellv rfl
    have d1 : w2.cell? ⟨w.heap.size + 1, 1, none⟩ = some (.int .u64 x.v) := BX3.cellv rfl
    have d2 : w2.cell? ⟨w.heap.size + 1, 2, none⟩ = some (.int .i64 (x.t : Int)) := BX3.cellv rfl
    have a0 : w2.cell? ⟨w.heap.size, 0, none⟩ = some (.int .u64 0) := BA3.cellv rfl
    have a1 : w2.cell? ⟨w.heap.size, 1, none⟩ = some (.int .u64 0) := BA3.cellv rfl
    have a2 : w2.cell? ⟨w.heap.size, 2, none⟩ = some (.int .i64 0) := BA3.cellv rfl
    have g0 := BA3.frozen 0
    have g1 := BA3.frozen 1
    have g2 := BA3.frozen 2
    have BB := (((BA3.set_ 0 (.int .u64 x.a)).set_ 1 (.int .u64 x.v)).set_ 2 (.int .i64 (x.t : Int)))
    have FB := (((Fr.refl (One w.heap.size) w2).set1 (i := 0) (.int .u64 x.a)).set1 (i := 1) (.int .u64 x.v)).set1 (i := 2) (.int .i64 (x.t : Int))
    have U4 := Upd.close HM.out FF.out U3 FB (fun k hk => by cases hk; exact ⟨Nat.le_refl _, by rw [SZ.out]; omega⟩)
    have U4H := Lib.hid U4
    have BBH := Lib.hid BB
    clear U4 BB FB U3 U2 BA3 BX3
    go_wp2_with fail
    refine bodyPost_ret (v := .tuple #[.agg #[.int .u64 x.a, .int .u64 x.v, .int .i64 (x.t : Int)], .int .i64 0]) ?_ rfl ⟨rfl, U4H.out⟩
    exact results_cell_tmp (p := 4) (q := 5) (ty := 47) Try.results24 _ _ w.heap.size _ _ rfl BBH.out Try.underlying47 rfl (by kernel_rfl)
end Go.Proofs.Ytjbdbmahbcaniaa
