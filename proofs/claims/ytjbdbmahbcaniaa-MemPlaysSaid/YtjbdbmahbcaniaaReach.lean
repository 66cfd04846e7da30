/- Contract of reach: a store reaches memory. -/
import Derived.Test.YtjbdbmahbcaniaaRead
import Derived.Deep.RegionHeld3
import Derived.Deep.MidRow
import Derived.Deep.RegionLaw
set_option linter.unusedSimpArgs false
set_option linter.unusedSectionVars false
namespace Go.Proofs.Ytjbdbmahbcaniaa
open Go.RowKit
set_option linter.unusedVariables false

theorem Try.info79 : (Try.prog.info? 79).map (·.size) = some 2 := by kernel_rfl
def St.reach (s : St) (x : L) (k : Nat) : St := { s with V := upd s.V k x.v, T := upd s.T k x.t, od := s.od ++ [x.t], st := s.st.set x.t (s.od.length + 1) }
theorem wcs_sett {V : Nat → Int} {T : Nat → Nat} {n k : Nat} (h : k < n) (x : Nat) : (wcs V T n).setIfInBounds (k * 2 + 1) (.int .i64 (x : Int)) = wcs V (upd T k x) n := by
  unfold wcs
  rw [List.setIfInBounds_toArray]
  congr 1
  rw [rows_set (word V T) 2 (word_length V T) (j := 1) h (by omega) (.int .i64 (x : Int))]
  refine rows_congr fun i _ => ?_
  by_cases hi : i = k
  · subst hi; rw [upd_same]; simp [word, upd_same]
  · rw [upd_other _ _ hi]; simp [word, upd_other _ _ hi]
theorem World.cell_two (w : World) (b i j : Nat) (u v : Value) {g o : Nat} (h : g ≠ b) : ((w.setCell ⟨b, i, none⟩ u).setCell ⟨b, j, none⟩ v).drew.cell? ⟨g, o, none⟩ = w.cell? ⟨g, o, none⟩ :=
  World.cell?_of_block (w := w) (by
    show ((w.setCell ⟨b, i, none⟩ u).setCell ⟨b, j, none⟩ v).heap[g]? = w.heap[g]?
    rw [Below.heap_setCell _ _ _ _ h, Below.heap_setCell _ _ _ _ h])
set_option maxHeartbeats 1000000 in
theorem reach_ok (q : Bs) (s : St) (x : L) (k : Nat) (w : World) (hm : MemAt w q s) (hk : k < s.n) (hn : s.n ≤ 8192) (ha : x.a = 8 * (k : Int)) (ht : x.t < s.st.length) (hs : s.st.length ≤ 1000000) (ho : s.od.length ≤ 1000000) :
    Calls Try.prog 39 #[.pointer (some ⟨q.b, 0, none⟩), .agg #[.int .u64 x.a, .int .u64 x.v, .int .i64 (x.t : Int)]] w fun e w' => e = .returned (.tuple #[]) ∧ Upd w q s (s.reach x k) w' := by
  have HM := Lib.hid hm
  have HK := Lib.hid hk
  have HA := Lib.hid (fun w' (h : MemAt w' q s) => at_ok q s x.a k w' h hk hn ha)
  have hu := Try.underlying79
  have hi := Try.info79
  have k0 : (0 : Int) ≤ (k : Int) := by omega
  clear hm hk hn ha
  go_enter Try.func39, Try.ntmps39
  go_upto_region 1 with fail
  have hB := Blk.new w 47 #[.int .u64 x.a, .int .u64 x.v, .int .i64 (x.t : Int)]
  have F0 : Fr Nil w (w.alloc (.cells #[.int .u64 x.a, .int .u64 x.v, .int .i64 (x.t : Int)] 47)) := (Fr.refl Nil w).alloc _
  have M0 := HM.out.fr0 F0
  have nf : ¬ Foot q s w.heap.size := fun h => Nat.lt_irrefl _ (HM.out.lt h)
  have hle : w.heap.size ≤ w.heap.size := Nat.le_refl _
  generalize (w.alloc (.cells #[.int .u64 x.a, .int .u64 x.v, .int .i64 (x.t : Int)] 47)) = w0 at *
  generalize w.heap.size = B at *
  have c1 : w0.cell? ⟨B, 0, none⟩ = some (.int .u64 x.a) := hB.cellv rfl
  have c2 : w0.cell? ⟨B, 1, none⟩ = some (.int .u64 x.v) := hB.cellv rfl
  have c3 : w0.cell? ⟨B, 2, none⟩ = some (.int .i64 (x.t : Int)) := hB.cellv rfl
  have c4 : w0.cell? ⟨q.bw, k * 2, none⟩ = some (.int .u64 (s.V k)) := M0.words.cellv (wcs_v HK.out)
  have c5 : w0.cell? ⟨q.bw, k * 2 + 1, none⟩ = some (.int .i64 (s.T k : Int)) := M0.words.cellv (wcs_t HK.out)
  have f4 : w0.frozen? ⟨q.bw, k * 2, none⟩ = false := M0.words.frozen _
  have f5 : w0.frozen? ⟨q.bw, k * 2 + 1, none⟩ = false := M0.words.frozen _
  have HM0 := Lib.hid M0
  have HB := Lib.hid hB
  have hbw : B ≠ q.bw := fun e => nf (.inr (.inl e))
  clear hB M0
  go_region_held3 (fun w' => w'.cell? ⟨B, 0, none⟩ = some (.int .u64 x.a) ∧ w'.cell? ⟨B, 1, none⟩ = some (.int .u64 x.v) ∧ w'.cell? ⟨B, 2, none⟩ = some (.int .i64 (x.t : Int))) (first | exact ⟨c1, c2, c3⟩ | exact ⟨(World.cell_two _ _ _ _ _ _ hbw).trans c1, (World.cell_two _ _ _ _ _ _ hbw).trans c2, (World.cell_two _ _ _ _ _ _ hbw).trans c3⟩) (first | (go_at_call 34; refine (HA.out _ (HM0.out.fr0 ((Fr.refl Nil w0).drew))).mono ?_; rintro e w2 ⟨rfl, rfl⟩) | fail)
  have U1 : Upd w0 q s { s with V := upd s.V k x.v, T := upd s.T k x.t } ((w0.setCell ⟨q.bw, k * 2, none⟩ (.int .u64 x.v)).setCell ⟨q.bw, k * 2 + 1, none⟩ (.int .i64 (x.t : Int))).drew :=
    HM0.out.setWords (((Fr.refl (One q.bw) w0).set1 _).set1 _).drew ((((HM0.out.words.set_ (k * 2) (.int .u64 x.v)).cast (wcs_setv HK.out x.v)).set_ (k * 2 + 1) (.int .i64 (x.t : Int))).cast (wcs_sett HK.out x.t)).drew
  have B1 : Blk ((w0.setCell ⟨q.bw, k * 2, none⟩ (.int .u64 x.v)).setCell ⟨q.bw, k * 2 + 1, none⟩ (.int .i64 (x.t : Int))).drew B 47 #[.int .u64 x.a, .int .u64 x.v, .int .i64 (x.t : Int)] := ((HB.out.farc hbw _).farc hbw _).drew
  generalize ((w0.setCell ⟨q.bw, k * 2, none⟩ (.int .u64 x.v)).setCell ⟨q.bw, k * 2 + 1, none⟩ (.int .i64 (x.t : Int))).drew = w1 at *
  clear c1 c2 c3 c4 c5 f4 f5 hu hi HA hbw
  have U1' := Lib.hid U1
  clear U1
  obtain ⟨q1, e1, m1, f1, t1⟩ := U1'.out
  generalize hs1 : { s with V := upd s.V k x.v, T := upd s.T k x.t } = s1 at *
  have eo : s1.od = s.od := by rw [← hs1]
  have es : s1.st = s.st := by rw [← hs1]
  have c1 : w1.cell? ⟨B, 2, none⟩ = some (.int .i64 (x.t : Int)) := B1.cellv rfl
  have co : w1.cell? ⟨q.b, 4, none⟩ = some q1.ov := by rw [← e1]; exact m1.top.cellv rfl
  have hw := m1.order
  have hne : q1.ov.ownBlock ≠ some q1.b := m1.order.ne m1.top (by decide)
  have ho1 : s1.od.length ≤ 1000000 := by rw [eo]; exact ho
  obtain ⟨ao, cap, hv, _, _, _⟩ := m1.order.shape
  have htop := m1.top
  rw [e1] at htop hne
  rw [hv] at co hw hne htop
  have HW := Lib.hid hw
  have HT := Lib.hid htop
  have HN := Lib.hid hne
  have HV := Lib.hid hv
  have HM1 := Lib.hid m1
  have HB1 := Lib.hid B1
  have HE := Lib.hid hs1
  have HO := Lib.hid ho1
  have HEO := Lib.hid eo
  have HES := Lib.hid es
  have HS := Lib.hid hs
  have HTT := Lib.hid ht
  clear hw htop hne hv m1 B1 hs1 ho1 ht hs ho eo es
  obtain ⟨i3, hi, hz0, hz1, hz2⟩ := info_parts Try.info3
  go_upto_region 2 with fail
  have coA := (HT.out.alloc (.cells #[.int .i64 (x.t : Int)] 3)).cellv (i := 4) rfl
  have c1A := (HB1.out.alloc (.cells #[.int .i64 (x.t : Int)] 3)).cellv (i := 2) rfl
  go_region_law (refine step_append_win _ rfl (.tmp 18) (.tmp 21) 39 rfl 3 i3 (.int .i64 0) 1 8 Try.underlying39 hi hz0 hz1 hz2 rfl (by decide) _ _ _ rfl (HW.out.drew.alloc _) ⟨w1.heap.size, 0, none⟩ 1 1 [.int .i64 (x.t : Int)] rfl rfl (cell_one_new w1.drew _ _) (by simp [Value.oneCell']) (by omega) (by have := HO.out; simp only [maxLen]; omega) (by have := HO.out; omega) (w1.heap.size + 1) (by simp) ?_; intro g off cap' w2 hw2 hgr hat; have hgr' : w1.grownBy w2 (Value.slice ao s1.od.length cap).ownBlock := (let h := (World.grownBy_alloc w1.drew _ _).trans hgr; ⟨h.os, h.tape, h.output, h.size, h.block⟩); have hat' : (Value.slice ao s1.od.length cap).ownBlock = some g ∨ w1.heap.size ≤ g := hat.imp id (fun h => by rw [h]; exact Nat.le_add_right _ _); clear hgr hat; have hc1 := (HT.out.grown hgr' (Ne.symm HN.out)).cellv (i := 4) rfl; have hf1 := (HT.out.grown hgr' (Ne.symm HN.out)).frozen 4)
  all_goals
    have U2 : Upd w1 q1 s1 { s1 with od := s1.od ++ [x.t] } (w2.setCell ⟨q.b, 4, none⟩ (.slice (some ⟨g, off, none⟩) (s1.od.length + 1) cap')) := by
      rw [← e1]
      refine HM1.out.setOv ((Fr.refl _ w1).grown hgr' fun k hk => .inl (by rw [HV.out]; exact hk)) (by simpa [its] using hw2) fun k hk => ?_
      cases hk
      exact hat'.imp (fun h => by rw [HV.out]; exact h) id
    have B2 : Blk (w2.setCell ⟨q.b, 4, none⟩ (.slice (some ⟨g, off, none⟩) (s1.od.length + 1) cap')) B 47 #[.int .u64 x.a, .int .u64 x.v, .int .i64 (x.t : Int)] := by
      refine (HB1.out.grown hgr' fun e => ?_).farc (fun e => nf (.inl e)) _
      exact HM1.out.order.ne HB1.out (by decide) (by rw [HV.out, ← e])
    generalize (w2.setCell ⟨q.b, 4, none⟩ (.slice (some ⟨g, off, none⟩) (s1.od.length + 1) cap')) = w3 at *
    have U2' := Lib.hid U2
    clear U2 hw2 hat' hgr' hc1 hf1 c1 co coA c1A HW HT HN HV
    obtain ⟨q2, e2, m2, f2, t2⟩ := U2'.out
    have hlt : x.t < s1.st.length := by rw [HES.out]; exact HTT.out
    obtain ⟨gs, os, cs, hv2, hle2, _, _, hcell2, hfro2⟩ := m2.stamp.form (by show 0 < s1.st.length; omega)
    have hlt2 : x.t < (its s1.st).length := by rw [its_length]; exact hlt
    have d1 : w3.cell? ⟨B, 2, none⟩ = some (.int .i64 (x.t : Int)) := B2.cellv rfl
    have d2 : w3.cell? ⟨q.b, 3, none⟩ = some (.slice (some ⟨gs, os, none⟩) s1.st.length cs) := by rw [← e1, ← e2]; exact hv2 ▸ m2.top.cellv rfl
    obtain ⟨u3, d3⟩ : ∃ u, w3.cell? ⟨gs, os + x.t, none⟩ = some u := ⟨_, hcell2 x.t _ (List.getElem?_eq_getElem hlt2)⟩
    have d4 : w3.frozen? ⟨gs, os + x.t, none⟩ = false := hfro2 _
    have d5 : (x.t : Int) < (s1.st.length : Int) := by omega
    have d6 : (0 : Int) ≤ (x.t : Int) := by omega
    obtain ⟨ao2, cap2, hv3, _, _, _⟩ := m2.order.shape
    have d7 : w3.cell? ⟨q.b, 4, none⟩ = some (.slice ao2 (s1.od ++ [x.t]).length cap2) := by rw [← e1, ← e2]; exact hv3 ▸ m2.top.cellv rfl
    have M2 := Lib.hid m2
    have HV2 := Lib.hid hv2
    have HLE := Lib.hid hle2
    clear hv2 hv3 hcell2 m2 hlt hlt2 hfro2 hle2
    go_upto_region 3 with fail
    go_region
    go_end0
    refine ⟨rfl, ?_⟩
    have U3 := M2.out.setStamp (t := x.t) (x := (s1.od ++ [x.t]).length) HV2.out
    have U4 := Upd.chain e1 f1 t1 (Upd.chain e2 f2 t2 (U3.fr0 (Fr.refl Nil _).drew))
    have U5 := Upd.before F0 HM.out U4
    have e : ({ s1 with od := s1.od ++ [x.t], st := s1.st.set x.t (s1.od ++ [x.t]).length } : St) = s.reach x k := by
      rw [← HE.out]
      simp [St.reach]
    have ec : (((s1.od ++ [x.t]).length : Nat) : Int) = (s1.od.length : Int) + 1 := by simp
    rw [← e]
    rw [ec] at U5
    exact U5
end Go.Proofs.Ytjbdbmahbcaniaa
