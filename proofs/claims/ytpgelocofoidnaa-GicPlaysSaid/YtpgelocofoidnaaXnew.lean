/- The document's New. -/
import Derived.Test.YtpgelocofoidnaaXack
set_option linter.unusedSimpArgs false
set_option linter.unusedVariables false
set_option linter.unusedSectionVars false
namespace Go.Proofs.Ytpgelocofoidnaa
open Go.RowKit
set_option maxRecDepth 100000

theorem Try.xinfo84 : (Try.prog.info? 84).map (fun i => (i.zero, i.size, i.bytes)) = some (some (.agg #[.bool false, .bool false, .bool false, .bool false, .int .i64 0, .int .i64 0, .int .i64 0, .int .i64 0]), 8, 40) := by kernel_rfl
theorem Try.xinfo80 : (Try.prog.info? 80).map (fun i => (i.zero, i.size, i.bytes)) = some (some (.slice none 0 0), 1, 24) := by kernel_rfl
theorem Try.xinfo3 : (Try.prog.info? 3).map (fun i => (i.zero, i.size, i.bytes)) = some (some (.int .i64 0), 1, 8) := by kernel_rfl
def j160 : J := ⟨i160, -1, 0⟩
def nrow (m : Nat) : List Value := rows (fun _ => jc j160) m
theorem nrow_succ (m : Nat) : nrow (m + 1) = nrow m ++ jc j160 := by
  unfold nrow rows
  rw [List.range_succ, List.flatMap_append]
  simp
/-- While it is made. -/
structure Nw (w wr : World) (rb C k1 k2 : Nat) (ov lv : Value) (vals : Nat → Value) : Prop where
  top : Blk wr rb 82 #[.int .i64 (C : Int), ov, .slice none 0 0, lv]
  own : Win wr 80 1 ov k1 ((List.range k1).map vals)
  lim : Win wr 3 1 lv k2 (lims (fun _ => 255) k2)
  ints : ∀ i, i < k1 → Win wr 84 8 (vals i) 32 (nrow 32)
  sep : ∀ i j, i < k1 → j < k1 → i ≠ j → ∀ b, (vals i).ownBlock = some b → (vals j).ownBlock ≠ some b
  nrb : w.heap.size ≤ rb
  nov : ∀ b, ov.ownBlock = some b → w.heap.size ≤ b
  nlv : ∀ b, lv.ownBlock = some b → w.heap.size ≤ b
  nvs : ∀ i b, i < k1 → (vals i).ownBlock = some b → w.heap.size ≤ b
  fr : Fr Nil w wr
structure Il (w wr : World) (v : Value) (m k : Nat) (vals : Nat → Value) : Prop where
  win : Win wr 84 8 v m (nrow m)
  new : ∀ b, v.ownBlock = some b → w.heap.size ≤ b
  sep : ∀ i, i < k → ∀ b, v.ownBlock = some b → (vals i).ownBlock ≠ some b
theorem ob_cases (v : Value) {row : Option Nat} (h : ∀ b, v.ownBlock = some b → row ≠ some b) : v.ownBlock = none ∨ v.ownBlock ≠ row := by
  cases hv : v.ownBlock with
  | none => exact .inl rfl
  | some b => exact .inr fun e => h b hv e.symm
section
variable {w wr w2 : World} {rb C k1 k2 m : Nat} {ov lv v : Value} {vals : Nat → Value}
theorem Nw.still (h : Nw w wr rb C k1 k2 ov lv vals) (f : Fr Nil wr w2) : Nw w w2 rb C k1 k2 ov lv vals :=
  ⟨h.top.fr0 f, h.own.fr f fun _ _ => id, h.lim.fr f fun _ _ => id, fun i hi => (h.ints i hi).fr f fun _ _ => id, h.sep, h.nrb, h.nov, h.nlv, h.nvs, h.fr.trans f⟩
theorem Il.still (h : Il w wr v m k1 vals) (f : Fr Nil wr w2) : Il w w2 v m k1 vals := ⟨h.win.fr f fun _ _ => id, h.new, h.sep⟩
theorem Nw.grown (h : Nw w wr rb C k1 k2 ov lv vals) (hi : Il w wr v m k1 vals) (hg : wr.grownBy w2 v.ownBlock) : Nw w w2 rb C k1 k2 ov lv vals := by
  have n1 : v.ownBlock ≠ some rb := hi.win.ne h.top (by decide)
  exact ⟨h.top.grown hg (fun e => n1 e.symm), h.own.grown hg (ob_cases _ fun b hb e => h.own.ne2 hi.win (by decide) hb e), h.lim.grown hg (ob_cases _ fun b hb e => h.lim.ne2 hi.win (by decide) hb e),
    fun i hi' => (h.ints i hi').grown hg (ob_cases _ fun b hb e => hi.sep i hi' b e hb), h.sep, h.nrb, h.nov, h.nlv, h.nvs, h.fr.grown hg fun k hk => .inr (hi.new k hk)⟩
theorem Il.app (h : Nw w wr rb C k1 k2 ov lv vals) (hi : Il w wr v m k1 vals) (hg : wr.grownBy w2 v.ownBlock) {v2 : Value} (hw : Win w2 84 8 v2 (m + 1) (nrow m ++ jc j160)) (ho : ∀ b, v2.ownBlock = some b → v.ownBlock = some b ∨ wr.heap.size ≤ b) : Il w w2 v2 (m + 1) k1 vals :=
  ⟨by rw [nrow_succ]; exact hw, fun b hb => (ho b hb).elim (hi.new b) fun h2 => Nat.le_trans h.fr.size h2, fun i hi' b hb => (ho b hb).elim (hi.sep i hi' b) fun h2 e => by
    have := (h.ints i hi').lt e
    omega⟩
theorem Nw.addOwn (h : Nw w wr rb C k1 k2 ov lv vals) (hi : Il w wr v 32 k1 vals) (hg : wr.grownBy w2 ov.ownBlock) {ov2 : Value} (hw : Win w2 80 1 ov2 (k1 + 1) ((List.range k1).map vals ++ [v])) (ho : ∀ b, ov2.ownBlock = some b → ov.ownBlock = some b ∨ wr.heap.size ≤ b) :
    Nw w (w2.setCell ⟨rb, 1, none⟩ ov2) rb C (k1 + 1) k2 ov2 lv (upd vals k1 v) := by
  have n1 : ov.ownBlock ≠ some rb := h.own.ne h.top (by decide)
  have t2 : Blk w2 rb 82 #[.int .i64 (C : Int), ov, .slice none 0 0, lv] := h.top.grown hg (fun e => n1 e.symm)
  have i2 : ∀ i, i < k1 → Win w2 84 8 (vals i) 32 (nrow 32) := fun i hi' => (h.ints i hi').grown hg (ob_cases _ fun b hb e => (h.ints i hi').ne2 h.own (by decide) hb e)
  have v2 : Win w2 84 8 v 32 (nrow 32) := hi.win.grown hg (ob_cases _ fun b hb e => hi.win.ne2 h.own (by decide) hb e)
  have l2 : Win w2 3 1 lv k2 (lims (fun _ => 255) k2) := h.lim.grown hg (ob_cases _ fun b hb e => h.lim.ne2 h.own (by decide) hb e)
  have em : (List.range (k1 + 1)).map (upd vals k1 v) = (List.range k1).map vals ++ [v] := by
    rw [List.range_succ, List.map_append, List.map_cons, List.map_nil, upd_same]
    congr 1
    exact List.map_congr_left fun i hi => upd_other _ _ (by have := List.mem_range.1 hi; omega)
  refine ⟨(t2.set_ 1 ov2).cast rfl, by rw [em]; exact hw.far (hw.ne t2 (by decide)) _, l2.far (l2.ne t2 (by decide)) _, fun i hi' => ?_, fun i j hi' hj hne b hb => ?_, h.nrb, fun b hb => (ho b hb).elim (h.nov b) fun e => Nat.le_trans h.fr.size e, h.nlv, fun i b hi' hb => ?_, (h.fr.grown hg fun k hk => .inr (h.nov k hk)).setNew h.nrb _⟩
  · by_cases e : i = k1
    · subst e; rw [upd_same]; exact v2.far (v2.ne t2 (by decide)) _
    · rw [upd_other _ _ e]; exact (i2 i (by omega)).far ((i2 i (by omega)).ne t2 (by decide)) _
  · by_cases e : i = k1
    · subst e
      rw [upd_same] at hb
      rw [upd_other _ _ (Ne.symm hne)]
      exact hi.sep j (by omega) b hb
    · rw [upd_other _ _ e] at hb
      by_cases e2 : j = k1
      · subst e2
        rw [upd_same]
        exact fun hv => hi.sep i (by omega) b hv hb
      · rw [upd_other _ _ e2]
        exact h.sep i j (by omega) (by omega) hne b hb
  · by_cases e : i = k1
    · subst e; rw [upd_same] at hb; exact hi.new b hb
    · rw [upd_other _ _ e] at hb; exact h.nvs i b (by omega) hb
theorem Nw.addLim (h : Nw w wr rb C k1 k2 ov lv vals) (hg : wr.grownBy w2 lv.ownBlock) {lv2 : Value} (hw : Win w2 3 1 lv2 (k2 + 1) (lims (fun _ => 255) k2 ++ [.int .i64 255])) (ho : ∀ b, lv2.ownBlock = some b → lv.ownBlock = some b ∨ wr.heap.size ≤ b) :
    Nw w (w2.setCell ⟨rb, 3, none⟩ lv2) rb C k1 (k2 + 1) ov lv2 vals := by
  have n1 : lv.ownBlock ≠ some rb := h.lim.ne h.top (by decide)
  have t2 : Blk w2 rb 82 #[.int .i64 (C : Int), ov, .slice none 0 0, lv] := h.top.grown hg (fun e => n1 e.symm)
  have i2 : ∀ i, i < k1 → Win w2 84 8 (vals i) 32 (nrow 32) := fun i hi' => (h.ints i hi').grown hg (ob_cases _ fun b hb e => (h.ints i hi').ne2 h.lim (by decide) hb e)
  have o2 : Win w2 80 1 ov k1 ((List.range k1).map vals) := h.own.grown hg (ob_cases _ fun b hb e => h.own.ne2 h.lim (by decide) hb e)
  have em : lims (fun _ => 255) (k2 + 1) = lims (fun _ => 255) k2 ++ [.int .i64 255] := by
    unfold lims
    rw [List.range_succ, List.map_append]
    rfl
  exact ⟨(t2.set_ 3 lv2).cast rfl, o2.far (o2.ne t2 (by decide)) _, by rw [em]; exact hw.far (hw.ne t2 (by decide)) _, fun i hi' => (i2 i hi').far ((i2 i hi').ne t2 (by decide)) _, h.sep, h.nrb, h.nov, fun b hb => (ho b hb).elim (h.nlv b) fun e => Nat.le_trans h.fr.size e, h.nvs, (h.fr.grown hg fun k hk => .inr (h.nlv k hk)).setNew h.nrb _⟩
def vB : Value → Nat
  | .slice (some a) _ _ => a.block
  | _ => 0
def vO : Value → Nat
  | .slice (some a) _ _ => a.off
  | _ => 0
def vK : Value → Nat
  | .slice _ _ c => c
  | _ => 0
theorem Win.vform {e size n : Nat} {xs : List Value} (h : Win w e size v n xs) (hn : 0 < n) : v = .slice (some ⟨vB v, vO v, none⟩) n (vK v) ∧ v.ownBlock = some (vB v) := by
  obtain ⟨g, off, cap, rfl, -⟩ := h.form hn
  exact ⟨rfl, rfl⟩
def RnewTo (w : World) (C : Nat) (e : Ending) (w' : World) : Prop := ∃ rb L, e = .returned (.pointer (some ⟨rb, 0, none⟩)) ∧ RefAt w' rb L (rnew C) ∧ Fr Nil w w' ∧ ∀ k, RFoot rb L C k → w.heap.size ≤ k
theorem Nw.done (h : Nw w wr rb C C C ov lv vals) (hi : Il w wr v 32 C vals) (h1 : 1 ≤ C) (h8 : C ≤ 8) : RnewTo w C (.returned (.pointer (some ⟨rb, 0, none⟩))) (wr.setCell ⟨rb, 2, none⟩ v) := by
  obtain ⟨eo, bo⟩ := h.own.vform (by omega)
  obtain ⟨el, bl⟩ := h.lim.vform (by omega)
  obtain ⟨ev, bv⟩ := hi.win.vform (by omega)
  have evs := fun i (hi' : i < C) => (h.ints i hi').vform (by omega)
  refine ⟨rb, ⟨vB ov, vO ov, vK ov, fun i => vB (vals i), fun i => vO (vals i), fun i => vK (vals i), vB v, vO v, vK v, vB lv, vO lv, vK lv⟩, rfl, ?_, h.fr.setNew h.nrb _, ?_⟩
  · refine ⟨?_, ?_, fun i hi' => ?_, ?_, ?_, fun i j hi' hj hne e => ?_, fun i hi' e => ?_, h8⟩
    · have := (h.top.set_ 2 v)
      show Blk _ rb 82 #[.int .i64 (C : Int), .slice (some ⟨vB ov, vO ov, none⟩) C (vK ov), .slice (some ⟨vB v, vO v, none⟩) 32 (vK v), .slice (some ⟨vB lv, vO lv, none⟩) C (vK lv)]
      rw [← eo, ← el, ← ev]
      exact this.cast rfl
    · show Win _ 80 1 (.slice (some ⟨vB ov, vO ov, none⟩) C (vK ov)) C ((List.range C).map _)
      rw [← eo, show (List.range C).map (Lay.iv ⟨vB ov, vO ov, vK ov, fun i => vB (vals i), fun i => vO (vals i), fun i => vK (vals i), vB v, vO v, vK v, vB lv, vO lv, vK lv⟩) = (List.range C).map vals from List.map_congr_left fun i hi' => (evs i (List.mem_range.1 hi')).1.symm]
      exact h.own.far (h.own.ne h.top (by decide)) _
    · show Win _ 84 8 (.slice (some ⟨vB (vals i), vO (vals i), none⟩) 32 (vK (vals i))) 32 (jrow _)
      rw [← (evs i hi').1]
      exact (h.ints i hi').far ((h.ints i hi').ne h.top (by decide)) _
    · show Win _ 84 8 (.slice (some ⟨vB v, vO v, none⟩) 32 (vK v)) 32 (jrow _)
      rw [← ev]
      exact hi.win.far (hi.win.ne h.top (by decide)) _
    · show Win _ 3 1 (.slice (some ⟨vB lv, vO lv, none⟩) C (vK lv)) C (lims _ C)
      rw [← el]
      exact h.lim.far (h.lim.ne h.top (by decide)) _
    · refine h.sep i j hi' hj hne _ (evs i hi').2 ?_
      rw [(evs j hj).2]
      exact congrArg some e.symm
    · refine hi.sep i hi' _ bv ?_
      rw [(evs i hi').2]
      exact congrArg some e
  · rintro k (rfl | rfl | rfl | rfl | ⟨i, hi', rfl⟩)
    · exact h.nrb
    · exact h.nov _ bo
    · exact hi.new _ bv
    · exact h.nlv _ bl
    · exact h.nvs i _ hi' (evs i hi').2
end
theorem cells_new (w : World) (l : List Value) (t : TypeId) : ∀ (j : Nat) u, l[j]? = some u → (w.alloc (.cells l.toArray t)).cell? ((⟨w.heap.size, 0, none⟩ : Addr).add j) = some u := fun j u hj => by
  rw [Addr.add_lit, Nat.zero_add, (Blk.new w t l.toArray).cell, List.getElem?_toArray]
  exact hj
set_option maxHeartbeats 2000000 in
theorem rnew_ok (C : Nat) (w : World) (h1 : 1 ≤ C) (h8 : C ≤ 8) : Calls Try.prog 30 #[.int .i64 (C : Int)] w (RnewTo w C) := by
  obtain ⟨i84, hi84, p0, p1, p2⟩ := info_parts Try.xinfo84
  obtain ⟨i80, hi80, q0, q1, q2⟩ := info_parts Try.xinfo80
  obtain ⟨i3, hi3, r0, r1, r2⟩ := info_parts Try.xinfo3
  have H1 := Lib.hid (And.intro h1 h8)
  have c8 : (C : Int) ≤ 8 := by omega
  have N0 := Lib.hid (show Nw w (w.alloc (.cells #[.int .i64 (C : Int), .slice none 0 0, .slice none 0 0, .slice none 0 0] 82)) w.heap.size C 0 0 (.slice none 0 0) (.slice none 0 0) (fun _ => .slice none 0 0) from
    ⟨Blk.new w 82 _, Win.nil _ _ _, Win.nil _ _ _, fun i hi => absurd hi (by omega), fun i j hi => absurd hi (by omega), Nat.le_refl _, fun b hb => (by cases hb), fun b hb => (by cases hb), fun i b hi => absurd hi (by omega), (Fr.refl Nil w).alloc _⟩)
  clear h1 h8
  go_enter Try.func30, Try.ntmps30
  go_upto_region 2 with fail
  generalize (w.alloc (.cells #[.int .i64 (C : Int), .slice none 0 0, .slice none 0 0, .slice none 0 0] 82)) = w0 at *
  generalize w.heap.size = rb at *
  go_wp2_with fail
  go_loopw [4] (fun i wr => ∃ (k : Nat) (ov lv : Value) (vals : Nat → Value), k ≤ C ∧ i = .int .i64 (k : Int) ∧ Nw w wr rb C k k ov lv vals) (fun i _ => C - (intOf i).toNat)
  case atStart => exact ⟨0, _, _, _, Nat.zero_le _, rfl, N0.out⟩
  case round =>
    clear N0
    obtain ⟨k, ov, lv, vals, hk, rfl, hN⟩ := hrel
    have HN := Lib.hid hN
    have HK := Lib.hid hk
    have kn : (k : Int) ≤ (C : Int) := by omega
    have k8 : (k : Int) ≤ 8 := by omega
    have K8 := Lib.hid (show k ≤ 8 by omega)
    clear hN hk
    go_upto_region 7 with fail
    go_loopw [5, 6] (fun lvv i wr2 => ∃ (m : Nat) (aa : Option Addr) (cap : Nat), m ≤ 32 ∧ i = .int .i64 (m : Int) ∧ lvv = .slice aa m cap ∧ Nw w wr2 rb C k k ov lv vals ∧ Il w wr2 (.slice aa m cap) m k vals) (fun _ i _ => 32 - (intOf i).toNat)
    case atStart => exact ⟨0, none, 0, by omega, rfl, rfl, HN.out, ⟨Win.nil _ _ _, fun b hb => (by cases hb), fun i hi b hb => (by cases hb)⟩⟩
    case round =>
      clear HN
      obtain ⟨m, aa, cap, hm, rfl, rfl, hN, hI⟩ := hrel
      have HN := Lib.hid hN
      have HI := Lib.hid hI
      clear hN hI
      by_cases hlt : m < 32
      · have HM := Lib.hid hlt
        have m32 : (m : Int) < 32 := by omega
        clear hm hlt
        go_wp2_with (at_builtin; refine wpList_append_win _ rfl (.tmp 19) (.tmp 21) 80 rfl 84 i84 _ 8 40 Try.underlying80 hi84 p0 p1 p2 rfl (by decide) _ _ _ rfl (HI.out.win.alloc _) ⟨wr.heap.size, 0, none⟩ 1 1 (jc j160) rfl rfl (cells_new wr (jc j160) 84) (by simp [jc, Value.oneCell']) (by omega) (by have := HM.out; simp only [maxLen]; omega) (by have := HM.out; omega) (wr.heap.size + 1) (by simp) ?_; intro ga off2 acp3 w9 hw9 hgr hat)
        have hgr' := (World.grownBy_alloc wr _ _).trans hgr
        have N9 := Lib.hid (HN.out.grown HI.out hgr')
        have I9 := Lib.hid (HI.out.app HN.out hgr' hw9 fun b hb => by
          cases hb
          exact hat.imp id (fun h => by rw [h]; exact Nat.le_add_right _ _))
        clear hgr hgr' hat hw9 HN HI
        go_roundw
        case rel => exact ⟨m + 1, _, _, HM.out, by go_num, rfl, N9.out, I9.out⟩
        case measure => have := HM.out; simp [intOf]; omega
      · obtain rfl : m = 32 := by omega
        clear hm hlt
        obtain ⟨ev, -⟩ := HI.out.win.vform (by omega)
        obtain ⟨sb, so, hs⟩ : ∃ sb so, aa = some ⟨sb, so, none⟩ := ⟨_, _, by injection ev⟩
        subst hs
        clear ev
        by_cases hkc : k < C
        · have HKC := Lib.hid hkc
          have kc : ((k : Int) == (C : Int)) = false := by simp; omega
          have kc2 : (k == C) = false := by simp; omega
          have t1 := HN.out.top.cellv (i := 1) rfl
          clear hkc
          go_upto_region 13 with (at_builtin; refine wpList_append_win _ rfl (.tmp 34) (.tmp 36) 79 rfl 80 i80 _ 1 24 Try.underlying79 hi80 q0 q1 q2 rfl (by decide) _ _ _ rfl (HN.out.own.alloc _) ⟨wr.heap.size, 0, none⟩ 1 1 [.slice (some ⟨sb, so, none⟩) 32 cap] rfl rfl (cells_new wr [.slice (some ⟨sb, so, none⟩) 32 cap] 80) (by simp [Value.oneCell']) (by omega) (by have := K8.out; simp only [maxLen]; omega) (by have := K8.out; omega) (wr.heap.size + 1) (by simp) ?_; intro ga off2 acp3 w9 hw9 hgr hat; have hgr' := (World.grownBy_alloc wr _ _).trans hgr; have T9 := HN.out.top.grown hgr' (fun e => HN.out.own.ne HN.out.top (by decide) e.symm); have c9 := T9.cellv (i := 1) rfl; have z9 := T9.frozen 1)
          have N9 := Lib.hid (HN.out.addOwn HI.out hgr' hw9 fun b hb => by
            cases hb
            exact hat.imp id (fun h => by rw [h]; exact Nat.le_add_right _ _))
          clear hgr hgr' hat hw9 T9 c9 z9 HN HI t1
          generalize (w9.setCell ⟨rb, 1, none⟩ (.slice (some ⟨ga, off2, none⟩) (k + 1) acp3)) = w10 at *
          have t3 := N9.out.top.cellv (i := 3) rfl
          go_upto_region 4 with (at_builtin; refine wpList_append_win _ rfl (.tmp 44) (.tmp 45) 33 rfl 3 i3 _ 1 8 Try.underlying33 hi3 r0 r1 r2 rfl (by decide) _ _ _ rfl (N9.out.lim.alloc _) ⟨w10.heap.size, 0, none⟩ 1 1 [.int .i64 255] rfl rfl (cells_new w10 [.int .i64 255] 3) (by simp [Value.oneCell']) (by omega) (by have := K8.out; simp only [maxLen]; omega) (by have := K8.out; omega) (w10.heap.size + 1) (by simp) ?_; intro gb2 off3 acp4 w11 hw11 hgr hat; have hgr' := (World.grownBy_alloc w10 _ _).trans hgr; have T11 := N9.out.top.grown hgr' (fun e => N9.out.lim.ne N9.out.top (by decide) e.symm); have c11 := T11.cellv (i := 3) rfl; have z11 := T11.frozen 3)
          have N11 := Lib.hid (N9.out.addLim hgr' hw11 fun b hb => by
            cases hb
            exact hat.imp id (fun h => by rw [h]; exact Nat.le_add_right _ _))
          clear hgr hgr' hat hw11 T11 c11 z11 N9 t3
          generalize (w11.setCell ⟨rb, 3, none⟩ (.slice (some ⟨gb2, off3, none⟩) (k + 1) acp4)) = w12 at *
          go_wp2_with fail
          go_roundw
          case rel => exact ⟨k + 1, _, _, _, HKC.out, by go_num, N11.out⟩
          case measure => have := HKC.out; simp [intOf]; omega
        · obtain rfl : k = C := by have := HK.out; omega
          have t2 := HN.out.top.cellv (i := 2) rfl
          have z2 := HN.out.top.frozen 2
          have HD := Lib.hid (HN.out.done HI.out H1.out.1 H1.out.2)
          clear hkc
          go_wp2_with fail
          go_ret
          exact HD.out
end Go.Proofs.Ytpgelocofoidnaa
