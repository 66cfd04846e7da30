/- Chapter 15: May. -/
import Derived.Test.YtdbgfnkcphbgfaaItr
import Derived.Test.YtdbgfnkcphbgfaaWinIn
namespace Go.Proofs.Ytdbgfnkcphbgfaa
open Go.RowKit Go.Shelf
set_option linter.unusedVariables false
attribute [local go_sem] Oper.semAt_some

theorem mayOk_parts {core addr : Int} {l : List N} (h : mayOk core addr l = true) : 0 ≤ core ∧ core < 8 ∧ addr % 4 = 0 ∧ rightL l = true := by
  simp only [mayOk, Bool.and_eq_true, decide_eq_true_eq] at h
  exact ⟨h.1.1.1, h.1.1.2, h.1.2, h.2⟩
def wcs (l : List Int) : List Value := l.map (.int .u32)
theorem wcs_length (l : List Int) : (wcs l).length = l.length := by simp [wcs]
theorem wcs_append (a b : List Int) : wcs (a ++ b) = wcs a ++ wcs b := by simp [wcs]
theorem Win.wds {w : World} {ao : Option Addr} {n cap : Nat} {l : List Int} (h : Win w 24 1 (.slice ao n cap) n (wcs l)) : Wds w ao l := by
  intro i x hi
  have hl := h.1
  rw [wcs_length] at hl
  have hn : 0 < n := by
    have := (List.getElem?_eq_some_iff.1 hi).1
    omega
  obtain ⟨g, off, cap', hv, _, _, hg, hc, _⟩ := h.form hn
  cases hv
  exact ⟨g, off, rfl, hg, hc _ _ (by simp [wcs, hi])⟩
theorem Blk.other {w w' : World} {g : Nat} {t : TypeId} {cs : Array Value} {row : Option Nat} (h : Blk w g t cs) (hg : w.grownBy w' row) (hr : ∀ r, row = some r → ∃ o : Obj, w.heap[r]? = some o ∧ o.isCells = false) : Blk w' g t cs :=
  h.grown hg fun e => by
    obtain ⟨o, ho, hc⟩ := hr g e.symm
    unfold Blk at h
    rw [h] at ho
    cases ho
    cases hc
theorem Win.other {w w' : World} {e : TypeId} {size n : Nat} {v : Value} {xs : List Value} {row : Option Nat} (h : Win w e size v n xs) (hg : w.grownBy w' row) (hr : ∀ r, row = some r → ∃ o : Obj, w.heap[r]? = some o ∧ o.isCells = false) : Win w' e size v n xs := by
  refine ⟨h.1, ?_⟩
  rcases h.2 with hn | ⟨g', off, cap, cs, rfl, hb, rest⟩
  · exact .inl hn
  · exact .inr ⟨g', off, cap, cs, rfl, hb.other hg hr, rest⟩
theorem Win.cells {w : World} {e : TypeId} {size n : Nat} {v : Value} {xs : List Value} (h : Win w e size v n xs) {j : Nat} {o : Obj} (hj : v.ownBlock = some j) (ho : w.heap[j]? = some o) : o.isCells = true := by
  rcases h.2 with ⟨rfl, _⟩ | ⟨g', off, cap, cs, rfl, hb, rest⟩
  · cases hj
  · cases hj
    unfold Blk at hb
    rw [hb] at ho
    cases ho
    rfl
/-- What May has gathered between two rounds. -/
structure OutI (ob n2 : Nat) (w2 : World) (l : List Int) (W : World) : Prop where
  box : ∃ v, Blk W ob 26 #[v] ∧ Win W 24 1 v l.length (wcs l) ∧ ∀ k, v.ownBlock = some k → n2 ≤ k
  fr : Fr (fun k => k = ob ∨ n2 ≤ k) w2 W
theorem OutI.own {ob n2 : Nat} {w2 : World} {f : List Int → List Int} (h2 : n2 ≤ w2.heap.size) : OwnFrom w2.heap.size (fun pre W => OutI ob n2 w2 (f pre) W) := by
  rintro pre A B row ⟨⟨v, h, hw, hk⟩, hf⟩ hg hr
  have hr' : ∀ r, row = some r → ∃ o : Obj, A.heap[r]? = some o ∧ o.isCells = false := fun r e => (hr r e).2
  exact ⟨⟨v, h.other hg hr', hw.other hg hr', hk⟩, hf.grown hg fun k e => .inl (.inr (by have := (hr k e).1; omega))⟩
theorem Try.info24 : (Try.prog.info? 24).map (fun i => (i.zero, i.size, i.bytes)) = some (some (.int .u32 0), 1, 4) := by kernel_rfl
theorem dd_snoc (l : List Int) (x : Int) : dd (l ++ [x]) = ddStep (dd l) x := by simp [dd, List.foldl_append]
theorem new1_lit (w : World) (x : Value) (t : TypeId) : ∀ j u, [x][j]? = some u → (w.alloc (.cells #[x] t)).cell? ((⟨w.heap.size, 0, none⟩ : Addr).add j) = some u := by
  intro j u hu
  rw [Addr.add_lit, Nat.zero_add]
  exact (Blk.new w t #[x]).cellv (by simpa using hu)
set_option maxRecDepth 100000 in
set_option maxHeartbeats 2000000 in
theorem may_yes (l : List N) (ok : ∀ n ∈ l, n.Ok) (core addr first : Int) (ha0 : 0 ≤ addr) (ha1 : addr ≤ 18446744073709551615) (a : Option Addr) (cap : Nat) (w : World) (hl : l.length ≤ 4398046511096) (hc : l.length ≤ cap) (hm : Nts w a l) (hok : mayOk core addr l = true) :
    Calls Try.prog 7 #[.slice a l.length cap, .int .i64 core, .int .u64 addr, .int .u32 first] w fun e w' => ∃ v, e = .returned (.tuple #[v, .int .i64 0]) ∧ Fr Nil w w' ∧ Win w' 24 1 v (may core addr first l).length (wcs (may core addr first l)) ∧ ∀ k, v.ownBlock = some k → w.heap.size ≤ k := by
  obtain ⟨h0, h1, h2, h3⟩ := mayOk_parts hok
  have A3 := and3 addr ha0 ha1
  have hn : (addr % 4 != 0) = false := by simp [h2]
  have b0 : decide (core < 0) = false := by simp; omega
  have b1 : decide (8 ≤ core) = false := by simp; omega
  have HA := Lib.hid (fun W (h : Nts W a l) => all_ok l ok a cap W (by unfold maxLen; omega) hc h)
  have HV := Lib.hid (fun W (h : Nts W a l) => versions_ok l ok core addr first ha0 ha1 a cap W hl hc h)
  rw [h3] at HA
  have HM := Lib.hid hm
  obtain ⟨i24, hi24, hz0, hz1, hz2⟩ := info_parts Try.info24
  clear hm ok h2 h3 hok
  refine (callsIn_wide (n := 5)).1 ?_
  refine callsIn_of_wp_marks Try.func7 rfl trivial ?_ rfl
  simp only [Try.ntmps7, List.size_toArray, List.length_cons, List.length_nil, Nat.reduceAdd, Nat.reduceSub, Array.replicate_succ, Array.replicate_zero, List.push_toArray, List.append_toArray, List.nil_append, List.cons_append]
  gi_wp2_with fail
  refine ⟨trivial, (callsIn_wide.2 (HA.out _ HM.out)).mono ?_⟩
  rintro e w1 ⟨rfl, F1⟩
  have M1 := HM.out.fr F1
  have HF1 := Lib.hid F1
  clear F1
  gi_wp2_with fail
  refine ⟨trivial, (callsIn_wide.2 (HV.out _ (M1.fr ((Fr.refl Nil w1).alloc _)))).mono ?_⟩
  rintro e w2 ⟨rfl, F2, H2⟩
  have hz : (w1.alloc (.cells #[.slice none 0 0] 26)).heap.size = w1.heap.size + 1 := by simp
  rw [hz] at H2
  have bo : Blk w2 w1.heap.size 26 #[.slice none 0 0] := (Blk.new w1 26 _).fr0 F2
  have hsz2 := F2.size
  rw [hz] at hsz2
  have FW : Fr Nil w w2 := (HF1.out.alloc _).trans F2
  have hw1 := HF1.out.size
  clear F2 M1 hz
  have hvl := (vers_len core addr first l).2
  have hdd := dd_len (wordsV (vers core addr first l))
  have hwl := wordsV_len (vers core addr first l)
  gi_wp2_with fail
  refine wpIn_rangeFunc_ownF rfl (by decide) (gf := 26) (lb := #[.pointer (some ⟨w1.heap.size + 1 + 1, 0, none⟩)]) rfl trivial (enters_of Try.func26 (by kernel_rfl) rfl)
    (it_stops Fence.wide 4 trivial rfl (by decide) (fun k => k = w1.heap.size ∨ w2.heap.size ≤ k) (w1.heap.size + 1 + 1) (w1.heap.size + 1) _ (by unfold maxLen; omega) w2 (by obtain ⟨g, off, cap, h1, _, _⟩ := H2.box; have := h1.lt; omega) H2 (by omega))
    Fr.trans (frK_b (by intro k hk; exact .inr hk)) (Below.refl _ _) (fun _ => rfl)
    (fun pre W => OutI w1.heap.size w2.heap.size w2 (dd pre) W) (fun _ _ _ => False) (OutI.own (Nat.le_refl _)) (fun _ _ _ _ _ h _ _ => h)
    ⟨⟨_, bo, Win.nil _ _ _, fun k hk => by cases hk⟩, Fr.refl _ _⟩
    (fun x => { tmps := #[Value.slice a l.length cap, Value.int IntKind.i64 core, Value.int IntKind.u64 addr, Value.int IntKind.u32 first, undef, undef, undef, undef, Value.slice none 0 0, Value.int IntKind.i64 0, Value.pointer (some { block := w1.heap.size, off := 0 }), .int .u32 x, Value.int IntKind.i64 core, Value.bool false, Value.bool false, Value.int IntKind.i64 core, Value.bool false, Value.bool false, Value.bool false, Value.int IntKind.u64 addr, Value.int IntKind.u64 (addr % 4), Value.bool false, Value.bool false, Value.bool false, Value.slice a l.length cap, Value.bool true, Value.bool false, Value.bool false, Value.slice a l.length cap, Value.int IntKind.i64 core, Value.int IntKind.u64 addr, Value.int IntKind.u32 first, Value.func (Fn.func 26) #[] #[Value.pointer (some { block := w1.heap.size + 1 + 1, off := 0 })], .int .u32 x, undef, undef, undef, undef, undef, undef, undef, undef, undef], defers := [] })
    ?assign ?body ?done ?stop
  case assign =>
    intro l x W K hK
    gi_wp2
    exact hK
  case body =>
    rintro lp pre x W ⟨⟨v, hb, hw, hk⟩, hf⟩ hlt
    have hdl := dd_len pre
    obtain ⟨ao, cp, rfl, hcp, hmx, _⟩ := hw.shape
    have cB : W.cell? ⟨w1.heap.size, 0, none⟩ = some (.slice ao (dd pre).length cp) := hb.cellv rfl
    have CO := Lib.hid (contains_ok (dd pre) x ao cp W (by omega) hcp hw.wds)
    have HB := Lib.hid hb
    have HW := Lib.hid hw
    have HK := Lib.hid hk
    have HF := Lib.hid hf
    clear hb hw hk hf
    have HD := Lib.hid (dd_snoc pre x)
    cases hq : (dd pre).contains x with
    | true =>
      rw [hq] at CO
      rw [ddStep, if_pos hq] at HD
      clear hq
      gi_wp2_with (refine ⟨trivial, ?_⟩; gi_at_call 18; refine (CallsIn.inRound lp (callsIn_wide.2 CO.out)).mono ?_; rintro e w' ⟨rfl, rfl⟩)
      exact ⟨KeepsOthers.refl _, Fr.refl _ _, by show OutI _ _ _ (dd (pre ++ [x])) _; rw [HD.out]; exact ⟨⟨_, HB.out, HW.out, HK.out⟩, HF.out⟩⟩
    | false =>
      rw [hq] at CO
      rw [ddStep, if_neg (by rw [hq]; decide)] at HD
      clear hq
      gi_wp2_with (first | (gi_at_builtin; refine wpListIn_append_win _ rfl _ _ 26 rfl 24 i24 _ 1 4 Try.underlying26 hi24 hz0 hz1 hz2 rfl (by decide) _ _ _ rfl (HW.out.alloc _) ⟨W.heap.size, 0, none⟩ 1 1 [.int .u32 x] rfl rfl (new1_lit W _ _) (by simp [Value.oneCell']) (by omega) (by simp only [maxLen]; omega) (by omega) (W.heap.size + 1) (by simp) ?_; intro g off' cap' w3 hw3 hgr hat; have hgr' := Lib.hid ((World.grownBy_alloc W _ _).trans hgr); have hb3 := HB.out.grown hgr'.out (fun e => by have := HK.out _ e.symm; omega); have HW3 := Lib.hid hw3; have HAT := Lib.hid hat; have HB3 := Lib.hid hb3; have cB3 := hb3.cellv (i := 0) rfl; have fB3 := hb3.frozen 0; clear hw3 hgr hat hb3) | (refine ⟨trivial, ?_⟩; gi_at_call 18; refine (CallsIn.inRound lp (callsIn_wide.2 CO.out)).mono ?_; rintro e w' ⟨rfl, rfl⟩))
      have hb4 := HB3.out.set_ 0 (.slice (some ⟨g, off', none⟩) ((dd pre).length + 1) cap')
      have hw4 := HW3.out.far (g := w1.heap.size) (i := 0) (HW3.out.ne HB3.out (by decide)) (.slice (some ⟨g, off', none⟩) ((dd pre).length + 1) cap')
      have hF4 : Fr (fun k => k = w1.heap.size ∨ w2.heap.size ≤ k) W (w3.setCell ⟨w1.heap.size, 0, none⟩ (.slice (some ⟨g, off', none⟩) ((dd pre).length + 1) cap')) :=
        ((Fr.refl _ W).grown hgr'.out fun k hk => .inl (.inr (HK.out k hk))).setCell (p := ⟨w1.heap.size, 0, none⟩) (.inl (.inl rfl)) _
      have hWs := HF.out.size
      refine ⟨(KeepsOthers.of_grownBy hgr'.out (fun j o hj ho => HW.out.cells hj ho)).trans (KeepsOthers.setCell _ _ _), hF4, ?_⟩
      show OutI _ _ _ (dd (pre ++ [x])) _
      rw [HD.out]
      refine ⟨⟨.slice (some ⟨g, off', none⟩) ((dd pre).length + 1) cap', ?_, ?_, ?_⟩, HF.out.trans hF4⟩
      · exact hb4
      · rw [List.length_append, wcs_append]; exact hw4
      · intro k hk
        cases hk
        rcases HAT.out with h | h
        · exact HK.out _ h
        · show w2.heap.size ≤ g
          omega
  case done =>
    rintro D ys W hD rfl ⟨⟨v, hb, hw, hk⟩, hf⟩ hK
    have cB : W.cell? ⟨w1.heap.size, 0, none⟩ = some v := hb.cellv rfl
    obtain ⟨ao, cp, rfl, hcp, hmx, _⟩ := hw.shape
    have HW := Lib.hid hw
    have HKK := Lib.hid hk
    have HF := Lib.hid hf
    have HKD := Lib.hid hK
    clear hb hw hk hf hK
    gi_wp2
    refine ⟨by simp, .inl ⟨_, _, rfl, run_takeDeferred HKD.out, ?_⟩⟩
    have hgr : W.grownBy (W.putObj D (.deferred none)) (some D) := grownBy_putObj' W D _
    refine ⟨.tuple #[_, .int .i64 0], ?_, _, rfl, ?_, HW.out.other hgr (fun r e => by cases e; exact ⟨_, HKD.out, rfl⟩), fun k hk => ?_⟩
    · simp [results, Try.f7, go_sem]
    · have e1 : Fr Nil w W := FW.step HF.out fun i hi hs => .inr (by rcases hs with rfl | hs <;> omega)
      exact e1.grown hgr fun k e => .inr (by cases e; omega)
    · have := HKK.out k hk
      omega
  case stop =>
    rintro D c pre W _ _ h _
    exact h.elim
set_option maxRecDepth 100000 in
set_option maxHeartbeats 2000000 in
theorem may_no (l : List N) (ok : ∀ n ∈ l, n.Ok) (core addr first : Int) (ha0 : 0 ≤ addr) (ha1 : addr ≤ 18446744073709551615) (a : Option Addr) (cap : Nat) (w : World) (hl : l.length ≤ maxLen) (hc : l.length ≤ cap) (hm : Nts w a l) (hok : mayOk core addr l = false) :
    Calls Try.prog 7 #[.slice a l.length cap, .int .i64 core, .int .u64 addr, .int .u32 first] w fun e w' => e = .returned (.tuple #[.slice none 0 0, .int .i64 1]) ∧ Fr Nil w w' := by
  have A3 := and3 addr ha0 ha1
  have HA := Lib.hid (fun W (h : Nts W a l) => all_ok l ok a cap W hl hc h)
  have HM := Lib.hid hm
  clear hm ok
  have hp : (core < 0 ∨ 8 ≤ core) ∨ (0 ≤ core ∧ core < 8 ∧ (addr % 4 != 0) = true) ∨ (0 ≤ core ∧ core < 8 ∧ (addr % 4 != 0) = false ∧ rightL l = false) := by
    by_cases h1 : core < 0 ∨ 8 ≤ core
    · exact .inl h1
    · by_cases h2 : addr % 4 = 0
      · refine .inr (.inr ⟨by omega, by omega, by simp [h2], ?_⟩)
        simp only [mayOk, h2, decide_true, Bool.and_true, Bool.and_eq_false_iff, decide_eq_false_iff_not] at hok
        rcases hok with (h | h) | h
        · omega
        · omega
        · exact h
      · exact .inr (.inl ⟨by omega, by omega, by simp [h2]⟩)
  clear hok
  rcases hp with hp | ⟨h0, h1, h2⟩ | ⟨h0, h1, h2, h3⟩
  · rcases hp with hp | hp
    · go_enter Try.func7, Try.ntmps7
      go_wp2
      go_ret2
      exact ⟨rfl, Fr.refl _ _⟩
    · have hp0 : 0 ≤ core := by omega
      go_enter Try.func7, Try.ntmps7
      go_wp2
      go_ret2
      exact ⟨rfl, Fr.refl _ _⟩
  · have b0 : decide (core < 0) = false := by simp; omega
    have b1 : decide (8 ≤ core) = false := by simp; omega
    go_enter Try.func7, Try.ntmps7
    go_wp2
    go_ret2
    exact ⟨rfl, Fr.refl _ _⟩
  · have b0 : decide (core < 0) = false := by simp; omega
    have b1 : decide (8 ≤ core) = false := by simp; omega
    rw [h3] at HA
    clear h3
    go_enter Try.func7, Try.ntmps7
    go_wp2_with (go_at_call 16; refine (HA.out _ HM.out).mono ?_; rintro e w' ⟨rfl, hf⟩)
    go_ret2
    exact ⟨rfl, hf⟩
end Go.Proofs.Ytdbgfnkcphbgfaa
