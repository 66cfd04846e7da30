/- Contracts of chapter 8: what reads, tickets, Set. -/
import Derived.Test.YtjbdbmahbcaniaaUpd
set_option linter.unusedSimpArgs false
set_option linter.unusedSectionVars false
namespace Go.Proofs.Ytjbdbmahbcaniaa
open Go.RowKit
set_option linter.unusedVariables false

theorem at_bad (q : Bs) (s : St) (a : Int) (w : World) (hm : MemAt w q s) (hn : s.n ≤ 8192) (a0 : 0 ≤ a) (a1 : a ≤ 18446744073709551615) (h : a % 8 ≠ 0 ∨ (s.n : Int) ≤ a / 8) : Calls Try.prog 34 #[.pointer (some ⟨q.b, 0, none⟩), .int .u64 a] w fun e w' => e = .returned (.pointer none) ∧ w = w' := by
  have hc : w.cell? ⟨q.b, 0, none⟩ = some (.slice (some ⟨q.bw, 0, none⟩) s.n s.n) := hm.top.cellv rfl
  clear hm
  generalize s.n = n at *
  have n1 : (n : Int) ≤ 8192 := by omega
  by_cases h1 : a % 8 = 0
  · have h2 : (n : Int) ≤ a / 8 := by omega
    clear h
    go_enter Try.func34, Try.ntmps34
    go_wp2
    go_ret
    exact ⟨rfl, rfl⟩
  · clear h
    go_enter Try.func34, Try.ntmps34
    go_wp2
    go_ret
    exact ⟨rfl, rfl⟩
theorem words_ok (q : Bs) (s : St) (w : World) (hm : MemAt w q s) : Calls Try.prog 18 #[.pointer (some ⟨q.b, 0, none⟩)] w fun e w' => e = .returned (.int .i64 (s.n : Int)) ∧ w = w' := by
  have hc : w.cell? ⟨q.b, 0, none⟩ = some (.slice (some ⟨q.bw, 0, none⟩) s.n s.n) := hm.top.cellv rfl
  clear hm
  go_enter Try.func18, Try.ntmps18
  go_wp2
  go_ret
  exact ⟨rfl, rfl⟩
theorem cores_ok (q : Bs) (s : St) (w : World) (hm : MemAt w q s) : Calls Try.prog 19 #[.pointer (some ⟨q.b, 0, none⟩)] w fun e w' => e = .returned (.int .i64 (s.c : Int)) ∧ w = w' := by
  have hc : w.cell? ⟨q.b, 1, none⟩ = some (.slice (some ⟨q.bh, 0, none⟩) s.c s.c) := hm.top.cellv rfl
  clear hm
  go_enter Try.func19, Try.ntmps19
  go_wp2
  go_ret
  exact ⟨rfl, rfl⟩
theorem depth_ok (q : Bs) (s : St) (w : World) (hm : MemAt w q s) : Calls Try.prog 20 #[.pointer (some ⟨q.b, 0, none⟩)] w fun e w' => e = .returned (.int .i64 (s.d : Int)) ∧ w = w' := by
  have hc : w.cell? ⟨q.b, 2, none⟩ = some (.int .i64 (s.d : Int)) := hm.top.cellv rfl
  clear hm
  go_enter Try.func20, Try.ntmps20
  go_wp2
  go_ret
  exact ⟨rfl, rfl⟩
theorem tickets_ok (q : Bs) (s : St) (w : World) (hm : MemAt w q s) (hs : s.st.length ≤ 1000000) : Calls Try.prog 21 #[.pointer (some ⟨q.b, 0, none⟩)] w fun e w' => e = .returned (.int .i64 ((s.st.length : Int) - 1)) ∧ w = w' := by
  have hc : w.cell? ⟨q.b, 3, none⟩ = some q.sv := hm.top.cellv rfl
  obtain ⟨ao, cap, hv, _, _, _⟩ := hm.stamp.shape
  rw [hv] at hc
  have h1 : (s.st.length : Int) ≤ 1000000 := by omega
  clear hm hv hs
  generalize s.st.length = n at *
  go_enter Try.func21, Try.ntmps21
  go_wp2
  go_ret
  exact ⟨rfl, rfl⟩
theorem stamp_ok (q : Bs) (s : St) (t : Nat) (x : Nat) (w : World) (hm : MemAt w q s) (hs : s.st.length ≤ 1000000) (ht : 1 ≤ t) (hx : s.st[t]? = some x) : Calls Try.prog 30 #[.pointer (some ⟨q.b, 0, none⟩), .int .i64 (t : Int)] w fun e w' => e = .returned (.int .i64 (x : Int)) ∧ w = w' := by
  have hlt : t < s.st.length := (List.getElem?_eq_some_iff.1 hx).1
  have hc : w.cell? ⟨q.b, 3, none⟩ = some q.sv := hm.top.cellv rfl
  obtain ⟨g, off, cap, hv, hle, hmx, _, hcell, _⟩ := hm.stamp.form (by omega)
  have hcx := hcell t _ (its_get hx)
  rw [hv] at hc
  have h1 : (s.st.length : Int) ≤ 1000000 := by omega
  have h2 : (t : Int) < (s.st.length : Int) := by omega
  have h3 : (1 : Int) ≤ (t : Int) := by omega
  clear hm hv hs hcell hx
  generalize s.st.length = n at *
  go_enter Try.func30, Try.ntmps30
  go_wp2
  go_ret
  exact ⟨rfl, rfl⟩
theorem stamp_out (q : Bs) (s : St) (t : Int) (w : World) (hm : MemAt w q s) (hs : s.st.length ≤ 1000000) (ht : t < 1 ∨ (s.st.length : Int) ≤ t) : Calls Try.prog 30 #[.pointer (some ⟨q.b, 0, none⟩), .int .i64 t] w fun e w' => e = .returned (.int .i64 0) ∧ w = w' := by
  have hc : w.cell? ⟨q.b, 3, none⟩ = some q.sv := hm.top.cellv rfl
  obtain ⟨ao, cap, hv, _, _, _⟩ := hm.stamp.shape
  rw [hv] at hc
  have h1 : (s.st.length : Int) ≤ 1000000 := by omega
  clear hm hv hs
  generalize s.st.length = n at *
  by_cases h0 : t < 1
  · clear ht
    go_enter Try.func30, Try.ntmps30
    go_wp2
    go_ret
    exact ⟨rfl, rfl⟩
  · have h2 : (n : Int) ≤ t := by omega
    have h3 : 1 ≤ t := by omega
    clear ht
    go_enter Try.func30, Try.ntmps30
    go_wp2
    go_ret
    exact ⟨rfl, rfl⟩
theorem peek_ok (q : Bs) (s : St) (a : Int) (k : Nat) (w : World) (hm : MemAt w q s) (hk : k < s.n) (hn : s.n ≤ 8192) (ha : a = 8 * (k : Int)) : Calls Try.prog 26 #[.pointer (some ⟨q.b, 0, none⟩), .int .u64 a] w fun e w' => e = .returned (.tuple #[.int .u64 (s.V k), .int .i64 (s.T k : Int), .int .i64 0]) ∧ Fr Nil w w' := by
  have c1 : w.cell? ⟨q.bw, k * 2, none⟩ = some (.int .u64 (s.V k)) := hm.words.cellv (wcs_v hk)
  have c2 : w.cell? ⟨q.bw, k * 2 + 1, none⟩ = some (.int .i64 (s.T k : Int)) := hm.words.cellv (wcs_t hk)
  have HA := Lib.hid (at_ok q s a k w hm hk hn ha)
  clear hm hk hn ha
  go_enter Try.func26, Try.ntmps26
  go_wp2_with fail
  refine HA.out.mono ?_
  rintro e w2 ⟨rfl, rfl⟩
  go_wp2_with fail
  go_quiet (fail)
  go_wp2_with fail
  go_ret3
  exact ⟨rfl, Fr.drewN (Fr.refl _ _) _⟩
theorem peek_bad (q : Bs) (s : St) (a : Int) (w : World) (hm : MemAt w q s) (hn : s.n ≤ 8192) (a0 : 0 ≤ a) (a1 : a ≤ 18446744073709551615) (h : a % 8 ≠ 0 ∨ (s.n : Int) ≤ a / 8) : Calls Try.prog 26 #[.pointer (some ⟨q.b, 0, none⟩), .int .u64 a] w fun e w' => e = .returned (.tuple #[.int .u64 0, .int .i64 0, .int .i64 1]) ∧ Fr Nil w w' := by
  have HA := Lib.hid (at_bad q s a w hm hn a0 a1 h)
  clear hm hn a0 a1 h
  go_enter Try.func26, Try.ntmps26
  go_wp2_with fail
  refine HA.out.mono ?_
  rintro e w2 ⟨rfl, rfl⟩
  go_wp2_with fail
  go_ret3
  exact ⟨rfl, Fr.refl _ _⟩
theorem order_ok (q : Bs) (s : St) (w : World) (hm : MemAt w q s) (hs : s.od.length ≤ 1000000) : Calls Try.prog 22 #[.pointer (some ⟨q.b, 0, none⟩)] w (Copied w 3 1 s.od.length (its s.od)) := by
  have hc : w.cell? ⟨q.b, 4, none⟩ = some q.ov := hm.top.cellv rfl
  have HC := Lib.hid (clone_ints q.ov _ _ w hm.order (one_its _) hs)
  obtain ⟨ao, cap, hv, _, _, _⟩ := hm.order.shape
  rw [hv] at hc HC
  clear hm hv hs
  go_enter Try.func22, Try.ntmps22
  go_wp2_with fail
  refine HC.out.mono ?_
  rintro e w2 ⟨v, rfl, h1, h2, h3⟩
  obtain ⟨ao', cap', rfl, _, _, _⟩ := h1.shape
  go_wp2_with fail
  go_ret
  exact ⟨_, rfl, h1, h2, h3⟩
theorem held_ok (q : Bs) (s : St) (i : Nat) (w : World) (hm : MemAt w q s) (hi : i < s.c) (hs : (s.H i).length ≤ 1000000) : Calls Try.prog 29 #[.pointer (some ⟨q.b, 0, none⟩), .int .i64 (i : Int)] w (Copied w 47 3 (s.H i).length (lcs (s.H i))) := by
  have hc : w.cell? ⟨q.b, 1, none⟩ = some (.slice (some ⟨q.bh, 0, none⟩) s.c s.c) := hm.top.cellv rfl
  have hc2 : w.cell? ⟨q.bh, i, none⟩ = some (q.hv i) := hm.held.cellv (hvs_get hi)
  have HC := Lib.hid (clone_lates (q.hv i) _ _ w (hm.own i hi) (one_lcs _) hs)
  have HK := Lib.hid (core_ok q s (i : Int) w hm)
  have hd : decide (0 ≤ (i : Int) ∧ (i : Int) < (s.c : Int)) = true := by simp; omega
  rw [hd] at HK
  obtain ⟨ao, cap, hv, _, _, _⟩ := (hm.own i hi).shape
  rw [hv] at hc2 HC
  have i1 : (i : Int) < (s.c : Int) := by omega
  clear hm hv hs hd
  generalize s.c = c at *
  go_enter Try.func29, Try.ntmps29
  go_wp2_with fail
  refine HK.out.mono ?_
  rintro e w2 ⟨rfl, rfl⟩
  go_wp2_with fail
  refine HC.out.mono ?_
  rintro e w2 ⟨v, rfl, h1, h2, h3⟩
  obtain ⟨ao', cap', rfl, _, _, _⟩ := h1.shape
  go_wp2_with fail
  go_ret
  exact ⟨_, rfl, h1, h2, h3⟩
theorem held_out (q : Bs) (s : St) (i : Int) (w : World) (hm : MemAt w q s) (hi : i < 0 ∨ (s.c : Int) ≤ i) : Calls Try.prog 29 #[.pointer (some ⟨q.b, 0, none⟩), .int .i64 i] w fun e w' => e = .returned (.slice none 0 0) ∧ w = w' := by
  have HK := Lib.hid (core_ok q s i w hm)
  have hd : decide (0 ≤ i ∧ i < (s.c : Int)) = false := by simp; omega
  rw [hd] at HK
  clear hm hd
  go_enter Try.func29, Try.ntmps29
  go_wp2_with fail
  refine HK.out.mono ?_
  rintro e w2 ⟨rfl, rfl⟩
  go_wp2_with fail
  go_ret
  exact ⟨rfl, rfl⟩
theorem ticket_ok (q : Bs) (s : St) (w : World) (hm : MemAt w q s) (hs : s.st.length ≤ 1000000) : Calls Try.prog 36 #[.pointer (some ⟨q.b, 0, none⟩)] w fun e w' => e = .returned (.int .i64 (s.st.length : Int)) ∧ Upd w q s { s with st := s.st ++ [0] } w' := by
  obtain ⟨i3, hi, hz0, hz1, hz2⟩ := info_parts Try.info3
  obtain ⟨ao, cap, hv, hle, hmx, _⟩ := hm.stamp.shape
  have HM := Lib.hid hm
  have hc : w.cell? ⟨q.b, 3, none⟩ = some (.slice ao s.st.length cap) := by rw [← hv]; exact hm.top.cellv rfl
  have hw := hm.stamp
  rw [hv] at hw
  have HW := Lib.hid hw
  have hne : (Value.slice ao s.st.length cap).ownBlock ≠ some q.b := by rw [← hv]; exact hm.stamp.ne hm.top (by decide)
  have HN := Lib.hid hne
  have HV := Lib.hid hv
  have htop := hm.top
  have HT := Lib.hid htop
  have h1 : (s.st.length : Int) ≤ 1000000 := by omega
  have HS := Lib.hid hs
  clear hm hw hne hv htop hs
  go_enter Try.func36, Try.ntmps36
  go_wp2_with (at_builtin; refine wpList_append_win _ rfl (.tmp 7) (.tmp 8) 39 rfl 3 i3 (.int .i64 0) 1 8 Try.underlying39 hi hz0 hz1 hz2 rfl (by decide) _ _ _ rfl (HW.out.alloc _) ⟨w.heap.size, 0, none⟩ 1 1 [.int .i64 0] rfl rfl (cell_one_new _ _ _) (by simp [Value.oneCell']) (by omega) (by have := HS.out; simp only [maxLen]; omega) (by have := HS.out; omega) _ rfl ?_; intro g off cap' w1 hw1 hgr hat; have hgr' := (World.grownBy_alloc w _ _).trans hgr; have hc1 := (HT.out.grown hgr' (Ne.symm HN.out)).cellv (i := 3) rfl; have hf1 := (HT.out.grown hgr' (Ne.symm HN.out)).frozen 3)
  go_ret
  have hF : Fr (fun k => q.sv.ownBlock = some k) w w1 := (Fr.refl _ w).grown hgr' fun k hk => .inl (by rw [HV.out]; exact hk)
  refine ⟨by simp, HM.out.setSv hF (st' := s.st ++ [0]) (by simpa [its] using hw1) fun k hk => ?_⟩
  cases hk
  rcases hat with h | h
  · exact .inl (by rw [HV.out]; exact h)
  · refine .inr ?_
    rw [h]
    simp
end Go.Proofs.Ytjbdbmahbcaniaa
