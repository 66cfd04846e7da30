/- Contracts of Set, Store. -/
import Derived.Test.YtjbdbmahbcaniaaLoad
set_option linter.unusedSimpArgs false
set_option linter.unusedSectionVars false
namespace Go.Proofs.Ytjbdbmahbcaniaa
open Go.RowKit
set_option linter.unusedVariables false

theorem MemAt.wlt {w : World} {q : Bs} {s : St} (h : MemAt w q s) : q.bw < w.heap.size := h.words.lt
theorem load_bad (q : Bs) (s : St) (c : Int) (a : Int) (w : World) (hm : MemAt w q s) (hn : s.n ≤ 8192) (a0 : 0 ≤ a) (a1 : a ≤ 18446744073709551615) (h : (c < 0 ∨ (s.c : Int) ≤ c) ∨ (a % 8 ≠ 0 ∨ (s.n : Int) ≤ a / 8)) :
    Calls Try.prog 15 #[.pointer (some ⟨q.b, 0, none⟩), .int .i64 c, .int .u64 a] w fun e w' => e = .returned (.tuple #[.int .u64 0, .int .i64 0, .int .i64 1]) ∧ Fr Nil w w' := by
  have F0 : Fr Nil w ((((w.alloc (.cells #[.int .u64 a] 22)).alloc (.cells #[.int .u64 0] 22)).alloc (.cells #[.int .i64 0] 3)).alloc (.cells #[.int .i64 0] 25)) := ((((Fr.refl Nil w).alloc _).alloc _).alloc _).alloc _
  have M0 := hm.fr0 F0
  have hbd : (a % 8 = 0 ∧ a / 8 < (s.n : Int)) → (c < 0 ∨ (s.c : Int) ≤ c) := by
    intro ⟨h1, h2⟩
    rcases h with h | h | h
    · exact h
    · exact absurd h1 h
    · omega
  have H2 := Lib.hid (fun w' (h : MemAt w' q s) => core_ok q s c w' h)
  have H3 := Lib.hid hbd
  have FF := Lib.hid F0
  have HM := Lib.hid M0
  by_cases hg : a % 8 = 0 ∧ a / 8 < (s.n : Int)
  · obtain ⟨k, hk⟩ : ∃ k : Nat, a = 8 * (k : Int) := ⟨(a / 8).toNat, by omega⟩
    have hk2 : k < s.n := by omega
    have HA := Lib.hid (at_ok q s a k _ M0 hk2 hn hk)
    have hd : decide (0 ≤ c ∧ c < (s.c : Int)) = false := by have := hbd hg; simp; omega
    have HD := Lib.hid hd
    clear hm hbd h hk hk2 hg hd M0 F0 hn a0 a1
    go_enter Try.func15, Try.ntmps15
    go_wp2_with fail
    refine HA.out.mono ?_
    rintro e w2 ⟨rfl, rfl⟩
    go_wp2_with fail
    refine (H2.out _ HM.out).mono ?_
    rintro e w2 ⟨rfl, rfl⟩
    rw [HD.out]
    go_wp2_with fail
    exact bodyPost_ret (v := .tuple #[.int .u64 0, .int .i64 0, .int .i64 1]) (by simp [results, Try.results15, go_sem]) rfl ⟨rfl, ((((Fr.refl Nil w).alloc _).alloc _).alloc _).alloc _⟩
  · have HA := Lib.hid (at_bad q s a _ M0 hn a0 a1 (by omega))
    clear hm hbd h hg M0 F0 hn a0 a1
    go_enter Try.func15, Try.ntmps15
    go_wp2_with fail
    refine HA.out.mono ?_
    rintro e w2 ⟨rfl, rfl⟩
    go_wp2_with fail
    exact bodyPost_ret (v := .tuple #[.int .u64 0, .int .i64 0, .int .i64 1]) (by simp [results, Try.results15, go_sem]) rfl ⟨rfl, ((((Fr.refl Nil w).alloc _).alloc _).alloc _).alloc _⟩
theorem set_ok (q : Bs) (s : St) (a v : Int) (k : Nat) (w : World) (hm : MemAt w q s) (hk : k < s.n) (hn : s.n ≤ 8192) (ha : a = 8 * (k : Int)) (hs : s.st.length = 1) :
    Calls Try.prog 13 #[.pointer (some ⟨q.b, 0, none⟩), .int .u64 a, .int .u64 v] w fun e w' => e = .returned (.int .i64 0) ∧ Upd w q s { s with V := upd s.V k v } w' := by
  have HA := Lib.hid (at_ok q s a k w hm hk hn ha)
  have HM := Lib.hid hm
  have hc : w.cell? ⟨q.b, 3, none⟩ = some q.sv := hm.top.cellv rfl
  obtain ⟨ao, cap, hv, _, _, _⟩ := hm.stamp.shape
  rw [hs] at hv
  rw [hv] at hc
  have c4 : w.cell? ⟨q.bw, k * 2, none⟩ = some (.int .u64 (s.V k)) := hm.words.cellv (wcs_v hk)
  have f4 : w.frozen? ⟨q.bw, k * 2, none⟩ = false := hm.words.frozen _
  have U := Lib.hid (hm.setWords (T := s.T) ((Fr.refl (One q.bw) w).set1 (.int .u64 v)) ((hm.words.set_ (k * 2) (.int .u64 v)).cast (wcs_setv hk v)))
  clear hm hv hs hk hn ha
  go_enter Try.func13, Try.ntmps13
  go_wp2_with fail
  refine HA.out.mono ?_
  rintro e w2 ⟨rfl, rfl⟩
  go_wp2_with fail
  go_ret
  exact ⟨rfl, U.out⟩
theorem set_run (q : Bs) (s : St) (a v : Int) (k : Nat) (w : World) (hm : MemAt w q s) (hk : k < s.n) (hn : s.n ≤ 8192) (ha : a = 8 * (k : Int)) (hs : 1 < s.st.length) :
    Calls Try.prog 13 #[.pointer (some ⟨q.b, 0, none⟩), .int .u64 a, .int .u64 v] w fun e w' => e = .returned (.int .i64 7) ∧ w = w' := by
  have HA := Lib.hid (at_ok q s a k w hm hk hn ha)
  have hc : w.cell? ⟨q.b, 3, none⟩ = some q.sv := hm.top.cellv rfl
  obtain ⟨ao, cap, hv, _, _, _⟩ := hm.stamp.shape
  rw [hv] at hc
  have hs' : (1 : Int) < (s.st.length : Int) := by omega
  clear hm hv hs hk hn ha
  generalize s.st.length = m at *
  go_enter Try.func13, Try.ntmps13
  go_wp2_with fail
  refine HA.out.mono ?_
  rintro e w2 ⟨rfl, rfl⟩
  go_wp2_with fail
  go_ret
  exact ⟨rfl, rfl⟩
theorem set_bad (q : Bs) (s : St) (a v : Int) (w : World) (hm : MemAt w q s) (hn : s.n ≤ 8192) (a0 : 0 ≤ a) (a1 : a ≤ 18446744073709551615) (h : a % 8 ≠ 0 ∨ (s.n : Int) ≤ a / 8) :
    Calls Try.prog 13 #[.pointer (some ⟨q.b, 0, none⟩), .int .u64 a, .int .u64 v] w fun e w' => e = .returned (.int .i64 1) ∧ w = w' := by
  have HA := Lib.hid (at_bad q s a w hm hn a0 a1 h)
  clear hm hn a0 a1 h
  go_enter Try.func13, Try.ntmps13
  go_wp2_with fail
  refine HA.out.mono ?_
  rintro e w2 ⟨rfl, rfl⟩
  go_wp2_with fail
  go_ret
  exact ⟨rfl, rfl⟩
theorem store_bad (q : Bs) (s : St) (c : Int) (a v : Int) (w : World) (hm : MemAt w q s) (hn : s.n ≤ 8192) (a0 : 0 ≤ a) (a1 : a ≤ 18446744073709551615) (h : (c < 0 ∨ (s.c : Int) ≤ c) ∨ (a % 8 ≠ 0 ∨ (s.n : Int) ≤ a / 8)) :
    Calls Try.prog 14 #[.pointer (some ⟨q.b, 0, none⟩), .int .i64 c, .int .u64 a, .int .u64 v] w fun e w' => e = .returned (.tuple #[.int .i64 0, .int .i64 1]) ∧ w = w' := by
  have HC := Lib.hid (core_ok q s c w hm)
  by_cases hg : a % 8 = 0 ∧ a / 8 < (s.n : Int)
  · obtain ⟨k, hk⟩ : ∃ k : Nat, a = 8 * (k : Int) := ⟨(a / 8).toNat, by omega⟩
    have hk2 : k < s.n := by omega
    have HA := Lib.hid (at_ok q s a k _ hm hk2 hn hk)
    have hd : decide (0 ≤ c ∧ c < (s.c : Int)) = false := by simp; omega
    rw [hd] at HC
    clear hm h hk hk2 hg hd hn a0 a1
    go_enter Try.func14, Try.ntmps14
    go_wp2_with fail
    refine HA.out.mono ?_
    rintro e w2 ⟨rfl, rfl⟩
    go_wp2_with fail
    refine HC.out.mono ?_
    rintro e w2 ⟨rfl, rfl⟩
    go_wp2_with fail
    go_ret2
    exact ⟨rfl, rfl⟩
  · have HA := Lib.hid (at_bad q s a _ hm hn a0 a1 (by omega))
    clear hm h hg hn a0 a1
    go_enter Try.func14, Try.ntmps14
    go_wp2_with fail
    refine HA.out.mono ?_
    rintro e w2 ⟨rfl, rfl⟩
    go_wp2_with fail
    go_ret2
    exact ⟨rfl, rfl⟩
theorem store_full (q : Bs) (s : St) (i : Nat) (a v : Int) (k : Nat) (w : World) (hm : MemAt w q s) (hi : i < s.c) (hk : k < s.n) (hn : s.n ≤ 8192) (ha : a = 8 * (k : Int)) (hf : (s.H i).length = s.d) :
    Calls Try.prog 14 #[.pointer (some ⟨q.b, 0, none⟩), .int .i64 (i : Int), .int .u64 a, .int .u64 v] w fun e w' => e = .returned (.tuple #[.int .i64 0, .int .i64 30]) ∧ Fr Nil w w' := by
  have HA := Lib.hid (at_ok q s a k w hm hk hn ha)
  have HC := Lib.hid (core_ok q s (i : Int) w hm)
  have hd : decide (0 ≤ (i : Int) ∧ (i : Int) < (s.c : Int)) = true := by simp; omega
  rw [hd] at HC
  have c1 : w.cell? ⟨q.b, 1, none⟩ = some (.slice (some ⟨q.bh, 0, none⟩) s.c s.c) := hm.top.cellv rfl
  have c3 : w.cell? ⟨q.b, 2, none⟩ = some (.int .i64 (s.d : Int)) := hm.top.cellv rfl
  have c2 : w.cell? ⟨q.bh, i, none⟩ = some (q.hv i) := hm.held.cellv (hvs_get hi)
  obtain ⟨ao, cap, hv, _, _, _⟩ := (hm.own i hi).shape
  rw [hf] at hv
  rw [hv] at c2
  have i0 : (0 : Int) ≤ (i : Int) := by omega
  have i1 : (i : Int) < (s.c : Int) := by omega
  clear hm hv hd hk hn ha hf
  go_enter Try.func14, Try.ntmps14
  go_wp2_with fail
  refine HA.out.mono ?_
  rintro e w2 ⟨rfl, rfl⟩
  go_wp2_with fail
  refine HC.out.mono ?_
  rintro e w2 ⟨rfl, rfl⟩
  go_wp2_with fail
  go_quiet (fail)
  go_wp2_with fail
  go_ret2
  exact ⟨rfl, Fr.drewN (Fr.refl _ _) _⟩
end Go.Proofs.Ytjbdbmahbcaniaa
