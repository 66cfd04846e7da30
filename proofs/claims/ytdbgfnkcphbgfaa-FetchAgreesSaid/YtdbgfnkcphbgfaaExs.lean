/- Chapter 15: the chapter's own examples. -/
import Derived.Test.YtdbgfnkcphbgfaaChk2
namespace Go.Proofs.Ytdbgfnkcphbgfaa
open Go.RowKit
set_option linter.unusedVariables false

theorem lit_nts (w : World) (l : List N) (cs : Array Value) (h : cs.toList = ncs l) (hm : l.length ≤ maxLen) : Nts (w.alloc (.cells cs 31)) (some ⟨w.heap.size, 0, none⟩) l := by
  have hs : cs.size = l.length * 4 := by rw [← Array.length_toList, h, ncs_length]
  have := Win.full (n := l.length) (size := 4) (Blk.new w 31 cs) hs hm
  rw [h] at this
  exact this.nts
theorem lit_wds (w : World) (l : List Int) (cs : Array Value) (h : cs.toList = wcs l) (hm : l.length ≤ maxLen) : Wds (w.alloc (.cells cs 24)) (some ⟨w.heap.size, 0, none⟩) l := by
  have hs : cs.size = l.length * 1 := by rw [← Array.length_toList, h, wcs_length, Nat.mul_one]
  have := Win.full (n := l.length) (size := 1) (Blk.new w 24 cs) hs hm
  rw [h] at this
  exact this.wds
theorem okN (k c a x : Int) (h : -9223372036854775808 ≤ k ∧ k ≤ 9223372036854775807 ∧ -9223372036854775808 ≤ c ∧ c ≤ 9223372036854775807 ∧ 0 ≤ a ∧ a ≤ 18446744073709551615 ∧ 0 ≤ x ∧ x ≤ 4294967295) : N.Ok ⟨k, c, a, x⟩ :=
  ⟨h.1, h.2.1, h.2.2.1, h.2.2.2.1, h.2.2.2.2.1, h.2.2.2.2.2.1, h.2.2.2.2.2.2.1, h.2.2.2.2.2.2.2⟩
theorem write_lit (a x : Int) (w : World) : Calls Try.prog 9 #[.int .u64 a, .int .u32 x] w fun e w' => e = .returned (.agg #[.int .i64 1, .int .i64 0, .int .u64 a, .int .u32 x]) ∧ Fr Nil w w' := write_ok a x w
theorem ic_lit (a : Int) (w : World) : Calls Try.prog 8 #[.int .u64 a] w fun e w' => e = .returned (.agg #[.int .i64 2, .int .i64 0, .int .u64 a, .int .u32 0]) ∧ Fr Nil w w' := ic_ok a w
theorem isb_lit (c : Int) (w : World) : Calls Try.prog 10 #[.int .i64 c] w fun e w' => e = .returned (.agg #[.int .i64 4, .int .i64 c, .int .u64 0, .int .u32 0]) ∧ Fr Nil w w' := isb_ok c w
def exl (c : Int) : List N := [⟨1, 0, 64, 8⟩, ⟨2, 0, 100, 0⟩, ⟨4, c, 0, 0⟩]
def exf : List N := [⟨1, 0, 64, 8⟩, ⟨2, 0, 100, 0⟩, ⟨4, 1, 0, 0⟩, ⟨5, 1, 64, 7⟩]
theorem exl_ok (c : Int) (h : c = 0 ∨ c = 1) : ∀ n ∈ exl c, n.Ok := by
  intro n hn
  simp only [exl, List.mem_cons, List.not_mem_nil, or_false] at hn
  rcases hn with rfl | rfl | rfl <;> exact okN _ _ _ _ (by omega)
theorem exf_ok : ∀ n ∈ exf, n.Ok := by
  intro n hn
  simp only [exf, List.mem_cons, List.not_mem_nil, or_false] at hn
  rcases hn with rfl | rfl | rfl | rfl <;> exact okN _ _ _ _ (by omega)
theorem ex_a (w : World) : Calls Try.prog 7 #[.slice none 0 0, .int .i64 1, .int .u64 64, .int .u32 7] w fun e w' => ∃ ao cp, e = .returned (.tuple #[.slice ao 1 cp, .int .i64 0]) ∧ Fr Nil w w' ∧ Wds w' ao [7] ∧ 1 ≤ cp :=
  (may_yes [] (by simp) 1 64 7 (by omega) (by omega) none 0 w (by simp) (by simp) (fun i n h => by simp at h) (by decide)).mono fun e w' ⟨v, he, hf, hw, _⟩ => by
    have e1 : may 1 64 7 [] = [7] := by decide
    rw [e1] at hw
    obtain ⟨ao, cp, rfl, hc, _, _⟩ := hw.shape
    exact ⟨ao, cp, he, hf, hw.wds, hc⟩
theorem ex_b (a : Option Addr) (w : World) (hm : Nts w a (exl 0)) : Calls Try.prog 7 #[.slice a 3 3, .int .i64 1, .int .u64 64, .int .u32 7] w fun e w' => ∃ ao cp, e = .returned (.tuple #[.slice ao 2 cp, .int .i64 0]) ∧ Fr Nil w w' ∧ Wds w' ao [7, 8] ∧ 2 ≤ cp :=
  (may_yes (exl 0) (exl_ok 0 (.inl rfl)) 1 64 7 (by omega) (by omega) a 3 w (by simp [exl]) (by simp [exl]) hm (by decide)).mono fun e w' ⟨v, he, hf, hw, _⟩ => by
    have e1 : may 1 64 7 (exl 0) = [7, 8] := by decide
    rw [e1] at hw
    obtain ⟨ao, cp, rfl, hc, _, _⟩ := hw.shape
    exact ⟨ao, cp, he, hf, hw.wds, hc⟩
theorem ex_c (a : Option Addr) (w : World) (hm : Nts w a (exl 1)) : Calls Try.prog 7 #[.slice a 3 3, .int .i64 1, .int .u64 64, .int .u32 7] w fun e w' => ∃ ao cp, e = .returned (.tuple #[.slice ao 1 cp, .int .i64 0]) ∧ Fr Nil w w' ∧ Wds w' ao [8] ∧ 1 ≤ cp :=
  (may_yes (exl 1) (exl_ok 1 (.inr rfl)) 1 64 7 (by omega) (by omega) a 3 w (by simp [exl]) (by simp [exl]) hm (by decide)).mono fun e w' ⟨v, he, hf, hw, _⟩ => by
    have e1 : may 1 64 7 (exl 1) = [8] := by decide
    rw [e1] at hw
    obtain ⟨ao, cp, rfl, hc, _, _⟩ := hw.shape
    exact ⟨ao, cp, he, hf, hw.wds, hc⟩
theorem ex_d (w : World) : Calls Try.prog 7 #[.slice none 0 0, .int .i64 1, .int .u64 2, .int .u32 7] w fun e w' => e = .returned (.tuple #[.slice none 0 0, .int .i64 1]) ∧ Fr Nil w w' :=
  may_no [] (by simp) 1 2 7 (by omega) (by omega) none 0 w (by simp [maxLen]) (by simp) (fun i n h => by simp at h) (by decide)
theorem ex_e (a : Option Addr) (w : World) (hm : Nts w a exf) : Calls Try.prog 14 #[.slice a 4 4, .func (.func 15) #[] #[]] w fun e w' => e = .returned (.tuple #[.int .i64 3, .int .i64 0]) ∧ Fr Nil w w' :=
  (check_seven exf exf_ok a 4 w (by simp [exf]) (by simp [exf]) hm (by decide)).mono fun e w' ⟨he, hf⟩ => by
    have e1 : chk 7 [] exf = 3 := by decide
    rw [e1] at he
    exact ⟨he, hf⟩
set_option maxRecDepth 100000 in
set_option maxHeartbeats 2000000 in
theorem examples_ok (w : World) : Calls Try.prog 6 #[] w fun e w' => e = .returned (.bool true) ∧ Fr Nil w w' := by
  go_enter Try.func6, Try.ntmps6
  go_wp2_with fail
  refine (ex_a _).mono ?_
  rintro e w1 ⟨a1, p1, rfl, hf, hA1, q1⟩
  have L1 := Lib.hid ((Fr.refl Nil w).trans hf)
  have F1 := Lib.hid ((Fr.refl Nil w).trans L1.out)
  clear hf L1
  have A1 := Lib.hid hA1
  clear hA1
  go_wp2_with fail
  refine (write_lit 64 8 _).mono ?_
  rintro e w2 ⟨rfl, hf⟩
  have L2 := Lib.hid ((Fr.refl Nil w1).trans hf)
  have F2 := Lib.hid (F1.out.trans L2.out)
  replace A1 := Lib.hid (A1.out.fr L2.out)
  clear hf L2
  go_wp2_with fail
  refine (ic_lit 100 _).mono ?_
  rintro e w3 ⟨rfl, hf⟩
  have L3 := Lib.hid ((Fr.refl Nil w2).trans hf)
  have F3 := Lib.hid (F2.out.trans L3.out)
  replace A1 := Lib.hid (A1.out.fr L3.out)
  clear hf L3
  go_wp2_with fail
  refine (isb_lit 0 _).mono ?_
  rintro e w4 ⟨rfl, hf⟩
  have L4 := Lib.hid ((Fr.refl Nil w3).trans hf)
  have F4 := Lib.hid (F3.out.trans L4.out)
  replace A1 := Lib.hid (A1.out.fr L4.out)
  clear hf L4
  go_wp2_with fail
  refine (ex_b _ _ (lit_nts w4 (exl 0) #[.int .i64 1, .int .i64 0, .int .u64 64, .int .u32 8, .int .i64 2, .int .i64 0, .int .u64 100, .int .u32 0, .int .i64 4, .int .i64 0, .int .u64 0, .int .u32 0] rfl (by simp [exl, exf, maxLen]))).mono ?_
  rintro e w5 ⟨a2, p2, rfl, hf, hA2, q2⟩
  have L5 := Lib.hid (((Fr.refl Nil w4).alloc (.cells #[.int .i64 1, .int .i64 0, .int .u64 64, .int .u32 8, .int .i64 2, .int .i64 0, .int .u64 100, .int .u32 0, .int .i64 4, .int .i64 0, .int .u64 0, .int .u32 0] 31)).trans hf)
  have F5 := Lib.hid (F4.out.trans L5.out)
  replace A1 := Lib.hid (A1.out.fr L5.out)
  clear hf L5
  have A2 := Lib.hid hA2
  clear hA2
  go_wp2_with fail
  refine (write_lit 64 8 _).mono ?_
  rintro e w6 ⟨rfl, hf⟩
  have L6 := Lib.hid ((Fr.refl Nil w5).trans hf)
  have F6 := Lib.hid (F5.out.trans L6.out)
  replace A1 := Lib.hid (A1.out.fr L6.out)
  replace A2 := Lib.hid (A2.out.fr L6.out)
  clear hf L6
  go_wp2_with fail
  refine (ic_lit 100 _).mono ?_
  rintro e w7 ⟨rfl, hf⟩
  have L7 := Lib.hid ((Fr.refl Nil w6).trans hf)
  have F7 := Lib.hid (F6.out.trans L7.out)
  replace A1 := Lib.hid (A1.out.fr L7.out)
  replace A2 := Lib.hid (A2.out.fr L7.out)
  clear hf L7
  go_wp2_with fail
  refine (isb_lit 1 _).mono ?_
  rintro e w8 ⟨rfl, hf⟩
  have L8 := Lib.hid ((Fr.refl Nil w7).trans hf)
  have F8 := Lib.hid (F7.out.trans L8.out)
  replace A1 := Lib.hid (A1.out.fr L8.out)
  replace A2 := Lib.hid (A2.out.fr L8.out)
  clear hf L8
  go_wp2_with fail
  refine (ex_c _ _ (lit_nts w8 (exl 1) #[.int .i64 1, .int .i64 0, .int .u64 64, .int .u32 8, .int .i64 2, .int .i64 0, .int .u64 100, .int .u32 0, .int .i64 4, .int .i64 1, .int .u64 0, .int .u32 0] rfl (by simp [exl, exf, maxLen]))).mono ?_
  rintro e w9 ⟨a3, p3, rfl, hf, hA3, q3⟩
  have L9 := Lib.hid (((Fr.refl Nil w8).alloc (.cells #[.int .i64 1, .int .i64 0, .int .u64 64, .int .u32 8, .int .i64 2, .int .i64 0, .int .u64 100, .int .u32 0, .int .i64 4, .int .i64 1, .int .u64 0, .int .u32 0] 31)).trans hf)
  have F9 := Lib.hid (F8.out.trans L9.out)
  replace A1 := Lib.hid (A1.out.fr L9.out)
  replace A2 := Lib.hid (A2.out.fr L9.out)
  clear hf L9
  have A3 := Lib.hid hA3
  clear hA3
  go_wp2_with fail
  refine (ex_d _).mono ?_
  rintro e w10 ⟨rfl, hf⟩
  have L10 := Lib.hid ((Fr.refl Nil w9).trans hf)
  have F10 := Lib.hid (F9.out.trans L10.out)
  replace A1 := Lib.hid (A1.out.fr L10.out)
  replace A2 := Lib.hid (A2.out.fr L10.out)
  replace A3 := Lib.hid (A3.out.fr L10.out)
  clear hf L10
  go_wp2_with fail
  refine (write_lit 64 8 _).mono ?_
  rintro e w11 ⟨rfl, hf⟩
  have L11 := Lib.hid ((Fr.refl Nil w10).trans hf)
  have F11 := Lib.hid (F10.out.trans L11.out)
  replace A1 := Lib.hid (A1.out.fr L11.out)
  replace A2 := Lib.hid (A2.out.fr L11.out)
  replace A3 := Lib.hid (A3.out.fr L11.out)
  clear hf L11
  go_wp2_with fail
  refine (ic_lit 100 _).mono ?_
  rintro e w12 ⟨rfl, hf⟩
  have L12 := Lib.hid ((Fr.refl Nil w11).trans hf)
  have F12 := Lib.hid (F11.out.trans L12.out)
  replace A1 := Lib.hid (A1.out.fr L12.out)
  replace A2 := Lib.hid (A2.out.fr L12.out)
  replace A3 := Lib.hid (A3.out.fr L12.out)
  clear hf L12
  go_wp2_with fail
  refine (isb_lit 1 _).mono ?_
  rintro e w13 ⟨rfl, hf⟩
  have L13 := Lib.hid ((Fr.refl Nil w12).trans hf)
  have F13 := Lib.hid (F12.out.trans L13.out)
  replace A1 := Lib.hid (A1.out.fr L13.out)
  replace A2 := Lib.hid (A2.out.fr L13.out)
  replace A3 := Lib.hid (A3.out.fr L13.out)
  clear hf L13
  go_wp2_with fail
  refine (ex_e _ _ (lit_nts w13 exf #[.int .i64 1, .int .i64 0, .int .u64 64, .int .u32 8, .int .i64 2, .int .i64 0, .int .u64 100, .int .u32 0, .int .i64 4, .int .i64 1, .int .u64 0, .int .u32 0, .int .i64 5, .int .i64 1, .int .u64 64, .int .u32 7] rfl (by simp [exl, exf, maxLen]))).mono ?_
  rintro e w14 ⟨rfl, hf⟩
  have L14 := Lib.hid (((Fr.refl Nil w13).alloc (.cells #[.int .i64 1, .int .i64 0, .int .u64 64, .int .u32 8, .int .i64 2, .int .i64 0, .int .u64 100, .int .u32 0, .int .i64 4, .int .i64 1, .int .u64 0, .int .u32 0, .int .i64 5, .int .i64 1, .int .u64 64, .int .u32 7] 31)).trans hf)
  have F14 := Lib.hid (F13.out.trans L14.out)
  replace A1 := Lib.hid (A1.out.fr L14.out)
  replace A2 := Lib.hid (A2.out.fr L14.out)
  replace A3 := Lib.hid (A3.out.fr L14.out)
  clear hf L14
  go_wp2_with fail
  refine (same_ok [7] a1 _ p1 1 _ (by simp [maxLen]) q1 (by simp) (A1.out.fr ((Fr.refl Nil w14).alloc (.cells #[.int .u32 7] 24))) (lit_wds w14 [7] #[.int .u32 7] rfl (by simp [maxLen]))).mono ?_
  rintro e w15 ⟨rfl, hf⟩
  have L15 := Lib.hid (((Fr.refl Nil w14).alloc (.cells #[.int .u32 7] 24)).trans hf)
  have F15 := Lib.hid (F14.out.trans L15.out)
  replace A1 := Lib.hid (A1.out.fr L15.out)
  replace A2 := Lib.hid (A2.out.fr L15.out)
  replace A3 := Lib.hid (A3.out.fr L15.out)
  clear hf L15
  go_wp2_with fail
  refine (same_ok [7, 8] a2 _ p2 2 _ (by simp [maxLen]) q2 (by simp) (A2.out.fr ((Fr.refl Nil w15).alloc (.cells #[.int .u32 7, .int .u32 8] 24))) (lit_wds w15 [7, 8] #[.int .u32 7, .int .u32 8] rfl (by simp [maxLen]))).mono ?_
  rintro e w16 ⟨rfl, hf⟩
  have L16 := Lib.hid (((Fr.refl Nil w15).alloc (.cells #[.int .u32 7, .int .u32 8] 24)).trans hf)
  have F16 := Lib.hid (F15.out.trans L16.out)
  replace A1 := Lib.hid (A1.out.fr L16.out)
  replace A2 := Lib.hid (A2.out.fr L16.out)
  replace A3 := Lib.hid (A3.out.fr L16.out)
  clear hf L16
  go_wp2_with fail
  refine (same_ok [8] a3 _ p3 1 _ (by simp [maxLen]) q3 (by simp) (A3.out.fr ((Fr.refl Nil w16).alloc (.cells #[.int .u32 8] 24))) (lit_wds w16 [8] #[.int .u32 8] rfl (by simp [maxLen]))).mono ?_
  rintro e w17 ⟨rfl, hf⟩
  have L17 := Lib.hid (((Fr.refl Nil w16).alloc (.cells #[.int .u32 8] 24)).trans hf)
  have F17 := Lib.hid (F16.out.trans L17.out)
  replace A1 := Lib.hid (A1.out.fr L17.out)
  replace A2 := Lib.hid (A2.out.fr L17.out)
  replace A3 := Lib.hid (A3.out.fr L17.out)
  clear hf L17
  go_wp2_with fail
  go_ret
  exact ⟨rfl, F17.out⟩
end Go.Proofs.Ytdbgfnkcphbgfaa
