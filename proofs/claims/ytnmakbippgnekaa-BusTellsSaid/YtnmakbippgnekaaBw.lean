/- The bus: Read and Write. -/
import Derived.Test.YtnmakbippgnekaaBo
set_option linter.unusedSimpArgs false
set_option linter.unusedVariables false
set_option linter.unusedSectionVars false
namespace Go.Proofs.Ytnmakbippgnekaa
open Go.RowKit
set_option maxRecDepth 100000

def rdReg (B : BS) (c : Int) (J : Nat) (k : Int) : Int :=
  match J with
  | 0 => setOf B (·.en) c
  | 1 => setOf B I.pn c
  | 2 => setOf B (·.ac) c
  | 3 => IntKind.u64.wrap (B.g.rate c k)
  | 4 => IntKind.u64.wrap (B.g.goes (k + 32))
  | _ => (B.o.length : Int)
def wrReg (B : BS) (c : Int) (J : Nat) (k v : Int) : BS :=
  match J with
  | 0 => { B with g := allG (fun g i => g.enable c (i : Int) (k == 0)) v 64 B.g }
  | 1 => { B with g := allG (fun g i => g.pend c (i : Int) (k == 0)) v 64 B.g }
  | 2 => B
  | 3 => { B with g := B.g.rank c k (v % 256) }
  | 4 => { B with g := if decide (v < (B.t.n : Int)) = true then B.g.route (k + 32) v else B.g }
  | _ => { B with o := tellO B.o v }
def whereP (a : Int) : Option Nat := (List.range 6).find? (inPl a)
def okA (n : Nat) (c a : Int) : Bool := decide (0 ≤ c) && decide (c < (n : Int)) && (a % 8 == 0)
def regK (a : Int) (J : Nat) : Int := (a - (plAt J).lo) / 8
def rdB (B : BS) (c a : Int) : Int × Int := if okA B.t.n c a = true then (match whereP a with | some J => (rdReg B c J (regK a J), 0) | none => (0, 1)) else (0, 1)
def wrB (B : BS) (c a v : Int) : BS := if okA B.t.n c a = true then (match whereP a with | some J => wrReg B c J (regK a J) v | none => B) else B
theorem inPl_uniq {a : Int} {J : Nat} (hJ : J < 6) (h : inPl a J = true) : ∀ j, j < 6 → j ≠ J → inPl a j = false := by
  intro j hj hne
  have a1 : j = 0 ∨ j = 1 ∨ j = 2 ∨ j = 3 ∨ j = 4 ∨ j = 5 := by omega
  have a2 : J = 0 ∨ J = 1 ∨ J = 2 ∨ J = 3 ∨ J = 4 ∨ J = 5 := by omega
  have e : inPl a j = true → False := by
    intro h'
    unfold inPl at h h'
    simp only [Bool.and_eq_true, decide_eq_true_eq] at h h'
    rcases a1 with rfl | rfl | rfl | rfl | rfl | rfl <;> rcases a2 with rfl | rfl | rfl | rfl | rfl | rfl <;> first | exact hne rfl | (simp [plAt, pls] at h h'; omega)
  cases hb : inPl a j
  · rfl
  · exact (e hb).elim
theorem whereP_some {a : Int} {J : Nat} (h : whereP a = some J) : J < 6 ∧ inPl a J = true := by
  have h1 := List.find?_some h
  have h2 := List.mem_of_find?_eq_some h
  exact ⟨List.mem_range.1 h2, h1⟩
theorem whereP_none {a : Int} (h : whereP a = none) : ∀ j, j < 6 → inPl a j = false := by
  intro j hj
  have := List.find?_eq_none.1 h j (List.mem_range.2 hj)
  simpa using this
section
variable {K : Nat → Prop} {w w' : World} {bb gb tb : Nat} {B : BS}
theorem Bk.top (h : Bk K w bb gb tb B) : ∃ v1 v2 v3, Blk w bb 60 #[.int .i64 (B.t.n : Int), v1, v2, v3] := by
  obtain ⟨tr, ov, h1, h2, h3⟩ := h.mem
  exact ⟨_, _, _, h1.top⟩
theorem Bk.find (h : Bk K w bb gb tb B) {c a : Int} {J : Nat} (hok : okA B.t.n c a = true) (a0 : 0 ≤ a) (a1 : a ≤ 18446744073709551615) (hJ : J < 6) (hin : inPl a J = true) :
    Calls Try.prog 24 #[.pointer (some ⟨bb, 0, none⟩), .int .i64 c, .int .u64 a] w fun e w' => e = .returned (.tuple #[pagg (plAt J), .int .i64 (regK a J), .bool true]) ∧ Fr Nil w w' := by
  obtain ⟨v1, v2, v3, ht⟩ := h.top
  exact find_at J hJ bb B.t.n v1 v2 v3 c a w ht hok a0 a1 (fun j hj => inPl_uniq hJ hin j (by omega) (by omega)) hin
theorem Bk.lost (h : Bk K w bb gb tb B) {c a : Int} (a0 : 0 ≤ a) (a1 : a ≤ 18446744073709551615) (hno : okA B.t.n c a = false ∨ ∀ j, j < 6 → inPl a j = false) :
    Calls Try.prog 24 #[.pointer (some ⟨bb, 0, none⟩), .int .i64 c, .int .u64 a] w fun e w' => e = .returned (.tuple #[pz, .int .i64 0, .bool false]) ∧ Fr Nil w w' := by
  obtain ⟨v1, v2, v3, ht⟩ := h.top
  cases hok : okA B.t.n c a
  · exact find_bad bb B.t.n v1 v2 v3 c a w ht hok a0 a1
  · rcases hno with e | e
    · rw [hok] at e; cases e
    · exact find_no bb B.t.n v1 v2 v3 c a w ht hok a0 a1 e
/-- Which register it is. -/
theorem regK_rng {a : Int} {J : Nat} (hJ : J < 6) (h : inPl a J = true) : 0 ≤ regK a J ∧ regK a J ≤ 63 := by
  have a2 : J = 0 ∨ J = 1 ∨ J = 2 ∨ J = 3 ∨ J = 4 ∨ J = 5 := by omega
  unfold inPl at h
  unfold regK
  simp only [Bool.and_eq_true, decide_eq_true_eq] at h
  rcases a2 with rfl | rfl | rfl | rfl | rfl | rfl <;> (simp [plAt, pls] at h ⊢; omega)
theorem readN_ok (c a : Int) (w : World) (h : Bk K w bb gb tb B) (a0 : 0 ≤ a) (a1 : a ≤ 18446744073709551615) (hno : okA B.t.n c a = false ∨ ∀ j, j < 6 → inPl a j = false) :
    Calls Try.prog 13 #[.pointer (some ⟨bb, 0, none⟩), .int .i64 c, .int .u64 a] w fun e w' => e = .returned (.tuple #[.int .u64 0, .int .i64 1]) ∧ Fr Nil w w' := by
  have FI := Lib.hid (h.lost a0 a1 hno)
  clear h a0 a1 hno
  go_enter Try.func13, Try.ntmps13
  go_upto_region 2 with (go_at_call 24; refine FI.out.mono ?_; rintro e w2 ⟨rfl, f2⟩; unfold pz)
  have F2 := Lib.hid (f2.alloc (.cells #[.int .u64 0, .int .u64 0, .nilFunc, .nilFunc] 64))
  clear f2
  generalize w2.alloc (.cells #[.int .u64 0, .int .u64 0, .nilFunc, .nilFunc] 64) = w3 at *
  go_wp2_with fail
  go_ret2
  exact ⟨rfl, F2.out⟩
theorem writeN_ok (c a v : Int) (w : World) (h : Bk K w bb gb tb B) (a0 : 0 ≤ a) (a1 : a ≤ 18446744073709551615) (hno : okA B.t.n c a = false ∨ ∀ j, j < 6 → inPl a j = false) :
    Calls Try.prog 9 #[.pointer (some ⟨bb, 0, none⟩), .int .i64 c, .int .u64 a, .int .u64 v] w (Bn K bb gb tb w B (.int .i64 1)) := by
  have H := Lib.hid h
  have FI := Lib.hid (h.lost a0 a1 hno)
  clear h a0 a1 hno
  go_enter Try.func9, Try.ntmps9
  go_upto_region 2 with (go_at_call 24; refine FI.out.mono ?_; rintro e w2 ⟨rfl, f2⟩; unfold pz)
  have F2 := Lib.hid (f2.alloc (.cells #[.int .u64 0, .int .u64 0, .nilFunc, .nilFunc] 64))
  clear f2
  generalize w2.alloc (.cells #[.int .u64 0, .int .u64 0, .nilFunc, .nilFunc] 64) = w3 at *
  go_wp2_with fail
  go_ret
  exact Bn.refl H.out F2.out _
theorem allG_bc (f : GS → Nat → GS) (hf : ∀ g k, (f g k).c = g.c) (v : Int) (g : GS) (k : Nat) : (allG f v k g).c = g.c := allG_c f hf v g k
set_option maxHeartbeats 1000000 in
theorem read0_ok (c a : Int) (w : World) (h : Bk K w bb gb tb B) (hok : okA B.t.n c a = true) (a0 : 0 ≤ a) (a1 : a ≤ 18446744073709551615) (hin : inPl a 0 = true) :
    Calls Try.prog 13 #[.pointer (some ⟨bb, 0, none⟩), .int .i64 c, .int .u64 a] w fun e w' => e = .returned (.tuple #[.int .u64 (rdReg B c 0 (regK a 0)), .int .i64 0]) ∧ Fr Nil w w' := by
  have FI := Lib.hid (h.find hok a0 a1 (by decide) hin)
  obtain ⟨kr0, kr1⟩ := regK_rng (J := 0) (by decide) hin
  have K0 := Lib.hid kr0
  have K1 := Lib.hid (show regK a 0 ≤ 1000 by omega)
  have H := Lib.hid h
  clear h hok a0 a1 hin kr0 kr1
  generalize regK a 0 = k at *
  go_enter Try.func13, Try.ntmps13
  go_upto_region 2 with (go_at_call 24; refine FI.out.mono ?_; rintro e w2 ⟨rfl, f2⟩; simp only [pagg, pf, plAt, pls, List.getD_cons_zero, List.getD_cons_succ])
  have F2 := Lib.hid (f2.alloc (.cells #[.int .u64 134217728, .int .u64 134217744, .func (.func 46) #[] #[], .func (.func 47) #[] #[]] 64))
  have u2 := (Blk.new w2 64 #[.int .u64 134217728, .int .u64 134217744, .func (.func 46) #[] #[], .func (.func 47) #[] #[]]).cellv (i := 2) rfl
  clear f2
  generalize w2.alloc (.cells #[.int .u64 134217728, .int .u64 134217744, .func (.func 46) #[] #[], .func (.func 47) #[] #[]] 64) = w3 at *
  generalize w2.heap.size = xb at *
  have HC := Lib.hid (rd46_ok c k w3 (H.out.still F2.out))
  clear K0 K1
  go_wp2_with fail
  refine HC.out.mono ?_
  rintro e w4 ⟨rfl, rfl⟩
  go_wp2_with fail
  go_ret2
  exact ⟨rfl, F2.out⟩
set_option maxHeartbeats 1000000 in
theorem write0_ok (c a v : Int) (w : World) (h : Bk K w bb gb tb B) (hok : okA B.t.n c a = true) (a0 : 0 ≤ a) (a1 : a ≤ 18446744073709551615) (hin : inPl a 0 = true) (v0 : 0 ≤ v) (v1 : v ≤ 18446744073709551615) :
    Calls Try.prog 9 #[.pointer (some ⟨bb, 0, none⟩), .int .i64 c, .int .u64 a, .int .u64 v] w (Bn K bb gb tb w (wrReg B c 0 (regK a 0) v) (.int .i64 0)) := by
  have FI := Lib.hid (h.find hok a0 a1 (by decide) hin)
  obtain ⟨kr0, kr1⟩ := regK_rng (J := 0) (by decide) hin
  have K0 := Lib.hid kr0
  have K1 := Lib.hid (show regK a 0 ≤ 1000 by omega)
  have V0 := Lib.hid (And.intro v0 v1)
  have H := Lib.hid h
  clear h hok a0 a1 hin kr0 kr1 v0 v1
  generalize regK a 0 = k at *
  go_enter Try.func9, Try.ntmps9
  go_upto_region 2 with (go_at_call 24; refine FI.out.mono ?_; rintro e w2 ⟨rfl, f2⟩; simp only [pagg, pf, plAt, pls, List.getD_cons_zero, List.getD_cons_succ])
  have F2 := Lib.hid (f2.alloc (.cells #[.int .u64 134217728, .int .u64 134217744, .func (.func 46) #[] #[], .func (.func 47) #[] #[]] 64))
  have u3 := (Blk.new w2 64 #[.int .u64 134217728, .int .u64 134217744, .func (.func 46) #[] #[], .func (.func 47) #[] #[]]).cellv (i := 3) rfl
  clear f2
  generalize w2.alloc (.cells #[.int .u64 134217728, .int .u64 134217744, .func (.func 46) #[] #[], .func (.func 47) #[] #[]] 64) = w3 at *
  generalize w2.heap.size = xb at *
  have HC := Lib.hid (wr47_ok c v k (k == 0) w3 (H.out.still F2.out) V0.out.1 V0.out.2 rfl)
  clear K0 K1 V0
  go_wp2_with fail
  refine HC.out.mono ?_
  rintro e w4 ⟨rfl, h4, f4⟩
  have H4 := Lib.hid (And.intro h4 (F2.out.nil.trans f4))
  clear h4 f4 u3
  go_wp2_with fail
  go_ret
  exact ⟨rfl, H4.out.1, H4.out.2⟩
set_option maxHeartbeats 1000000 in
theorem read1_ok (c a : Int) (w : World) (h : Bk K w bb gb tb B) (hok : okA B.t.n c a = true) (a0 : 0 ≤ a) (a1 : a ≤ 18446744073709551615) (hin : inPl a 1 = true) :
    Calls Try.prog 13 #[.pointer (some ⟨bb, 0, none⟩), .int .i64 c, .int .u64 a] w fun e w' => e = .returned (.tuple #[.int .u64 (rdReg B c 1 (regK a 1)), .int .i64 0]) ∧ Fr Nil w w' := by
  have FI := Lib.hid (h.find hok a0 a1 (by decide) hin)
  obtain ⟨kr0, kr1⟩ := regK_rng (J := 1) (by decide) hin
  have K0 := Lib.hid kr0
  have K1 := Lib.hid (show regK a 1 ≤ 1000 by omega)
  have H := Lib.hid h
  clear h hok a0 a1 hin kr0 kr1
  generalize regK a 1 = k at *
  go_enter Try.func13, Try.ntmps13
  go_upto_region 2 with (go_at_call 24; refine FI.out.mono ?_; rintro e w2 ⟨rfl, f2⟩; simp only [pagg, pf, plAt, pls, List.getD_cons_zero, List.getD_cons_succ])
  have F2 := Lib.hid (f2.alloc (.cells #[.int .u64 134217744, .int .u64 134217760, .func (.func 48) #[] #[], .func (.func 49) #[] #[]] 64))
  have u2 := (Blk.new w2 64 #[.int .u64 134217744, .int .u64 134217760, .func (.func 48) #[] #[], .func (.func 49) #[] #[]]).cellv (i := 2) rfl
  clear f2
  generalize w2.alloc (.cells #[.int .u64 134217744, .int .u64 134217760, .func (.func 48) #[] #[], .func (.func 49) #[] #[]] 64) = w3 at *
  generalize w2.heap.size = xb at *
  have HC := Lib.hid (rd48_ok c k w3 (H.out.still F2.out))
  clear K0 K1
  go_wp2_with fail
  refine HC.out.mono ?_
  rintro e w4 ⟨rfl, rfl⟩
  go_wp2_with fail
  go_ret2
  exact ⟨rfl, F2.out⟩
set_option maxHeartbeats 1000000 in
theorem write1_ok (c a v : Int) (w : World) (h : Bk K w bb gb tb B) (hok : okA B.t.n c a = true) (a0 : 0 ≤ a) (a1 : a ≤ 18446744073709551615) (hin : inPl a 1 = true) (v0 : 0 ≤ v) (v1 : v ≤ 18446744073709551615) :
    Calls Try.prog 9 #[.pointer (some ⟨bb, 0, none⟩), .int .i64 c, .int .u64 a, .int .u64 v] w (Bn K bb gb tb w (wrReg B c 1 (regK a 1) v) (.int .i64 0)) := by
  have FI := Lib.hid (h.find hok a0 a1 (by decide) hin)
  obtain ⟨kr0, kr1⟩ := regK_rng (J := 1) (by decide) hin
  have K0 := Lib.hid kr0
  have K1 := Lib.hid (show regK a 1 ≤ 1000 by omega)
  have V0 := Lib.hid (And.intro v0 v1)
  have H := Lib.hid h
  clear h hok a0 a1 hin kr0 kr1 v0 v1
  generalize regK a 1 = k at *
  go_enter Try.func9, Try.ntmps9
  go_upto_region 2 with (go_at_call 24; refine FI.out.mono ?_; rintro e w2 ⟨rfl, f2⟩; simp only [pagg, pf, plAt, pls, List.getD_cons_zero, List.getD_cons_succ])
  have F2 := Lib.hid (f2.alloc (.cells #[.int .u64 134217744, .int .u64 134217760, .func (.func 48) #[] #[], .func (.func 49) #[] #[]] 64))
  have u3 := (Blk.new w2 64 #[.int .u64 134217744, .int .u64 134217760, .func (.func 48) #[] #[], .func (.func 49) #[] #[]]).cellv (i := 3) rfl
  clear f2
  generalize w2.alloc (.cells #[.int .u64 134217744, .int .u64 134217760, .func (.func 48) #[] #[], .func (.func 49) #[] #[]] 64) = w3 at *
  generalize w2.heap.size = xb at *
  have HC := Lib.hid (wr49_ok c v k (k == 0) w3 (H.out.still F2.out) V0.out.1 V0.out.2 rfl)
  clear K0 K1 V0
  go_wp2_with fail
  refine HC.out.mono ?_
  rintro e w4 ⟨rfl, h4, f4⟩
  have H4 := Lib.hid (And.intro h4 (F2.out.nil.trans f4))
  clear h4 f4 u3
  go_wp2_with fail
  go_ret
  exact ⟨rfl, H4.out.1, H4.out.2⟩
set_option maxHeartbeats 1000000 in
theorem read2_ok (c a : Int) (w : World) (h : Bk K w bb gb tb B) (hok : okA B.t.n c a = true) (a0 : 0 ≤ a) (a1 : a ≤ 18446744073709551615) (hin : inPl a 2 = true) :
    Calls Try.prog 13 #[.pointer (some ⟨bb, 0, none⟩), .int .i64 c, .int .u64 a] w fun e w' => e = .returned (.tuple #[.int .u64 (rdReg B c 2 (regK a 2)), .int .i64 0]) ∧ Fr Nil w w' := by
  have FI := Lib.hid (h.find hok a0 a1 (by decide) hin)
  obtain ⟨kr0, kr1⟩ := regK_rng (J := 2) (by decide) hin
  have K0 := Lib.hid kr0
  have K1 := Lib.hid (show regK a 2 ≤ 1000 by omega)
  have H := Lib.hid h
  clear h hok a0 a1 hin kr0 kr1
  generalize regK a 2 = k at *
  go_enter Try.func13, Try.ntmps13
  go_upto_region 2 with (go_at_call 24; refine FI.out.mono ?_; rintro e w2 ⟨rfl, f2⟩; simp only [pagg, pf, plAt, pls, List.getD_cons_zero, List.getD_cons_succ])
  have F2 := Lib.hid (f2.alloc (.cells #[.int .u64 134217760, .int .u64 134217768, .func (.func 50) #[] #[], .func (.func 51) #[] #[]] 64))
  have u2 := (Blk.new w2 64 #[.int .u64 134217760, .int .u64 134217768, .func (.func 50) #[] #[], .func (.func 51) #[] #[]]).cellv (i := 2) rfl
  clear f2
  generalize w2.alloc (.cells #[.int .u64 134217760, .int .u64 134217768, .func (.func 50) #[] #[], .func (.func 51) #[] #[]] 64) = w3 at *
  generalize w2.heap.size = xb at *
  have HC := Lib.hid (rd50_ok c k w3 (H.out.still F2.out))
  clear K0 K1
  go_wp2_with fail
  refine HC.out.mono ?_
  rintro e w4 ⟨rfl, rfl⟩
  go_wp2_with fail
  go_ret2
  exact ⟨rfl, F2.out⟩
set_option maxHeartbeats 1000000 in
theorem write2_ok (c a v : Int) (w : World) (h : Bk K w bb gb tb B) (hok : okA B.t.n c a = true) (a0 : 0 ≤ a) (a1 : a ≤ 18446744073709551615) (hin : inPl a 2 = true) (v0 : 0 ≤ v) (v1 : v ≤ 18446744073709551615) :
    Calls Try.prog 9 #[.pointer (some ⟨bb, 0, none⟩), .int .i64 c, .int .u64 a, .int .u64 v] w (Bn K bb gb tb w (wrReg B c 2 (regK a 2) v) (.int .i64 0)) := by
  have FI := Lib.hid (h.find hok a0 a1 (by decide) hin)
  obtain ⟨kr0, kr1⟩ := regK_rng (J := 2) (by decide) hin
  have K0 := Lib.hid kr0
  have K1 := Lib.hid (show regK a 2 ≤ 1000 by omega)
  have V0 := Lib.hid (And.intro v0 v1)
  have H := Lib.hid h
  clear h hok a0 a1 hin kr0 kr1 v0 v1
  generalize regK a 2 = k at *
  go_enter Try.func9, Try.ntmps9
  go_upto_region 2 with (go_at_call 24; refine FI.out.mono ?_; rintro e w2 ⟨rfl, f2⟩; simp only [pagg, pf, plAt, pls, List.getD_cons_zero, List.getD_cons_succ])
  have F2 := Lib.hid (f2.alloc (.cells #[.int .u64 134217760, .int .u64 134217768, .func (.func 50) #[] #[], .func (.func 51) #[] #[]] 64))
  have u3 := (Blk.new w2 64 #[.int .u64 134217760, .int .u64 134217768, .func (.func 50) #[] #[], .func (.func 51) #[] #[]]).cellv (i := 3) rfl
  clear f2
  generalize w2.alloc (.cells #[.int .u64 134217760, .int .u64 134217768, .func (.func 50) #[] #[], .func (.func 51) #[] #[]] 64) = w3 at *
  generalize w2.heap.size = xb at *
  have HC := Lib.hid (wr51_ok c v k w3 (H.out.still F2.out))
  clear K0 K1 V0
  go_wp2_with fail
  refine HC.out.mono ?_
  rintro e w4 ⟨rfl, h4, f4⟩
  have H4 := Lib.hid (And.intro h4 (F2.out.nil.trans f4))
  clear h4 f4 u3
  go_wp2_with fail
  go_ret
  exact ⟨rfl, H4.out.1, H4.out.2⟩
set_option maxHeartbeats 1000000 in
theorem read3_ok (c a : Int) (w : World) (h : Bk K w bb gb tb B) (hok : okA B.t.n c a = true) (a0 : 0 ≤ a) (a1 : a ≤ 18446744073709551615) (hin : inPl a 3 = true) :
    Calls Try.prog 13 #[.pointer (some ⟨bb, 0, none⟩), .int .i64 c, .int .u64 a] w fun e w' => e = .returned (.tuple #[.int .u64 (rdReg B c 3 (regK a 3)), .int .i64 0]) ∧ Fr Nil w w' := by
  have FI := Lib.hid (h.find hok a0 a1 (by decide) hin)
  obtain ⟨kr0, kr1⟩ := regK_rng (J := 3) (by decide) hin
  have K0 := Lib.hid kr0
  have K1 := Lib.hid (show regK a 3 ≤ 1000 by omega)
  have H := Lib.hid h
  clear h hok a0 a1 hin kr0 kr1
  generalize regK a 3 = k at *
  go_enter Try.func13, Try.ntmps13
  go_upto_region 2 with (go_at_call 24; refine FI.out.mono ?_; rintro e w2 ⟨rfl, f2⟩; simp only [pagg, pf, plAt, pls, List.getD_cons_zero, List.getD_cons_succ])
  have F2 := Lib.hid (f2.alloc (.cells #[.int .u64 134218240, .int .u64 134218752, .func (.func 52) #[] #[], .func (.func 53) #[] #[]] 64))
  have u2 := (Blk.new w2 64 #[.int .u64 134218240, .int .u64 134218752, .func (.func 52) #[] #[], .func (.func 53) #[] #[]]).cellv (i := 2) rfl
  clear f2
  generalize w2.alloc (.cells #[.int .u64 134218240, .int .u64 134218752, .func (.func 52) #[] #[], .func (.func 53) #[] #[]] 64) = w3 at *
  generalize w2.heap.size = xb at *
  have HC := Lib.hid (rd52_ok c k w3 (H.out.still F2.out))
  clear K0 K1
  go_wp2_with fail
  refine HC.out.mono ?_
  rintro e w4 ⟨rfl, rfl⟩
  go_wp2_with fail
  go_ret2
  exact ⟨rfl, F2.out⟩
set_option maxHeartbeats 1000000 in
theorem write3_ok (c a v : Int) (w : World) (h : Bk K w bb gb tb B) (hok : okA B.t.n c a = true) (a0 : 0 ≤ a) (a1 : a ≤ 18446744073709551615) (hin : inPl a 3 = true) (v0 : 0 ≤ v) (v1 : v ≤ 18446744073709551615) :
    Calls Try.prog 9 #[.pointer (some ⟨bb, 0, none⟩), .int .i64 c, .int .u64 a, .int .u64 v] w (Bn K bb gb tb w (wrReg B c 3 (regK a 3) v) (.int .i64 0)) := by
  have FI := Lib.hid (h.find hok a0 a1 (by decide) hin)
  obtain ⟨kr0, kr1⟩ := regK_rng (J := 3) (by decide) hin
  have K0 := Lib.hid kr0
  have K1 := Lib.hid (show regK a 3 ≤ 1000 by omega)
  have V0 := Lib.hid (And.intro v0 v1)
  have H := Lib.hid h
  clear h hok a0 a1 hin kr0 kr1 v0 v1
  generalize regK a 3 = k at *
  go_enter Try.func9, Try.ntmps9
  go_upto_region 2 with (go_at_call 24; refine FI.out.mono ?_; rintro e w2 ⟨rfl, f2⟩; simp only [pagg, pf, plAt, pls, List.getD_cons_zero, List.getD_cons_succ])
  have F2 := Lib.hid (f2.alloc (.cells #[.int .u64 134218240, .int .u64 134218752, .func (.func 52) #[] #[], .func (.func 53) #[] #[]] 64))
  have u3 := (Blk.new w2 64 #[.int .u64 134218240, .int .u64 134218752, .func (.func 52) #[] #[], .func (.func 53) #[] #[]]).cellv (i := 3) rfl
  clear f2
  generalize w2.alloc (.cells #[.int .u64 134218240, .int .u64 134218752, .func (.func 52) #[] #[], .func (.func 53) #[] #[]] 64) = w3 at *
  generalize w2.heap.size = xb at *
  have HC := Lib.hid (wr53_ok c v k w3 (H.out.still F2.out) V0.out.1 V0.out.2)
  clear K0 K1 V0
  go_wp2_with fail
  refine HC.out.mono ?_
  rintro e w4 ⟨rfl, h4, f4⟩
  have H4 := Lib.hid (And.intro h4 (F2.out.nil.trans f4))
  clear h4 f4 u3
  go_wp2_with fail
  go_ret
  exact ⟨rfl, H4.out.1, H4.out.2⟩
set_option maxHeartbeats 1000000 in
theorem read4_ok (c a : Int) (w : World) (h : Bk K w bb gb tb B) (hok : okA B.t.n c a = true) (a0 : 0 ≤ a) (a1 : a ≤ 18446744073709551615) (hin : inPl a 4 = true) :
    Calls Try.prog 13 #[.pointer (some ⟨bb, 0, none⟩), .int .i64 c, .int .u64 a] w fun e w' => e = .returned (.tuple #[.int .u64 (rdReg B c 4 (regK a 4)), .int .i64 0]) ∧ Fr Nil w w' := by
  have FI := Lib.hid (h.find hok a0 a1 (by decide) hin)
  obtain ⟨kr0, kr1⟩ := regK_rng (J := 4) (by decide) hin
  have K0 := Lib.hid kr0
  have K1 := Lib.hid (show regK a 4 ≤ 1000 by omega)
  have H := Lib.hid h
  clear h hok a0 a1 hin kr0 kr1
  generalize regK a 4 = k at *
  go_enter Try.func13, Try.ntmps13
  go_upto_region 2 with (go_at_call 24; refine FI.out.mono ?_; rintro e w2 ⟨rfl, f2⟩; simp only [pagg, pf, plAt, pls, List.getD_cons_zero, List.getD_cons_succ])
  have F2 := Lib.hid (f2.alloc (.cells #[.int .u64 134218752, .int .u64 134219008, .func (.func 54) #[] #[], .func (.func 55) #[] #[]] 64))
  have u2 := (Blk.new w2 64 #[.int .u64 134218752, .int .u64 134219008, .func (.func 54) #[] #[], .func (.func 55) #[] #[]]).cellv (i := 2) rfl
  clear f2
  generalize w2.alloc (.cells #[.int .u64 134218752, .int .u64 134219008, .func (.func 54) #[] #[], .func (.func 55) #[] #[]] 64) = w3 at *
  generalize w2.heap.size = xb at *
  have HC := Lib.hid (rd54_ok c k w3 (H.out.still F2.out) K0.out K1.out)
  clear K0 K1
  go_wp2_with fail
  refine HC.out.mono ?_
  rintro e w4 ⟨rfl, rfl⟩
  go_wp2_with fail
  go_ret2
  exact ⟨rfl, F2.out⟩
set_option maxHeartbeats 1000000 in
theorem write4_ok (c a v : Int) (w : World) (h : Bk K w bb gb tb B) (hok : okA B.t.n c a = true) (a0 : 0 ≤ a) (a1 : a ≤ 18446744073709551615) (hin : inPl a 4 = true) (v0 : 0 ≤ v) (v1 : v ≤ 18446744073709551615) :
    Calls Try.prog 9 #[.pointer (some ⟨bb, 0, none⟩), .int .i64 c, .int .u64 a, .int .u64 v] w (Bn K bb gb tb w (wrReg B c 4 (regK a 4) v) (.int .i64 0)) := by
  have FI := Lib.hid (h.find hok a0 a1 (by decide) hin)
  obtain ⟨kr0, kr1⟩ := regK_rng (J := 4) (by decide) hin
  have K0 := Lib.hid kr0
  have K1 := Lib.hid (show regK a 4 ≤ 1000 by omega)
  have V0 := Lib.hid (And.intro v0 v1)
  have H := Lib.hid h
  clear h hok a0 a1 hin kr0 kr1 v0 v1
  generalize regK a 4 = k at *
  go_enter Try.func9, Try.ntmps9
  go_upto_region 2 with (go_at_call 24; refine FI.out.mono ?_; rintro e w2 ⟨rfl, f2⟩; simp only [pagg, pf, plAt, pls, List.getD_cons_zero, List.getD_cons_succ])
  have F2 := Lib.hid (f2.alloc (.cells #[.int .u64 134218752, .int .u64 134219008, .func (.func 54) #[] #[], .func (.func 55) #[] #[]] 64))
  have u3 := (Blk.new w2 64 #[.int .u64 134218752, .int .u64 134219008, .func (.func 54) #[] #[], .func (.func 55) #[] #[]]).cellv (i := 3) rfl
  clear f2
  generalize w2.alloc (.cells #[.int .u64 134218752, .int .u64 134219008, .func (.func 54) #[] #[], .func (.func 55) #[] #[]] 64) = w3 at *
  generalize w2.heap.size = xb at *
  have HC := Lib.hid (wr55_ok c v k w3 (H.out.still F2.out) V0.out.1 V0.out.2 K0.out K1.out)
  clear K0 K1 V0
  go_wp2_with fail
  refine HC.out.mono ?_
  rintro e w4 ⟨rfl, h4, f4⟩
  have H4 := Lib.hid (And.intro h4 (F2.out.nil.trans f4))
  clear h4 f4 u3
  go_wp2_with fail
  go_ret
  exact ⟨rfl, H4.out.1, H4.out.2⟩
set_option maxHeartbeats 1000000 in
theorem read5_ok (c a : Int) (w : World) (h : Bk K w bb gb tb B) (hok : okA B.t.n c a = true) (a0 : 0 ≤ a) (a1 : a ≤ 18446744073709551615) (hin : inPl a 5 = true) :
    Calls Try.prog 13 #[.pointer (some ⟨bb, 0, none⟩), .int .i64 c, .int .u64 a] w fun e w' => e = .returned (.tuple #[.int .u64 (rdReg B c 5 (regK a 5)), .int .i64 0]) ∧ Fr Nil w w' := by
  have FI := Lib.hid (h.find hok a0 a1 (by decide) hin)
  obtain ⟨kr0, kr1⟩ := regK_rng (J := 5) (by decide) hin
  have K0 := Lib.hid kr0
  have K1 := Lib.hid (show regK a 5 ≤ 1000 by omega)
  have H := Lib.hid h
  clear h hok a0 a1 hin kr0 kr1
  generalize regK a 5 = k at *
  go_enter Try.func13, Try.ntmps13
  go_upto_region 2 with (go_at_call 24; refine FI.out.mono ?_; rintro e w2 ⟨rfl, f2⟩; simp only [pagg, pf, plAt, pls, List.getD_cons_zero, List.getD_cons_succ])
  have F2 := Lib.hid (f2.alloc (.cells #[.int .u64 150994944, .int .u64 150994952, .func (.func 56) #[] #[], .func (.func 57) #[] #[]] 64))
  have u2 := (Blk.new w2 64 #[.int .u64 150994944, .int .u64 150994952, .func (.func 56) #[] #[], .func (.func 57) #[] #[]]).cellv (i := 2) rfl
  clear f2
  generalize w2.alloc (.cells #[.int .u64 150994944, .int .u64 150994952, .func (.func 56) #[] #[], .func (.func 57) #[] #[]] 64) = w3 at *
  generalize w2.heap.size = xb at *
  have HC := Lib.hid (rd56_ok c k w3 (H.out.still F2.out))
  clear K0 K1
  go_wp2_with fail
  refine HC.out.mono ?_
  rintro e w4 ⟨rfl, rfl⟩
  go_wp2_with fail
  go_ret2
  exact ⟨rfl, F2.out⟩
set_option maxHeartbeats 1000000 in
theorem write5_ok (c a v : Int) (w : World) (h : Bk K w bb gb tb B) (hok : okA B.t.n c a = true) (a0 : 0 ≤ a) (a1 : a ≤ 18446744073709551615) (hin : inPl a 5 = true) (v0 : 0 ≤ v) (v1 : v ≤ 18446744073709551615) :
    Calls Try.prog 9 #[.pointer (some ⟨bb, 0, none⟩), .int .i64 c, .int .u64 a, .int .u64 v] w (Bn K bb gb tb w (wrReg B c 5 (regK a 5) v) (.int .i64 0)) := by
  have FI := Lib.hid (h.find hok a0 a1 (by decide) hin)
  obtain ⟨kr0, kr1⟩ := regK_rng (J := 5) (by decide) hin
  have K0 := Lib.hid kr0
  have K1 := Lib.hid (show regK a 5 ≤ 1000 by omega)
  have V0 := Lib.hid (And.intro v0 v1)
  have H := Lib.hid h
  clear h hok a0 a1 hin kr0 kr1 v0 v1
  generalize regK a 5 = k at *
  go_enter Try.func9, Try.ntmps9
  go_upto_region 2 with (go_at_call 24; refine FI.out.mono ?_; rintro e w2 ⟨rfl, f2⟩; simp only [pagg, pf, plAt, pls, List.getD_cons_zero, List.getD_cons_succ])
  have F2 := Lib.hid (f2.alloc (.cells #[.int .u64 150994944, .int .u64 150994952, .func (.func 56) #[] #[], .func (.func 57) #[] #[]] 64))
  have u3 := (Blk.new w2 64 #[.int .u64 150994944, .int .u64 150994952, .func (.func 56) #[] #[], .func (.func 57) #[] #[]]).cellv (i := 3) rfl
  clear f2
  generalize w2.alloc (.cells #[.int .u64 150994944, .int .u64 150994952, .func (.func 56) #[] #[], .func (.func 57) #[] #[]] 64) = w3 at *
  generalize w2.heap.size = xb at *
  have HC := Lib.hid (tell_ok c v k w3 (H.out.still F2.out) V0.out.1 V0.out.2)
  clear K0 K1 V0
  go_wp2_with fail
  refine HC.out.mono ?_
  rintro e w4 ⟨rfl, h4, f4⟩
  have H4 := Lib.hid (And.intro h4 (F2.out.nil.trans f4))
  clear h4 f4 u3
  go_wp2_with fail
  go_ret
  exact ⟨rfl, H4.out.1, H4.out.2⟩
theorem read_ok (c a : Int) (w : World) (h : Bk K w bb gb tb B) (a0 : 0 ≤ a) (a1 : a ≤ 18446744073709551615) :
    Calls Try.prog 13 #[.pointer (some ⟨bb, 0, none⟩), .int .i64 c, .int .u64 a] w fun e w' => e = .returned (.tuple #[.int .u64 (rdB B c a).1, .int .i64 (rdB B c a).2]) ∧ Fr Nil w w' := by
  unfold rdB
  cases hok : okA B.t.n c a
  · rw [if_neg (by simp)]
    exact readN_ok c a w h a0 a1 (.inl hok)
  · rw [if_pos rfl]
    cases hw : whereP a with
    | none => exact readN_ok c a w h a0 a1 (.inr (whereP_none hw))
    | some J =>
      obtain ⟨hJ, hin⟩ := whereP_some hw
      have a2 : J = 0 ∨ J = 1 ∨ J = 2 ∨ J = 3 ∨ J = 4 ∨ J = 5 := by omega
      rcases a2 with rfl | rfl | rfl | rfl | rfl | rfl
      · exact read0_ok c a w h hok a0 a1 hin
      · exact read1_ok c a w h hok a0 a1 hin
      · exact read2_ok c a w h hok a0 a1 hin
      · exact read3_ok c a w h hok a0 a1 hin
      · exact read4_ok c a w h hok a0 a1 hin
      · exact read5_ok c a w h hok a0 a1 hin
/-- Is there no register? -/
def wrF (B : BS) (c a : Int) : Int := (rdB B c a).2
theorem write_ok (c a v : Int) (w : World) (h : Bk K w bb gb tb B) (a0 : 0 ≤ a) (a1 : a ≤ 18446744073709551615) (v0 : 0 ≤ v) (v1 : v ≤ 18446744073709551615) :
    Calls Try.prog 9 #[.pointer (some ⟨bb, 0, none⟩), .int .i64 c, .int .u64 a, .int .u64 v] w (Bn K bb gb tb w (wrB B c a v) (.int .i64 (wrF B c a))) := by
  unfold wrF rdB wrB
  cases hok : okA B.t.n c a
  · rw [if_neg (by simp), if_neg (by simp)]
    exact writeN_ok c a v w h a0 a1 (.inl hok)
  · rw [if_pos rfl, if_pos rfl]
    cases hw : whereP a with
    | none => exact writeN_ok c a v w h a0 a1 (.inr (whereP_none hw))
    | some J =>
      obtain ⟨hJ, hin⟩ := whereP_some hw
      have a2 : J = 0 ∨ J = 1 ∨ J = 2 ∨ J = 3 ∨ J = 4 ∨ J = 5 := by omega
      rcases a2 with rfl | rfl | rfl | rfl | rfl | rfl
      · exact write0_ok c a v w h hok a0 a1 hin v0 v1
      · exact write1_ok c a v w h hok a0 a1 hin v0 v1
      · exact write2_ok c a v w h hok a0 a1 hin v0 v1
      · exact write3_ok c a v w h hok a0 a1 hin v0 v1
      · exact write4_ok c a v w h hok a0 a1 hin v0 v1
      · exact write5_ok c a v w h hok a0 a1 hin v0 v1
end
end Go.Proofs.Ytnmakbippgnekaa
