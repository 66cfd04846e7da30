/- The bus: its lines, bits by bits. -/
import Derived.Test.YtnmakbippgnekaaBm
import Derived.Test.YtnmakbippgnekaaNum
set_option linter.unusedSimpArgs false
set_option linter.unusedVariables false
set_option linter.unusedSectionVars false
namespace Go.Proofs.Ytnmakbippgnekaa
open Go.RowKit
set_option maxRecDepth 100000

def mayB (n : Nat) (c el : Int) : Bool := decide (0 ≤ c) && decide (c < (n : Int)) && (el == 0 || el == 1)
theorem may_ok {K : Nat → Prop} {bb gb tb : Nat} {B : BS} (c el : Int) (w : World) (h : Bk K w bb gb tb B) :
    Calls Try.prog 25 #[.pointer (some ⟨bb, 0, none⟩), .int .i64 c, .int .i64 el] w fun e w' => e = .returned (.bool (mayB B.t.n c el)) ∧ w = w' := by
  obtain ⟨c0, -, -⟩ := h.cells
  have n8 : (B.t.n : Int) ≤ 8 := by have := h.n8; omega
  unfold mayB
  clear h
  generalize B.t.n = n at *
  cases e1 : decide (0 ≤ c) <;> cases e2 : decide (c < (n : Int)) <;> cases e3 : (el == 0) <;> cases e4 : (el == 1)
  all_goals
    go_enter Try.func25, Try.ntmps25
    go_wp2_with fail
    go_ret
    exact ⟨rfl, rfl⟩
def linesG (t : Tim.Ts) : Nat → GS → GS
  | 0, g => g
  | k + 1, g => (linesG t k g).line (k : Int) 27 (Tim.hiB t (k : Int))
theorem setF_c (s : GS) (c id : Int) (f : I → I) : (s.setF c id f).c = s.c := by
  unfold GS.setF GS.put
  split
  · split <;> rfl
  · rfl
theorem line_c (s : GS) (c id : Int) (v : Bool) : (s.line c id v).c = s.c := by
  unfold GS.line
  split
  · exact setF_c _ _ _ _
  · rfl
theorem linesG_c (t : Tim.Ts) (g : GS) : ∀ k, (linesG t k g).c = g.c
  | 0 => rfl
  | k + 1 => (line_c _ _ _ _).trans (linesG_c t g k)
set_option maxHeartbeats 1000000 in
theorem lines_ok {K : Nat → Prop} {bb gb tb : Nat} {B : BS} (w : World) (h : Bk K w bb gb tb B) :
    Calls Try.prog 27 #[.pointer (some ⟨bb, 0, none⟩)] w (Bn K bb gb tb w { B with g := linesG B.t B.t.n B.g } (.tuple #[])) := by
  obtain ⟨c0, c1, c2⟩ := h.cells
  have n8 : (B.t.n : Int) ≤ 8 := by have := h.n8; omega
  have H := Lib.hid h
  clear h
  obtain ⟨n, hn⟩ : ∃ n, B.t.n = n := ⟨_, rfl⟩
  rw [hn] at c0 n8 ⊢
  have HN := Lib.hid hn
  clear hn
  go_enter Try.func27, Try.ntmps27
  go_wp2_with fail
  go_loopw [7] (fun i wr => ∃ k : Nat, k ≤ n ∧ i = .int .i64 (k : Int) ∧ Bk K wr bb gb tb { B with g := linesG B.t k B.g } ∧ Fr (Not K) w wr) (fun i _ => n - (intOf i).toNat)
  case atStart => exact ⟨0, Nat.zero_le _, rfl, H.out, Fr.refl _ _⟩
  case round =>
    obtain ⟨k, hk, rfl, hB, hf⟩ := hrel
    have HB := Lib.hid hB
    have HF := Lib.hid hf
    clear c0 c1 c2
    obtain ⟨c0, c1, c2⟩ := hB.cells
    clear hB hf
    by_cases hlt : k < n
    · have HJ := Lib.hid hlt
      have kn : (k : Int) < (n : Int) := by omega
      clear hk hlt
      go_upto_region 3 with fail
      have C1 := Lib.hid (fun W (f : Fr Nil wr W) => (HB.out.still f).timR (f := 40) (args := #[.pointer (some ⟨tb, 0, none⟩), .int .i64 (k : Int)]) (v := .bool (Tim.hiB B.t (k : Int))) fun tr ht => Tim.high_ok tb tr B.t (k : Int) W ht (HB.out.right))
      have C2 := Lib.hid (fun W (f : Fr Nil wr W) => (HB.out.still f).gic (f := 39) (args := #[.pointer (some ⟨gb, 0, none⟩), .int .i64 (k : Int), .int .i64 27, .bool (Tim.hiB B.t (k : Int))]) (v := _) (fun K' hg => line_ok K' gb _ (k : Int) 27 (Tim.hiB B.t (k : Int)) W hg) (line_c _ _ _ _))
      have F0 := (Fr.refl Nil wr).drew
      go_region_held3 (fun w' => w'.cell? ⟨bb, 1, none⟩ = some (.pointer (some ⟨gb, 0, none⟩)) ∧ w'.cell? ⟨bb, 2, none⟩ = some (.pointer (some ⟨tb, 0, none⟩))) (first | exact (HB.out.still F0).cells.2 | exact (HB.out.still F1).cells.2 | exact h5.cells.2) (first | (go_at_call 40; refine (C1.out _ F0).mono ?_; rintro e w4 ⟨rfl, f4⟩; have F1 := F0.trans f4) | (go_at_call 39; refine (C2.out _ F1).mono ?_; rintro e w5 ⟨rfl, h5, f5⟩; have F5 := HF.out.trans (F1.nil.trans f5)) | fail)
      have H5 := Lib.hid h5
      have HF5 := Lib.hid F5
      clear h5 F5 F1 F0 f4 f5 C1 C2 c0 c1 c2
      go_wp2_with fail
      go_roundw
      case rel => exact ⟨k + 1, HJ.out, by go_num, H5.out, HF5.out⟩
      case measure => have := HJ.out; simp [intOf]; omega
    · obtain rfl : k = n := by omega
      have lx : decide (k < k) = false := by simp
      clear hk hlt
      go_wp2_with fail
      go_end0
      exact ⟨rfl, HB.out, HF.out⟩
end Go.Proofs.Ytnmakbippgnekaa
