/- The bus: each register's reading and writing. -/
import Derived.Test.YtnmakbippgnekaaBb
set_option linter.unusedSimpArgs false
set_option linter.unusedVariables false
set_option linter.unusedSectionVars false
namespace Go.Proofs.Ytnmakbippgnekaa
open Go.RowKit
set_option maxRecDepth 100000

section
variable {K : Nat → Prop} {w : World} {bb gb tb : Nat} {B : BS}
def setOf (B : BS) (f : I → Bool) (c : Int) : Int := (setN (fun id => B.g.tellB f c (id : Int)) 64 : Int)
theorem rd46_ok (c k : Int) (w : World) (h : Bk K w bb gb tb B) : Calls Try.prog 46 #[.pointer (some ⟨bb, 0, none⟩), .int .i64 c, .int .i64 k] w fun e w' => e = .returned (.int .u64 (setOf B (·.en) c)) ∧ w = w' := by
  have HC := Lib.hid (bits65_ok (fun id => B.g.tellB (·.en) c (id : Int)) c w h fun id hid => h.gicR fun K' hg => hg.enabled c (id : Int))
  clear h
  go_enter Try.func46, Try.ntmps46
  go_wp2_with fail
  refine HC.out.mono ?_
  rintro e w4 ⟨rfl, rfl⟩
  go_wp2_with fail
  go_ret
  exact ⟨rfl, rfl⟩
theorem rd48_ok (c k : Int) (w : World) (h : Bk K w bb gb tb B) : Calls Try.prog 48 #[.pointer (some ⟨bb, 0, none⟩), .int .i64 c, .int .i64 k] w fun e w' => e = .returned (.int .u64 (setOf B I.pn c)) ∧ w = w' := by
  have HC := Lib.hid (bits21_ok (fun id => B.g.tellB I.pn c (id : Int)) c w h fun id hid => h.gicR fun K' hg => hg.pending c (id : Int))
  clear h
  go_enter Try.func48, Try.ntmps48
  go_wp2_with fail
  refine HC.out.mono ?_
  rintro e w4 ⟨rfl, rfl⟩
  go_wp2_with fail
  go_ret
  exact ⟨rfl, rfl⟩
theorem rd50_ok (c k : Int) (w : World) (h : Bk K w bb gb tb B) : Calls Try.prog 50 #[.pointer (some ⟨bb, 0, none⟩), .int .i64 c, .int .i64 k] w fun e w' => e = .returned (.int .u64 (setOf B (·.ac) c)) ∧ w = w' := by
  have HC := Lib.hid (bits69_ok (fun id => B.g.tellB (·.ac) c (id : Int)) c w h fun id hid => h.gicR fun K' hg => hg.active c (id : Int))
  clear h
  go_enter Try.func50, Try.ntmps50
  go_wp2_with fail
  refine HC.out.mono ?_
  rintro e w4 ⟨rfl, rfl⟩
  go_wp2_with fail
  go_ret
  exact ⟨rfl, rfl⟩
theorem rd52_ok (c k : Int) (w : World) (h : Bk K w bb gb tb B) : Calls Try.prog 52 #[.pointer (some ⟨bb, 0, none⟩), .int .i64 c, .int .i64 k] w fun e w' => e = .returned (.int .u64 (IntKind.u64.wrap (B.g.rate c k))) ∧ w = w' := by
  obtain ⟨c0, c1, c2⟩ := h.cells
  have HC := Lib.hid (h.gicR fun K' hg => hg.rate c k)
  clear h
  go_enter Try.func52, Try.ntmps52
  go_wp2_with fail
  refine HC.out.mono ?_
  rintro e w4 ⟨rfl, rfl⟩
  go_wp2_with fail
  go_ret
  exact ⟨rfl, rfl⟩
theorem rd54_ok (c k : Int) (w : World) (h : Bk K w bb gb tb B) (k0 : 0 ≤ k) (k1 : k ≤ 1000) : Calls Try.prog 54 #[.pointer (some ⟨bb, 0, none⟩), .int .i64 c, .int .i64 k] w fun e w' => e = .returned (.int .u64 (IntKind.u64.wrap (B.g.goes (k + 32)))) ∧ w = w' := by
  obtain ⟨c0, c1, c2⟩ := h.cells
  have HC := Lib.hid (h.gicR fun K' hg => hg.goes (k + 32))
  clear h
  go_enter Try.func54, Try.ntmps54
  go_wp2_with fail
  refine HC.out.mono ?_
  rintro e w4 ⟨rfl, rfl⟩
  go_wp2_with fail
  go_ret
  exact ⟨rfl, rfl⟩
theorem Bk.outc (h : Bk K w bb gb tb B) : ∃ ao cap, w.cell? ⟨bb, 3, none⟩ = some (.slice ao B.o.length cap) := by
  obtain ⟨tr, ov, h1, h2, h3⟩ := h.mem
  obtain ⟨ao, cap, e, _⟩ := h1.out.shape
  exact ⟨ao, cap, by rw [← e]; exact h1.top.cellv rfl⟩
theorem Bk.olen (h : Bk K w bb gb tb B) : B.o.length ≤ 10000 := by
  obtain ⟨tr, ov, h1, h2, h3⟩ := h.mem
  exact h1.len
theorem rd56_ok (c k : Int) (w : World) (h : Bk K w bb gb tb B) : Calls Try.prog 56 #[.pointer (some ⟨bb, 0, none⟩), .int .i64 c, .int .i64 k] w fun e w' => e = .returned (.int .u64 (B.o.length : Int)) ∧ w = w' := by
  obtain ⟨ao, cap, c3⟩ := h.outc
  have hl : (B.o.length : Int) ≤ 10000 := by have := h.olen; omega
  clear h
  generalize B.o.length = n at *
  go_enter Try.func56, Try.ntmps56
  go_wp2_with fail
  go_ret
  exact ⟨rfl, rfl⟩
theorem wr47_ok (c v : Int) (k : Int) (b : Bool) (w : World) (h : Bk K w bb gb tb B) (v0 : 0 ≤ v) (v1 : v ≤ 18446744073709551615) (hk : (k == 0) = b) : Calls Try.prog 47 #[.pointer (some ⟨bb, 0, none⟩), .int .i64 c, .int .i64 k, .int .u64 v] w (Bn K bb gb tb w { B with g := allG (fun g i => g.enable c (i : Int) b) v 64 B.g } (.tuple #[])) := by
  have HC := Lib.hid (all67_ok c v b w h v0 v1)
  clear h v0 v1
  go_enter Try.func47, Try.ntmps47
  go_wp2_with fail
  refine HC.out.mono ?_
  rintro e w4 ⟨rfl, h4, f4⟩
  have H4 := Lib.hid (And.intro h4 f4)
  clear h4 f4
  go_wp2_with fail
  go_end0
  exact ⟨rfl, H4.out.1, H4.out.2⟩
theorem wr49_ok (c v : Int) (k : Int) (b : Bool) (w : World) (h : Bk K w bb gb tb B) (v0 : 0 ≤ v) (v1 : v ≤ 18446744073709551615) (hk : (k == 0) = b) : Calls Try.prog 49 #[.pointer (some ⟨bb, 0, none⟩), .int .i64 c, .int .i64 k, .int .u64 v] w (Bn K bb gb tb w { B with g := allG (fun g i => g.pend c (i : Int) b) v 64 B.g } (.tuple #[])) := by
  have HC := Lib.hid (all68_ok c v b w h v0 v1)
  clear h v0 v1
  go_enter Try.func49, Try.ntmps49
  go_wp2_with fail
  refine HC.out.mono ?_
  rintro e w4 ⟨rfl, h4, f4⟩
  have H4 := Lib.hid (And.intro h4 f4)
  clear h4 f4
  go_wp2_with fail
  go_end0
  exact ⟨rfl, H4.out.1, H4.out.2⟩
theorem wr51_ok (c v k : Int) (w : World) (h : Bk K w bb gb tb B) : Calls Try.prog 51 #[.pointer (some ⟨bb, 0, none⟩), .int .i64 c, .int .i64 k, .int .u64 v] w (Bn K bb gb tb w B (.tuple #[])) := by
  have H := Lib.hid h
  clear h
  go_enter Try.func51, Try.ntmps51
  go_wp2_with fail
  go_end0
  exact Bn.refl H.out (Fr.refl _ _) _
theorem rank_c (s : GS) (c id v : Int) : (s.rank c id v).c = s.c := by
  unfold GS.rank
  split
  · exact setF_c _ _ _ _
  · rfl
theorem route_c (s : GS) (id v : Int) : (s.route id v).c = s.c := by
  unfold GS.route
  split
  · exact setF_c _ _ _ _
  · rfl
theorem and255 (v : Int) (v0 : 0 ≤ v) (v1 : v ≤ 18446744073709551615) : bits .and .u64 v 255 = v % 256 := and_low v 8 (by omega) v0 v1
theorem wr53_ok (c v k : Int) (w : World) (h : Bk K w bb gb tb B) (v0 : 0 ≤ v) (v1 : v ≤ 18446744073709551615) : Calls Try.prog 53 #[.pointer (some ⟨bb, 0, none⟩), .int .i64 c, .int .i64 k, .int .u64 v] w (Bn K bb gb tb w { B with g := B.g.rank c k (v % 256) } (.tuple #[])) := by
  obtain ⟨c0, c1, c2⟩ := h.cells
  have e := and255 v v0 v1
  have m0 : 0 ≤ v % 256 := by omega
  have m1 : v % 256 ≤ 255 := by omega
  have HC := Lib.hid (h.gic (fun K' hg => rank_ok K' gb B.g c k (v % 256) w hg) (rank_c _ _ _ _))
  clear h v0 v1
  generalize v % 256 = z at *
  go_enter Try.func53, Try.ntmps53
  go_wp2_with fail
  refine HC.out.mono ?_
  rintro e w4 ⟨rfl, h4, f4⟩
  have H4 := Lib.hid (And.intro h4 f4)
  clear h4 f4
  go_wp2_with fail
  go_end0
  exact ⟨rfl, H4.out.1, H4.out.2⟩
theorem wr55_ok (c v k : Int) (w : World) (h : Bk K w bb gb tb B) (v0 : 0 ≤ v) (v1 : v ≤ 18446744073709551615) (k0 : 0 ≤ k) (k1 : k ≤ 1000) : Calls Try.prog 55 #[.pointer (some ⟨bb, 0, none⟩), .int .i64 c, .int .i64 k, .int .u64 v] w (Bn K bb gb tb w { B with g := if decide (v < (B.t.n : Int)) = true then B.g.route (k + 32) v else B.g } (.tuple #[])) := by
  obtain ⟨c0, c1, c2⟩ := h.cells
  have n8 : (B.t.n : Int) ≤ 8 := by have := h.n8; omega
  have H := Lib.hid h
  have HC := Lib.hid (h.gic (fun K' hg => route_ok K' gb B.g (k + 32) v w hg) (route_c _ _ _))
  clear h
  obtain ⟨n, hn⟩ : ∃ n, B.t.n = n := ⟨_, rfl⟩
  rw [hn] at c0 n8 ⊢
  clear hn
  cases e1 : decide (v < (n : Int))
  · rw [if_neg (by simp)]
    go_enter Try.func55, Try.ntmps55
    go_wp2_with fail
    go_end0
    exact Bn.refl H.out (Fr.refl _ _) _
  · rw [if_pos rfl]
    have v8 : v < 8 := by have := of_decide_eq_true e1; omega
    go_enter Try.func55, Try.ntmps55
    go_wp2_with fail
    refine HC.out.mono ?_
    rintro e w4 ⟨rfl, h4, f4⟩
    have H4 := Lib.hid (And.intro h4 f4)
    clear h4 f4
    go_wp2_with fail
    go_end0
    exact ⟨rfl, H4.out.1, H4.out.2⟩
end
end Go.Proofs.Ytnmakbippgnekaa
