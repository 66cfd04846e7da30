/- The bus: New; the law's own bus; the examples. -/
import Derived.Test.YtnmakbippgnekaaBx
set_option linter.unusedSimpArgs false
set_option linter.unusedVariables false
set_option linter.unusedSectionVars false
namespace Go.Proofs.Ytnmakbippgnekaa
open Go.RowKit
set_option maxRecDepth 100000

def B0 (n : Nat) : BS := ⟨new n, Tim.T0 n, []⟩
theorem Gk.sub {K K' : Nat → Prop} {w : World} {gb : Nat} {s : GS} (h : Gk K w gb s) (hs : ∀ k, K' k → K k) : Gk K' w gb s := by
  obtain ⟨cb, av, h1, h2⟩ := h.mem
  exact ⟨⟨cb, av, h1, fun k hk hK => h2 k hk (hs k hK)⟩, fun k hk => h.lt k (hs k hk), h.c8, h.c1⟩
theorem Gk.grow {K : Nat → Prop} {w w' : World} {gb : Nat} {s : GS} (h : Gk K w gb s) (f : Fr Nil w w') : Gk (fun k => K k ∨ (w.heap.size ≤ k ∧ k < w'.heap.size)) w' gb s := by
  obtain ⟨cb, av, h1, h2⟩ := h.mem
  refine ⟨⟨cb, av, h1.fr f fun _ _ => id, fun k hk hm => ?_⟩, fun k hk => ?_, h.c8, h.c1⟩
  · rcases hm with e | ⟨e, _⟩
    · exact h2 k hk e
    · have := h1.lt hk
      omega
  · rcases hk with e | e
    · exact Nat.lt_of_lt_of_le (h.lt k e) f.size
    · exact e.2
def BNewTo (K : Nat → Prop) (w : World) (n : Nat) (e : Ending) (w' : World) : Prop := ∃ bb gb tb, e = .returned (.tuple #[.pointer (some ⟨bb, 0, none⟩), .int .i64 0]) ∧ Bk K w' bb gb tb (B0 n) ∧ Fr Nil w w'
theorem bnew_mem {K : Nat → Prop} {w w3 w4 : World} {gb tb tr n : Nat} (hK : ∀ k, K k → k < w.heap.size) (g3 : Gk K w3 gb (new n)) (f3 : Fr Nil w w3) (t4 : Tim.TM w3 tb tr (Tim.T0 n) w4) :
    Bk K (w4.alloc (.cells #[.int .i64 (n : Int), .pointer (some ⟨gb, 0, none⟩), .pointer (some ⟨tb, 0, none⟩), .slice none 0 0] 60)) w4.heap.size gb tb (B0 n) ∧ Fr Nil w (w4.alloc (.cells #[.int .i64 (n : Int), .pointer (some ⟨gb, 0, none⟩), .pointer (some ⟨tb, 0, none⟩), .slice none 0 0] 60)) := by
  have f5 : Fr Nil w4 (w4.alloc (.cells #[.int .i64 (n : Int), .pointer (some ⟨gb, 0, none⟩), .pointer (some ⟨tb, 0, none⟩), .slice none 0 0] 60)) := (Fr.refl Nil w4).alloc _
  have s3 : w4.heap.size < (w4.alloc (.cells #[.int .i64 (n : Int), .pointer (some ⟨gb, 0, none⟩), .pointer (some ⟨tb, 0, none⟩), .slice none 0 0] 60)).heap.size := by simp
  have b5 := Blk.new w4 60 #[.int .i64 (n : Int), .pointer (some ⟨gb, 0, none⟩), .pointer (some ⟨tb, 0, none⟩), .slice none 0 0]
  generalize (w4.alloc (.cells #[.int .i64 (n : Int), .pointer (some ⟨gb, 0, none⟩), .pointer (some ⟨tb, 0, none⟩), .slice none 0 0] 60)) = w5 at *
  have f35 := t4.fr.trans f5
  have s1 := f5.size
  have s2 := t4.fr.size
  have s4 := t4.mem.top.lt
  have s5 := t4.mem.regs.lt
  have s6 := t4.lb
  have s7 := t4.lr
  have s8 := f3.size
  refine ⟨⟨tr, .slice none 0 0, ⟨b5, t4.mem.fr0 f5, t4.right, Win.nil _ _ _, rfl, Nat.zero_le _⟩, (g3.grow f35).sub fun k hk => ?_, fun k hk => ?_⟩, f3.trans f35⟩
  · rcases hk with e | e | e | e | e
    · exact .inl e
    · exact .inr (by rw [e]; exact ⟨s2, s3⟩)
    · exact .inr (by rw [e]; exact ⟨s6, by omega⟩)
    · exact .inr (by rw [e]; exact ⟨s7, by omega⟩)
    · cases e
  · have := hK k hk
    exact ⟨by omega, by omega, by omega, by simp [Value.ownBlock]⟩
theorem bnew_ok (K : Nat → Prop) (n : Nat) {z : Int} (w : World) (hz : z = (n : Int)) (h1 : 1 ≤ n) (h8 : n ≤ 8) (hK : ∀ k, K k → k < w.heap.size) : Calls Try.prog 8 #[.int .i64 z] w (BNewTo K w n) := by
  subst hz
  have GN := Lib.hid (new_ok K n w rfl h1 h8 hK)
  have TN := Lib.hid (fun W => Tim.new_ok n W rfl h1 h8)
  have HK := Lib.hid hK
  clear hK h1 h8
  go_enter Try.func8, Try.ntmps8
  go_wp2_with fail
  refine GN.out.mono ?_
  rintro e w3 ⟨gb, rfl, g3, f3, l3⟩
  have G3 := Lib.hid (And.intro g3 f3)
  clear g3 f3 l3 GN
  go_wp2_with fail
  refine (TN.out w3).mono ?_
  rintro e w4 ⟨tb, tr, rfl, t4⟩
  have T4 := Lib.hid (bnew_mem HK.out G3.out.1 G3.out.2 t4)
  clear t4 TN
  go_wp2_with fail
  go_ret2
  exact ⟨w4.heap.size, gb, tb, rfl, T4.out.1, T4.out.2⟩
theorem bnew_bad (z : Int) (w : World) (h : z < 1 ∨ 8 < z) : Calls Try.prog 8 #[.int .i64 z] w fun e w' => e = .returned (.tuple #[.pointer none, .int .i64 1]) ∧ w = w' := by
  have GN := Lib.hid (new_bad z w h)
  clear h
  go_enter Try.func8, Try.ntmps8
  go_wp2_with fail
  refine GN.out.mono ?_
  rintro e w3 ⟨rfl, rfl⟩
  go_wp2_with fail
  go_ret2
  exact ⟨rfl, rfl⟩
section
variable {K : Nat → Prop} {w w' : World} {bb gb tb : Nat} {B : BS}
theorem gicp_ok (w : World) (h : Bk K w bb gb tb B) : Calls Try.prog 18 #[.pointer (some ⟨bb, 0, none⟩)] w fun e w' => e = .returned (.pointer (some ⟨gb, 0, none⟩)) ∧ w = w' := by
  obtain ⟨c0, c1, c2⟩ := h.cells
  clear h
  go_enter Try.func18, Try.ntmps18
  go_wp2_with fail
  go_ret
  exact ⟨rfl, rfl⟩
theorem timp_ok (w : World) (h : Bk K w bb gb tb B) : Calls Try.prog 20 #[.pointer (some ⟨bb, 0, none⟩)] w fun e w' => e = .returned (.pointer (some ⟨tb, 0, none⟩)) ∧ w = w' := by
  obtain ⟨c0, c1, c2⟩ := h.cells
  clear h
  go_enter Try.func20, Try.ntmps20
  go_wp2_with fail
  go_ret
  exact ⟨rfl, rfl⟩
end
/-! ### The examples -/
def K1 : BS := wrB (B0 2) 1 134217728 1099511627778
def K2 : BS := setS K1 0 1 18013 1099595513856
def K3 : BS := setS K2 1 0 24346 3
def K4 : BS := setS K3 1 0 24345 1
def K5 : BS := K4.lined { K4.t with t := IntKind.u64.wrap (K4.t.t + 3) }
def K6 : BS := sysS K5 1 0 18016
def K7 : BS := wrB K6 0 150994944 321
theorem k1f : wrF (B0 2) 1 134217728 = 0 := by kernel_rfl
theorem k1a : rdB K1 1 134217728 = (1099511627778, 0) := by kernel_rfl
theorem k1b : rdB K1 0 134217728 = (1099511627776, 0) := by kernel_rfl
theorem k1c : rdB K1 0 134219264 = (0, 1) := by kernel_rfl
theorem k2v : setV K1 0 1 18013 = 0 := by kernel_rfl
theorem k3v : setV K2 1 0 24346 = 0 := by kernel_rfl
theorem k4v : setV K3 1 0 24345 = 0 := by kernel_rfl
theorem k6v : sysV K5 1 0 18016 = (0, 2) := by kernel_rfl
theorem k7v : wrF K6 0 150994944 = 0 := by kernel_rfl
theorem k7a : K7.g.tellB I.pn 0 5 = false := by kernel_rfl
theorem k7b : K7.g.tellB I.pn 1 5 = true := by kernel_rfl
theorem k7c : K7.g.tellB I.pn 1 27 = true := by kernel_rfl
theorem k7o : K7.o = [65] := by kernel_rfl
end Go.Proofs.Ytnmakbippgnekaa
