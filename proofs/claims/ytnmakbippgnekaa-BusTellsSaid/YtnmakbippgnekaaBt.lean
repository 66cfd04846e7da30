/- The console. -/
import Derived.Test.YtnmakbippgnekaaBr
set_option linter.unusedSimpArgs false
set_option linter.unusedVariables false
set_option linter.unusedSectionVars false
namespace Go.Proofs.Ytnmakbippgnekaa
open Go.RowKit
set_option maxRecDepth 100000

section
variable {K : Nat → Prop} {w w' : World} {bb gb tb : Nat} {B : BS}
theorem Try.info5b : (Try.prog.info? 5).map (fun i => (i.zero, i.size, i.bytes)) = some (some (.int .u8 0), 1, 1) := by kernel_rfl
def by8 (v : Int) : UInt8 := UInt8.ofNat (v % 256).toNat
theorem by8_wrap (v : Int) : ((by8 v).toNat : Int) = IntKind.u8.wrap v := by
  unfold by8
  rw [UInt8.toNat_ofNat']
  have : IntKind.u8.wrap v = v % 256 := by rfl
  rw [this]
  omega
def tellO (l : List UInt8) (v : Int) : List UInt8 := if l.length < 10000 then l ++ [by8 v] else l
/-- Something was written into a list that grew. -/
theorem Bk.grow {tr : Nat} {ov : Value} (h1 : BAt w bb gb tb tr ov B) (h2 : Gk (BK K bb tb tr ov) w gb B.g) (h3 : ∀ k, K k → k ≠ bb ∧ k ≠ tb ∧ k ≠ tr ∧ ov.ownBlock ≠ some k)
    (w1 : World) (g off cap : Nat) (x : UInt8) (hf : Fr (fun k => ov.ownBlock = some k) w w1) (hw : Win w1 5 1 (.slice (some ⟨g, off, none⟩) (B.o.length + 1) cap) (B.o.length + 1) (bys B.o ++ [.int .u8 (x.toNat : Int)])) (hat : ov.ownBlock = some g ∨ w.heap.size ≤ g) (hl : B.o.length < 10000) :
    Bk K (w1.setCell ⟨bb, 3, none⟩ (.slice (some ⟨g, off, none⟩) (B.o.length + 1) cap)) bb gb tb { B with o := B.o ++ [x] } := by
  have n1 : ov.ownBlock ≠ some bb := h1.out.ne h1.top (by decide)
  have n2 : ov.ownBlock ≠ some tb := h1.out.ne h1.tim.top (by decide)
  have n3 : ov.ownBlock ≠ some tr := h1.out.ne h1.tim.regs (by decide)
  have t1 := h1.top.fr hf n1
  have t2 : Tim.TmAt w1 tb tr B.t := h1.tim.fr hf n2 n3
  have nb : bb ≠ tb := t1.ne_ t2.top (by decide)
  have nr : bb ≠ tr := t1.ne_ t2.regs (by decide)
  have ng : g ≠ bb := fun e => hw.ne t1 (by decide) (by rw [← e]; rfl)
  have f3 : Fr (One bb) w1 (w1.setCell ⟨bb, 3, none⟩ (.slice (some ⟨g, off, none⟩) (B.o.length + 1) cap)) := (Fr.refl _ w1).set1 _
  obtain ⟨cb, av, a0, a2⟩ := h2.mem
  have a1 := (a0.fr hf fun k hk hS => a2 k hk (.inr (.inr (.inr (.inr hS))))).fr f3 fun k hk hS => a2 k hk (.inr (.inl hS))
  refine ⟨tr, .slice (some ⟨g, off, none⟩) (B.o.length + 1) cap, ⟨?_, t2.fr f3 (fun e => nb e.symm) (fun e => nr e.symm), h1.right, ?_, h1.nc, ?_⟩, ⟨⟨cb, av, a1, fun k hk hK => ?_⟩, fun k hk => ?_, h2.c8, h2.c1⟩, fun k hk => ⟨(h3 k hk).1, (h3 k hk).2.1, (h3 k hk).2.2.1, fun e => ?_⟩⟩
  · have := t1.set_ 3 (.slice (some ⟨g, off, none⟩) (B.o.length + 1) cap)
    simpa using this
  · have h := hw.fr f3 fun k hk e => by
      have e1 : g = k := by have h0 : some g = some k := hk; exact Option.some.inj h0
      have e2 : k = bb := e
      exact ng (e1.trans e2)
    have e1 : (B.o ++ [x]).length = B.o.length + 1 := by simp
    show Win _ 5 1 _ (B.o ++ [x]).length (bys (B.o ++ [x]))
    rw [e1]
    simpa [bys] using h
  · show (B.o ++ [x]).length ≤ 10000
    simp
    omega
  · rcases hK with e | e | e | e | e
    · exact a2 k hk (.inl e)
    · exact a2 k hk (.inr (.inl e))
    · exact a2 k hk (.inr (.inr (.inl e)))
    · exact a2 k hk (.inr (.inr (.inr (.inl e))))
    · have eg : g = k := by have h0 : some g = some k := e; exact Option.some.inj h0
      rcases hat with h | h
      · exact a2 k hk (.inr (.inr (.inr (.inr (by rw [← eg]; exact h)))))
      · have := a0.lt hk
        omega
  · rcases hk with e | e | e | e | e
    · exact Nat.lt_of_lt_of_le (h2.lt k (.inl e)) (Nat.le_trans hf.size f3.size)
    · exact Nat.lt_of_lt_of_le (h2.lt k (.inr (.inl e))) (Nat.le_trans hf.size f3.size)
    · exact Nat.lt_of_lt_of_le (h2.lt k (.inr (.inr (.inl e)))) (Nat.le_trans hf.size f3.size)
    · exact Nat.lt_of_lt_of_le (h2.lt k (.inr (.inr (.inr (.inl e))))) (Nat.le_trans hf.size f3.size)
    · exact Nat.lt_of_lt_of_le (hw.lt e) f3.size
  · have eg : g = k := by have h0 : some g = some k := e; exact Option.some.inj h0
    rcases hat with h | h
    · exact (h3 k hk).2.2.2 (by rw [← eg]; exact h)
    · have := h2.lt k (.inl hk)
      omega
set_option maxHeartbeats 1000000 in
theorem tell_ok (c v k : Int) (w : World) (h : Bk K w bb gb tb B) (v0 : 0 ≤ v) (v1 : v ≤ 18446744073709551615) : Calls Try.prog 57 #[.pointer (some ⟨bb, 0, none⟩), .int .i64 c, .int .i64 k, .int .u64 v] w (Bn K bb gb tb w { B with o := tellO B.o v } (.tuple #[])) := by
  obtain ⟨i5, hi, hz0, hz1, hz2⟩ := info_parts Try.info5b
  have H := Lib.hid h
  obtain ⟨tr, ov, h1, h2, h3⟩ := h.mem
  obtain ⟨ao, cap0, ev, hle, hmx, -⟩ := h1.out.shape
  have HW := Lib.hid h1.out
  have HT := Lib.hid h1.top
  have HN := Lib.hid (show ov.ownBlock ≠ some bb from h1.out.ne h1.top (by decide))
  have G := Lib.hid (Bk.grow h1 h2 h3)
  have H3 := Lib.hid h3
  have c3 : w.cell? ⟨bb, 3, none⟩ = some ov := h1.top.cellv rfl
  have hl := h1.len
  unfold tellO
  clear h h1 h2 h3 v0 v1
  subst ev
  have HL := Lib.hid hl
  clear hle hmx
  by_cases hlt : B.o.length < 10000
  · rw [if_pos hlt]
    have e1 : decide (B.o.length < 10000) = true := by simpa using hlt
    have e2 : (B.o.length : Int) < 10000 := by omega
    have HLT := Lib.hid hlt
    clear hlt hl
    go_enter Try.func57, Try.ntmps57
    go_upto_region 1 with fail
    go_wp2_with (at_builtin; refine wpList_append_win _ rfl (.tmp 18) (.tmp 21) 33 rfl 5 i5 (.int .u8 0) 1 1 Try.underlying33 hi hz0 hz1 hz2 rfl (by decide) _ _ _ rfl (HW.out.alloc _) ⟨w.heap.size, 0, none⟩ 1 1 [.int .u8 (IntKind.u8.wrap v)] rfl rfl (cell_one_new _ _ _) (by simp [Value.oneCell']) (by omega) (by have := HLT.out; simp only [maxLen]; omega) (by have := HLT.out; omega) _ rfl ?_; intro g off cap' w1 hw1 hgr hat; have hgr' := (World.grownBy_alloc w _ _).trans hgr; have hc1 := (HT.out.grown hgr' (Ne.symm HN.out)).cellv (i := 3) rfl; have hf1 := (HT.out.grown hgr' (Ne.symm HN.out)).frozen 3)
    go_end0
    have hF : Fr (fun k => (Value.slice ao B.o.length cap0).ownBlock = some k) w w1 := (Fr.refl _ w).grown hgr' fun k hk => .inl hk
    have hg : (Value.slice ao B.o.length cap0).ownBlock = some g ∨ w.heap.size ≤ g := by
      rcases hat with h | h
      · exact .inl h
      · exact .inr (by rw [h]; simp)
    refine ⟨rfl, G.out _ _ _ _ (by8 v) hF (by rw [by8_wrap]; exact hw1) hg HLT.out, ?_⟩
    refine (hF.mono fun k hk hS hK => (H3.out k hK).2.2.2 hS).step ((Fr.refl (One bb) w1).set1 _) fun i _ hi => .inl fun hK => (H3.out i hK).1 hi
  · rw [if_neg hlt]
    have e1 : decide (B.o.length < 10000) = false := by simpa using hlt
    go_enter Try.func57, Try.ntmps57
    go_wp2_with fail
    go_end0
    exact Bn.refl H.out (Fr.refl _ _) _
end
end Go.Proofs.Ytnmakbippgnekaa
