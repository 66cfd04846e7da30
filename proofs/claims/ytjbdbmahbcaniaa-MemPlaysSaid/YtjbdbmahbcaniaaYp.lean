/- The document's Put. -/
import Derived.Test.YtjbdbmahbcaniaaYv
set_option linter.unusedSimpArgs false
set_option linter.unusedVariables false
set_option linter.unusedSectionVars false
namespace Go.Proofs.Ytjbdbmahbcaniaa
open Go.RowKit
set_option maxRecDepth 100000

theorem RAt.keep {w w2 : World} {rb : Nat} {fv av : Value} {n c d : Nat} {F : Nat → Int} {al : List A} {sp : Nat} (h : RAt w rb fv av n c d F al sp) {v : Value} {m : Nat} {xs : List Value} (hw : Win w 3 1 v m xs) (hg : w.grownBy w2 av.ownBlock) : Win w2 3 1 v m xs :=
  hw.grown hg (by
    cases hv : v.ownBlock with
    | none => exact .inl rfl
    | some b => exact .inr fun e => hw.ne2 h.all (by decide) hv e.symm)
def RPutTo (w : World) (rb : Nat) (fv av : Value) (n c d : Nat) (F : Nat → Int) (al : List A) (sp : Nat) (t : Int) (l : List Nat) (e : Ending) (w' : World) : Prop :=
  ∃ aa cap av', e = .returned (.tuple #[.int .i64 t, .slice aa l.length cap]) ∧ Win w' 3 1 (.slice aa l.length cap) l.length (its l) ∧ RAt w' rb fv av' n c d F al sp ∧ Fr (RFt rb fv av) w w' ∧
    (∀ b, (Value.slice aa l.length cap).ownBlock = some b → w.heap.size ≤ b) ∧ ∀ b, av'.ownBlock = some b → av.ownBlock = some b ∨ w.heap.size ≤ b
set_option maxHeartbeats 4000000 in
theorem rput_ok (rb : Nat) (fv av : Value) (n c d : Nat) (F : Nat → Int) (al : List A) (sp : Nat) (i k : Nat) (core a v : Int) (w : World) (h : RAt w rb fv av n c d F al sp) (hc : core = (i : Int)) (ha : a = 8 * (k : Int)) (hl : al.length ≤ 500) (hsp : sp ≤ 500) :
    Calls Try.prog 48 #[.pointer (some ⟨rb, 0, none⟩), .int .i64 core, .int .u64 a, .int .u64 v] w
      (RPutTo w rb fv av n c d F (drsA al i sp (heldK al i al.length).length ++ [⟨i, k, v, sp + (heldK al i al.length).length + 1⟩]) (sp + (heldK al i al.length).length + 1) ((al.length : Int) + 1) (heldK al i al.length)) := by
  have HFL := Lib.hid (rflush_ok rb fv av n c d F al sp i core w h hc hl hsp)
  have hh := heldK_len al i al.length
  have HDL := Lib.hid (drsA_len al i sp (heldK al i al.length).length)
  have HL := Lib.hid hl
  have ll : (al.length : Int) ≤ 500 := by omega
  obtain ⟨i106, hi, p0, p1, p2⟩ := info_parts Try.yinfo106
  have HN := Lib.hid (show ∀ m : Nat, encA ⟨i, k, v, m⟩ = [.int .i64 core, .int .u64 a, .int .u64 v, .int .i64 (m : Int)] by intro m; rw [hc, ha]; rfl)
  have s1000 : ((sp + (heldK al i al.length).length : Nat) : Int) ≤ 1000 := by omega
  clear h hc ha hl hsp hh
  generalize hal2 : drsA al i sp (heldK al i al.length).length = al2 at *
  generalize heldK al i al.length = l at *
  generalize sp + l.length = sp2 at *
  have ll2 : (al2.length : Int) ≤ 500 := by have := HDL.out; omega
  clear hal2
  go_enter Try.func48, Try.ntmps48
  go_wp2_with fail
  refine HFL.out.mono ?_
  rintro e w2 ⟨aa, cap, rfl, hw, hr, hf, hb⟩
  have HW := Lib.hid hw
  have R2 := Lib.hid hr
  have F2 := Lib.hid hf
  have HB := Lib.hid hb
  clear hw hr hf hb HFL
  have s4 := R2.out.s_c
  have z4 := R2.out.top.frozen 4
  have es : ((sp2 + 1 : Nat) : Int) = (sp2 : Int) + 1 := by omega
  have R3 := Lib.hid (R2.out.setSp (sp2 + 1))
  have F3 := Lib.hid (show Fr (RFt rb fv av) w (w2.setCell ⟨rb, 4, none⟩ (.int .i64 ((sp2 + 1 : Nat) : Int))) from F2.out.setCell (.inl (.inl rfl)) _)
  have W3 := Lib.hid (HW.out.far (i := 4) (HW.out.ne R2.out.top (by decide)) (.int .i64 ((sp2 + 1 : Nat) : Int)))
  have S3 := Lib.hid (show w.heap.size ≤ w2.heap.size from F2.out.size)
  have Z3 := Lib.hid (show (w2.setCell ⟨rb, 4, none⟩ (.int .i64 ((sp2 + 1 : Nat) : Int))).heap.size = w2.heap.size by simp)
  rw [es] at R3 F3 W3 Z3
  go_upto_region 3 with fail
  clear s4 z4 R2 F2 HW
  generalize (w2.setCell ⟨rb, 4, none⟩ (.int .i64 ((sp2 : Int) + 1))) = w3 at *
  obtain ⟨ao, cap2, ev, -, -, -⟩ := R3.out.all.shape
  have HEV := Lib.hid ev
  subst ev
  have a3 := R3.out.a_c
  have s4 := R3.out.s_c
  rw [es] at s4
  have c3A := (R3.out.top.alloc (.cells #[.int .i64 core, .int .u64 a, .int .u64 v, .int .i64 ((sp2 : Int) + 1)] 106)).cellv (i := 3) rfl
  go_region_law (refine step_append_win _ rfl (.tmp 25) (.tmp 34) 68 rfl 106 i106 _ 4 32 Try.underlying68 hi p0 p1 p2 rfl (by decide) _ _ _ rfl (R3.out.all.drew.alloc _) ⟨w3.heap.size, 0, none⟩ 1 1 [.int .i64 core, .int .u64 a, .int .u64 v, .int .i64 ((sp2 : Int) + 1)] rfl rfl (cells_new w3.drew [.int .i64 core, .int .u64 a, .int .u64 v, .int .i64 ((sp2 : Int) + 1)] 106) (by simp [Value.oneCell']) (by omega) (by simp only [maxLen]; omega) (by omega) (w3.heap.size + 1) (by simp) ?_; intro ga off2 acp3 w9 hw9 hgr hat; have hgr' : w3.grownBy w9 (Value.slice ao al2.length cap2).ownBlock := (let h := (World.grownBy_alloc w3.drew _ _).trans hgr; ⟨h.os, h.tape, h.output, h.size, h.block⟩); have T9 := R3.out.top.grown hgr' (fun e => R3.out.all.ne R3.out.top (by decide) e.symm); have c9 := T9.cellv (i := 3) rfl; have z9 := T9.frozen 3)
  all_goals
    have E1 := HN.out (sp2 + 1)
    rw [es] at E1
    rw [← E1] at hw9
    have R9 := Lib.hid (R3.out.push hgr' hw9)
    have F9 := Lib.hid (show Fr (RFt rb fv (.slice ao al2.length cap2)) w (w9.setCell ⟨rb, 3, none⟩ (.slice (some ⟨ga, off2, none⟩) (al2.length + 1) acp3)) from (F3.out.grown hgr' fun b hb => .inl (.inr (.inr hb))).setCell (.inl (.inl rfl)) _)
    have W9 := Lib.hid ((R3.out.keep W3.out hgr').far (i := 3) ((R3.out.keep W3.out hgr').ne T9 (by decide)) (.slice (some ⟨ga, off2, none⟩) (al2.length + 1) acp3))
    have B9 := Lib.hid (show ∀ b, (Value.slice (some ⟨ga, off2, none⟩) (al2.length + 1) acp3).ownBlock = some b → (Value.slice ao al2.length cap2).ownBlock = some b ∨ w.heap.size ≤ b from fun b hb => by
      cases hb
      rcases hat with h | h
      · exact .inl h
      · right
        have := F3.out.size
        show w.heap.size ≤ ga
        have h2 : ga = w3.heap.size + 1 := h
        omega)
    clear hgr hgr' hat hw9 T9 c9 z9 E1
    generalize (w9.setCell ⟨rb, 3, none⟩ (.slice (some ⟨ga, off2, none⟩) (al2.length + 1) acp3)) = w10 at *
    have a3 := R9.out.a_c
    go_wp2_with fail
    go_ret2
    exact ⟨aa, cap, _, by rw [← HDL.out]; rfl, W9.out, R9.out, F9.out, HB.out, B9.out⟩
end Go.Proofs.Ytjbdbmahbcaniaa
