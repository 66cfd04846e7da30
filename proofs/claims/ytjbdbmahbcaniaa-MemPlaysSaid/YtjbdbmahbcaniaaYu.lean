/- The document's Store, Drain. -/
import Derived.Test.YtjbdbmahbcaniaaYt
set_option linter.unusedSimpArgs false
set_option linter.unusedVariables false
set_option linter.unusedSectionVars false
namespace Go.Proofs.Ytjbdbmahbcaniaa
open Go.RowKit
set_option maxRecDepth 100000

set_option maxHeartbeats 2000000 in
theorem rstore_ok (rb : Nat) (fv av : Value) (n c d : Nat) (F : Nat → Int) (al : List A) (sp : Nat) (i k : Nat) (core a v : Int) (w : World) (h : RAt w rb fv av n c d F al sp) (hc : core = (i : Int)) (ha : a = 8 * (k : Int)) (hd : d ≤ 32) (hl : al.length ≤ 1000) :
    Calls Try.prog 43 #[.pointer (some ⟨rb, 0, none⟩), .int .i64 core, .int .u64 a, .int .u64 v] w fun e w' =>
      if d ≤ (heldK al i al.length).length then e = .returned (.tuple #[.int .i64 0, .int .i64 30]) ∧ Fr Nil w w' else RTo w rb fv av n c d F (al ++ [⟨i, k, v, 0⟩]) sp (.tuple #[.int .i64 ((al.length : Int) + 1), .int .i64 0]) e w' := by
  have HR := Lib.hid h
  have HL := Lib.hid hl
  have HN := Lib.hid (show encA ⟨i, k, v, 0⟩ = [.int .i64 core, .int .u64 a, .int .u64 v, .int .i64 0] by rw [hc, ha]; rfl)
  have HD := Lib.hid (fun W (hW : Fr Nil w W) => rheld_ok rb fv av n c d F al sp i core W (h.fr0 hW) hc hl)
  have HKK : Hid (∀ W, Fr Nil w W → W.cell? ⟨rb, 2, none⟩ = some (.int .i64 (d : Int)) ∧ Fr Nil w W) := Lib.hid fun W hW => ⟨(h.fr0 hW).d_c, hW⟩
  obtain ⟨i106, hi, p0, p1, p2⟩ := info_parts Try.yinfo106
  have ll : (al.length : Int) ≤ 1000 := by omega
  have d32 : (d : Int) ≤ 32 := by omega
  have hh := heldK_len al i al.length
  have h1000 : ((heldK al i al.length).length : Int) ≤ 1000 := by omega
  generalize hln : (heldK al i al.length).length = ln at *
  have HLN := Lib.hid hln
  clear h hc ha hl hd hln hh
  go_enter Try.func43, Try.ntmps43
  go_upto_region 1 with fail
  go_region_held3 (fun w' => w'.cell? ⟨rb, 2, none⟩ = some (.int .i64 (d : Int)) ∧ Fr Nil w w') (first | exact HKK.out _ (Fr.refl _ _).drew | exact HKK.out _ FB) (first | (go_at_call 51; refine (HD.out _ (Fr.refl Nil _).drew).mono ?_; rintro e wB ⟨aa, cap, rfl, hw, fB, hb⟩; have FB := ((Fr.refl Nil w).drew).trans fB; rw [HLN.out]) | fail)
  have F2 := Lib.hid FB
  have R2 := Lib.hid (HR.out.fr0 FB)
  clear hw fB hb FB HD HKK
  by_cases hf : d ≤ ln
  · have t1 : decide ((ln : Int) ≥ (d : Int)) = true := by simp; omega
    have t2 : decide (d ≤ ln) = true := by simpa using hf
    have HF := Lib.hid hf
    clear hf
    go_wp2_with fail
    go_ret2
    exact ⟨rfl, F2.out⟩
  · have t1 : decide ((ln : Int) ≥ (d : Int)) = false := by simp; omega
    have t2 : decide (d ≤ ln) = false := by simpa using hf
    have HF := Lib.hid hf
    have a3 := R2.out.a_c
    clear hf
    go_upto_region 4 with (at_builtin; refine wpList_append_win _ rfl (.tmp 23) (.tmp 28) 68 rfl 106 i106 _ 4 32 Try.underlying68 hi p0 p1 p2 rfl (by decide) _ _ _ rfl (R2.out.all.alloc _) ⟨wB.heap.size, 0, none⟩ 1 1 [.int .i64 core, .int .u64 a, .int .u64 v, .int .i64 0] rfl rfl (cells_new wB [.int .i64 core, .int .u64 a, .int .u64 v, .int .i64 0] 106) (by simp [Value.oneCell']) (by omega) (by have := HL.out; simp only [maxLen]; omega) (by have := HL.out; omega) (wB.heap.size + 1) (by simp) ?_; intro ga off2 acp3 w9 hw9 hgr hat; have hgr' := (World.grownBy_alloc wB _ _).trans hgr; have T9 := R2.out.top.grown hgr' (fun e => R2.out.all.ne R2.out.top (by decide) e.symm); have c9 := T9.cellv (i := 3) rfl; have z9 := T9.frozen 3)
    rw [← HN.out] at hw9
    have R9 := Lib.hid (R2.out.push hgr' hw9)
    have F9 := Lib.hid (show Fr (RFt rb fv av) w (w9.setCell ⟨rb, 3, none⟩ (.slice (some ⟨ga, off2, none⟩) (al.length + 1) acp3)) from (F2.out.nil.grown hgr' fun b hb => .inl (.inr (.inr hb))).setCell (.inl (.inl rfl)) _)
    have B9 := Lib.hid (show ∀ b, (Value.slice (some ⟨ga, off2, none⟩) (al.length + 1) acp3).ownBlock = some b → av.ownBlock = some b ∨ w.heap.size ≤ b from fun b hb => by
      cases hb
      rcases hat with h | h
      · exact .inl h
      · right
        have := F2.out.size
        show w.heap.size ≤ ga
        omega)
    clear hgr hgr' hat hw9 T9 c9 z9 a3 R2 F2
    generalize (w9.setCell ⟨rb, 3, none⟩ (.slice (some ⟨ga, off2, none⟩) (al.length + 1) acp3)) = w10 at *
    have a3 := R9.out.a_c
    go_wp2_with fail
    go_ret2
    exact ⟨rfl, _, R9.out, F9.out, B9.out⟩
def drA (al : List A) (t sp : Nat) : List A := al.set (t - 1) { al.getD (t - 1) a0 with sp := sp + 1 }
def RDrTo (w : World) (rb : Nat) (fv av : Value) (n c d : Nat) (F : Nat → Int) (al : List A) (sp : Nat) (l : List Nat) (e : Ending) (w' : World) : Prop :=
  match l with
  | [] => e = .returned (.tuple #[.int .i64 0, .int .i64 31]) ∧ Fr Nil w w'
  | t :: _ => e = .returned (.tuple #[.int .i64 (t : Int), .int .i64 0]) ∧ RAt w' rb fv av n c d F (drA al t sp) (sp + 1) ∧ Fr (RFt rb fv av) w w'
set_option maxHeartbeats 2000000 in
theorem rdrain_ok (rb : Nat) (fv av : Value) (n c d : Nat) (F : Nat → Int) (al : List A) (sp : Nat) (i : Nat) (core : Int) (w : World) (h : RAt w rb fv av n c d F al sp) (hc : core = (i : Int)) (hl : al.length ≤ 1000) (hsp : sp ≤ 1000) :
    Calls Try.prog 44 #[.pointer (some ⟨rb, 0, none⟩), .int .i64 core] w (RDrTo w rb fv av n c d F al sp (heldK al i al.length)) := by
  have HR := Lib.hid h
  have HD := Lib.hid (rheld_ok rb fv av n c d F al sp i core w h hc hl)
  have HM := Lib.hid (heldK_mem al i al.length)
  have ll : (al.length : Int) ≤ 1000 := by omega
  have s1000 : (sp : Int) ≤ 1000 := by omega
  clear h hc hl hsp
  generalize heldK al i al.length = l at *
  go_enter Try.func44, Try.ntmps44
  go_wp2_with fail
  refine HD.out.mono ?_
  rintro e w2 ⟨aa, cap, rfl, hw, f2, hb⟩
  have R2 := Lib.hid (HR.out.fr0 f2)
  have F2 := Lib.hid f2
  have HW := Lib.hid hw
  clear hw f2 hb HD
  match l, HM with
  | [], HM =>
    go_wp2_with fail
    go_ret2
    exact ⟨rfl, F2.out⟩
  | t :: l, HM =>
    obtain ⟨t1, t2, -⟩ := (HM.out t).1 List.mem_cons_self
    have HT := Lib.hid (And.intro t1 t2)
    obtain ⟨g, off, cap', ev, -, -, -, hcl, -⟩ := HW.out.form (by simp)
    cases ev
    have s4 := R2.out.s_c
    have z4 := R2.out.top.frozen 4
    have q0 := hcl 0 (.int .i64 (t : Int)) rfl
    have ne : (((t :: l).length : Int) == 0) = false := by simp; omega
    have R3 := Lib.hid (R2.out.setSp (sp + 1))
    have F3 := Lib.hid (show Fr (RFt rb fv av) w (w2.setCell ⟨rb, 4, none⟩ (.int .i64 ((sp + 1 : Nat) : Int))) from F2.out.nil.setCell (.inl (.inl rfl)) _)
    have W3 := Lib.hid (show ∃ xs, Win (w2.setCell ⟨rb, 4, none⟩ (.int .i64 ((sp + 1 : Nat) : Int))) 3 1 (.slice (some ⟨g, off, none⟩) (t :: l).length cap) (t :: l).length xs ∧ xs[0]? = some (.int .i64 (t : Int)) from ⟨_, HW.out.far (HW.out.ne R2.out.top (by decide)) _, rfl⟩)
    have es : ((sp + 1 : Nat) : Int) = (sp : Int) + 1 := by omega
    rw [es] at R3 F3 W3
    obtain ⟨u, hu⟩ : ∃ u, t = u + 1 := ⟨t - 1, by omega⟩
    have HU := Lib.hid (show t - 1 = u ∧ u < al.length by omega)
    have u1000 : (u : Int) < 1000 := by omega
    have un : (u : Int) < (al.length : Int) := by omega
    have tu : (t : Int) - 1 = (u : Int) := by omega
    have hwr : IntKind.i64.wrap (u : Int) = (u : Int) := by rw [IntKind.wrap_i64]; omega
    have EA := Lib.hid (show drA al t sp = al.set u { al.getD u a0 with sp := sp + 1 } by unfold drA; rw [HU.out.1])
    obtain ⟨ln, hln⟩ : ∃ ln, ln = (t :: l).length := ⟨_, rfl⟩
    have l1 : (0 : Int) < (ln : Int) := by rw [hln]; simp
    have l2 : 0 < ln := by rw [hln]; simp
    rw [← hln] at ne W3 ⊢
    clear hcl q0 hln hu t1 t2 HW
    generalize htz : (t : Int) = tz at *
    have HTZ := Lib.hid htz
    clear htz
    go_upto_region 5 with fail
    clear s4 z4 ne
    generalize (w2.setCell ⟨rb, 4, none⟩ (.int .i64 ((sp : Int) + 1))) = w3 at *
    obtain ⟨xs, hx, h0⟩ := W3.out
    have R3d := Lib.hid (R3.out.fr0 (Fr.refl Nil w3).drew)
    have hxd : Win w3.drew 3 1 (.slice (some ⟨g, off, none⟩) ln cap) ln xs := hx
    have q0 := hx.cellAt h0
    rw [Nat.add_zero] at q0
    have q0' : w3.drew.cell? _ = _ := q0
    have a3 := R3.out.a_c
    have a3' : w3.drew.cell? _ = _ := a3
    have s4 := R3.out.s_c
    rw [es] at s4
    have s4' : w3.drew.cell? _ = _ := s4
    obtain ⟨g2, off2, cap3, ev, -, -, -, c3, hz⟩ := R3d.out.cells HU.out.2
    have z3 := hz (off2 + u * 4 + 3)
    have R4 := Lib.hid (R3d.out.setA ev HU.out.2 (j := 3) (u := .int .i64 ((sp + 1 : Nat) : Int)) (y := { al.getD u a0 with sp := sp + 1 }) (by decide) rfl)
    have F4 := Lib.hid (show Fr (RFt rb fv av) w (w3.drew.setCell ⟨g2, off2 + u * 4 + 3, none⟩ (.int .i64 ((sp + 1 : Nat) : Int))) from F3.out.drew.setCell (.inl (.inr (.inr (by rw [ev]; rfl)))) _)
    have W4 := hxd.far (g := g2) (i := off2 + u * 4 + 3) (fun hb => hxd.ne2 R3d.out.all (by decide) hb (by rw [ev]; rfl)) (.int .i64 ((sp + 1 : Nat) : Int))
    have q4 : World.cell? _ ⟨g, off, none⟩ = some (.int .i64 tz) := W4.cellAt h0
    have HAV := Lib.hid ev
    rw [es] at R4 F4 q4
    rw [ev] at a3 a3'
    have HQ4 := Lib.hid q4
    clear hx hxd h0 hz ev W3 W4 q4 R3 F3 es
    refine wp_region_still_tail 14 (by kernel_rfl) (by kernel_rfl) ?_
    simp only [List.take_succ_cons, List.take_zero, List.drop_succ_cons, List.drop_zero]
    iterate 14 still_step
    refine wpStill_nil ?_
    change wpList _ _ _ _ _ w3.drew
    clear q0 q0' a3 a3' s4 s4'
    generalize w3.drew = w5 at *
    go_upto_region 6 with fail
    clear c3 z3
    have q4 := HQ4.out
    generalize (w5.setCell ⟨g2, off2 + u * 4 + 3, none⟩ (.int .i64 ((sp : Int) + 1))) = w6 at *
    go_wp2_with fail
    go_ret2
    refine ⟨by rw [HTZ.out]; rfl, ?_, F4.out⟩
    rw [EA.out]
    exact R4.out
end Go.Proofs.Ytjbdbmahbcaniaa
