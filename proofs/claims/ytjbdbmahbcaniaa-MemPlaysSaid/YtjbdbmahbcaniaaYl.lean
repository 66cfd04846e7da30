/- What a store was told is the document's: late. -/
import Derived.Test.YtjbdbmahbcaniaaYp
set_option linter.unusedSimpArgs false
set_option linter.unusedVariables false
set_option linter.unusedSectionVars false
namespace Go.Proofs.Ytjbdbmahbcaniaa
open Go.RowKit
set_option maxRecDepth 100000

set_option maxHeartbeats 1000000 in
theorem rlate_ok (wb mb rb : Nat) (fv av : Value) (n c d : Nat) (F : Nat → Int) (al : List A) (sp : Nat) (u : Nat) (w : World) (h : RAt w rb fv av n c d F al sp) (hb : Blk w wb 66 #[.pointer (some ⟨mb, 0, none⟩), .pointer (some ⟨rb, 0, none⟩)]) (hu : u < al.length) (hl : al.length ≤ 1000) {x : A} (hx : al.getD u a0 = x) :
    Calls Try.prog 45 #[.pointer (some ⟨wb, 0, none⟩), .agg #[.int .u64 (8 * (x.k : Int)), .int .u64 x.v, .int .i64 ((u : Int) + 1)], .int .i64 ((u : Int) + 1)] w fun e w' => e = .returned (.bool true) ∧ Fr Nil w w' := by
  have HR := Lib.hid h
  have HU := Lib.hid hu
  have HX := Lib.hid hx
  have HBX := Lib.hid hb
  have un : (u : Int) < (al.length : Int) := by omega
  have u1000 : (u : Int) < 1000 := by omega
  have ll : (al.length : Int) ≤ 1000 := by omega
  clear h hb hu hl hx
  generalize hxa : 8 * (x.k : Int) = xa at *
  have HXA := Lib.hid hxa
  clear hxa
  have XB := Lib.hid (Blk.new w 47 #[.int .u64 xa, .int .u64 x.v, .int .i64 ((u : Int) + 1)])
  have F1 := Lib.hid ((Fr.refl Nil w).alloc (.cells #[.int .u64 xa, .int .u64 x.v, .int .i64 ((u : Int) + 1)] 47))
  go_enter Try.func45, Try.ntmps45
  go_upto_region 1 with fail
  have R1 := Lib.hid (HR.out.fr0 F1.out)
  have B1 := Lib.hid (HBX.out.fr0 F1.out)
  generalize (w.alloc (.cells #[.int .u64 xa, .int .u64 x.v, .int .i64 ((u : Int) + 1)] 47)) = w1 at *
  generalize w.heap.size = xb at *
  have b1 := B1.out.cellv (i := 1) rfl
  have a3 := R1.out.a_c
  obtain ⟨g, off, cap, ev, d0, d1, d2, d3, -⟩ := R1.out.cells HU.out
  rw [HX.out] at d0 d1 d2 d3
  rw [HXA.out] at d1
  rw [ev] at a3
  generalize (x.i : Int) = xi at *
  generalize (x.sp : Int) = xs at *
  generalize hxv : x.v = xv at *
  have e1 : (u : Int) + 1 - 1 = (u : Int) := by omega
  have hwr : IntKind.i64.wrap (u : Int) = (u : Int) := by rw [IntKind.wrap_i64]; omega
  have YB := Lib.hid (Blk.new w1 106 #[.int .i64 xi, .int .u64 xa, .int .u64 xv, .int .i64 xs])
  have F2 := Lib.hid (F1.out.alloc (.cells #[.int .i64 xi, .int .u64 xa, .int .u64 xv, .int .i64 xs] 106))
  have XB2 := Lib.hid (XB.out.alloc (.cells #[.int .i64 xi, .int .u64 xa, .int .u64 xv, .int .i64 xs] 106))
  go_upto_region 2 with fail
  generalize (w1.alloc (.cells #[.int .i64 xi, .int .u64 xa, .int .u64 xv, .int .i64 xs] 106)) = w2 at *
  clear d0 d1 d2 d3 a3 b1
  have x0 := XB2.out.cellv (i := 0) rfl
  have x1 := XB2.out.cellv (i := 1) rfl
  have x2 := XB2.out.cellv (i := 2) rfl
  have y1 := YB.out.cellv (i := 1) rfl
  have y2 := YB.out.cellv (i := 2) rfl
  go_wp2_with fail
  go_ret
  exact ⟨rfl, F2.out⟩
/-- What was told of stores is the document's of their tickets. -/
def Told (al : List A) (Ls : List L) : Prop := ∀ (j : Nat) (x : L), Ls[j]? = some x → 1 ≤ x.t ∧ x.t ≤ al.length ∧ x.a = 8 * ((al.getD (x.t - 1) a0).k : Int) ∧ x.v = (al.getD (x.t - 1) a0).v
theorem Win.frozenAt {w : World} {e size n off cap g : Nat} {xs : List Value} (h : Win w e size (.slice (some ⟨g, off, none⟩) n cap) n xs) (j : Nat) : w.frozen? ⟨g, j, none⟩ = false := by
  rcases h.2 with ⟨h0, _⟩ | ⟨g', off', cap', cs, hv, hb, h1, h2, h3, h4⟩
  · cases h0
  · cases hv
    exact hb.frozen j
def OwnB (v : Value) (k : Nat) : Prop := v.ownBlock = some k
set_option maxHeartbeats 2000000 in
theorem rlates_ok (wb mb rb : Nat) (fv av lv tv : Value) (n c d : Nat) (F : Nat → Int) (al : List A) (sp : Nat) (Ls : List L) (w : World) (h : RAt w rb fv av n c d F al sp) (hb : Blk w wb 66 #[.pointer (some ⟨mb, 0, none⟩), .pointer (some ⟨rb, 0, none⟩)]) (hl : al.length ≤ 1000)
    (h1 : Win w 47 3 lv Ls.length (lcs Ls)) (h2 : Win w 3 1 tv Ls.length (its (Ls.map (·.t)))) (ht : Told al Ls) (hm : Ls.length ≤ 1000) :
    Calls Try.prog 47 #[.pointer (some ⟨wb, 0, none⟩), lv, tv] w fun e w' => e = .returned (.bool true) ∧ Fr (OwnB lv) w w' := by
  have HR := Lib.hid h
  have HBX := Lib.hid hb
  have HL := Lib.hid hl
  have HT := Lib.hid ht
  have H1 := Lib.hid h1
  have H2 := Lib.hid h2
  have HM := Lib.hid hm
  have mm : (Ls.length : Int) ≤ 1000 := by omega
  obtain ⟨a1, c1, e1, -, -, -⟩ := h1.shape
  obtain ⟨a2, c2, e2, -, -, -⟩ := h2.shape
  subst e1
  subst e2
  have ne : ((Ls.length : Int) != (Ls.length : Int)) = false := by simp
  clear h hb hl h1 h2 ht hm
  generalize hml : Ls.length = m at *
  have HML := Lib.hid hml
  clear hml
  go_enter Try.func47, Try.ntmps47
  go_wp2_with fail
  go_loopw [7] (fun iv wr => ∃ (j : Nat) (xs : List Value), j ≤ m ∧ iv = .int .i64 (j : Int) ∧ Win wr 47 3 (.slice a1 m c1) m xs ∧ (∀ o, j * 3 ≤ o → xs[o]? = (lcs Ls)[o]?) ∧ Win wr 3 1 (.slice a2 m c2) m (its (Ls.map (·.t))) ∧ RAt wr rb fv av n c d F al sp ∧ Blk wr wb 66 #[.pointer (some ⟨mb, 0, none⟩), .pointer (some ⟨rb, 0, none⟩)] ∧ Fr (OwnB (.slice a1 m c1)) w wr) (fun iv _ => m - (intOf iv).toNat)
  case atStart => exact ⟨0, _, Nat.zero_le _, rfl, H1.out, fun o _ => rfl, H2.out, HR.out, HBX.out, Fr.refl _ _⟩
  case round =>
    clear HR HBX H1 H2
    obtain ⟨j, xs, hj, rfl, hw1, hxs, hw2, hr, hbx, hf⟩ := hrel
    by_cases hlt : j < m
    · have HJ := Lib.hid hlt
      have jn : (j : Int) < (m : Int) := by omega
      have j1000 : (j : Int) < 1000 := by omega
      obtain ⟨x, hx⟩ : ∃ x, Ls[j]? = some x := ⟨_, List.getElem?_eq_getElem (by rw [HML.out]; exact hlt)⟩
      obtain ⟨t1, t2, t3, t4⟩ := HT.out j x hx
      obtain ⟨u, hu⟩ : ∃ u, x.t = u + 1 := ⟨x.t - 1, by omega⟩
      obtain ⟨g, off, cap, ev, -, -, -, hc, hz⟩ := hw1.form (by omega)
      cases ev
      obtain ⟨g2, off2, cap2, ev, -, -, -, hc2, -⟩ := hw2.form (by omega)
      cases ev
      rw [hu, Nat.add_sub_cancel] at t3 t4
      have d0 := hc (j * 3 + 0) (.int .u64 x.a) ((hxs _ (by omega)).trans ((lcs_get hx (by omega)).trans rfl))
      have d1 := hc (j * 3 + 1) (.int .u64 x.v) ((hxs _ (by omega)).trans ((lcs_get hx (by omega)).trans rfl))
      have d2 := hc (j * 3 + 2) (.int .i64 (x.t : Int)) ((hxs _ (by omega)).trans ((lcs_get hx (by omega)).trans rfl))
      have q0 := hc2 j (.int .i64 (x.t : Int)) (its_get (by rw [List.getElem?_map, hx]; rfl))
      rw [← Nat.add_assoc] at d0 d1 d2
      rw [Nat.add_zero] at d0
      have ut : (x.t : Int) = (u : Int) + 1 := by omega
      rw [ut] at d2 q0
      rw [t3] at d0
      rw [t4] at d1
      have LT := Lib.hid (fun W (hW : Fr Nil wr W) => rlate_ok wb mb rb fv av n c d F al sp u W (hr.fr0 hW) (hbx.fr0 hW) (by omega) HL.out (x := al.getD u a0) rfl)
      have W1 := Lib.hid hw1
      have W2 := Lib.hid hw2
      have R := Lib.hid hr
      have BX := Lib.hid hbx
      have HF := Lib.hid hf
      have HXS := Lib.hid hxs
      have z0 := hz (off + j * 3)
      have z1 := hz (off + j * 3 + 1)
      have z2 := hz (off + j * 3 + 2)
      generalize 8 * ((al.getD u a0).k : Int) = xa at *
      generalize (al.getD u a0).v = xv at *
      clear hj hlt hw1 hw2 hr hbx hf hxs hx t1 t2 t3 t4 hu hc hz hc2 ut
      go_upto_region 6 with fail
      have d0' : wr.drew.cell? _ = _ := d0
      have d1' : wr.drew.cell? _ = _ := d1
      have d2' : wr.drew.cell? _ = _ := d2
      have q0' : wr.drew.cell? _ = _ := q0
      go_still_tail 9, (by kernel_rfl)
      change wpList _ _ _ _ _ wr.drew
      have L2 := Lib.hid (LT.out wr.drew (Fr.refl Nil wr).drew)
      go_upto_region 9 with (go_at_call 45; refine L2.out.mono ?_; rintro e w5 ⟨rfl, f5⟩; have F5 := ((Fr.refl Nil wr).drew).trans f5)
      have W5 := W1.out.fr F5 fun _ _ => id
      have V5 := W2.out.fr F5 fun _ _ => id
      have R5 := R.out.fr0 F5
      have B5 := BX.out.fr0 F5
      have HF5 := HF.out.trans F5.nil
      have own : OwnB (.slice (some ⟨g, off, none⟩) m c1) g := rfl
      have F6 : Fr (OwnB (.slice (some ⟨g, off, none⟩) m c1)) w5 (((w5.setCell ⟨g, off + j * 3, none⟩ (.int .u64 0)).setCell ⟨g, off + j * 3 + 1, none⟩ (.int .u64 0)).setCell ⟨g, off + j * 3 + 2, none⟩ (.int .i64 (-1))) :=
        (((Fr.refl _ w5).setCell (p := ⟨g, off + j * 3, none⟩) (.inl own) _).setCell (p := ⟨g, off + j * 3 + 1, none⟩) (.inl own) _).setCell (p := ⟨g, off + j * 3 + 2, none⟩) (.inl own) _
      have W6 := ((W5.set_ (j * 3) (.int .u64 0)).set_ (j * 3 + 1) (.int .u64 0)).set_ (j * 3 + 2) (.int .i64 (-1))
      rw [← Nat.add_assoc, ← Nat.add_assoc] at W6
      have nr : ∀ k, RFt rb fv av k → ¬ OwnB (.slice (some ⟨g, off, none⟩) m c1) k := fun k hk ho => by
        rcases hk with rfl | h1 | h1
        · exact W5.ne R5.top (by decide) ho
        · exact W5.ne2 R5.fst (by decide) ho h1
        · exact W5.ne2 R5.all (by decide) ho h1
      have R6 := Lib.hid (R5.fr F6 nr)
      have B6 := Lib.hid (B5.fr F6 fun ho => W5.ne B5 (by decide) ho)
      have V6 := Lib.hid (V5.fr F6 fun k hk ho => W5.ne2 V5 (by decide) ho hk)
      have H6 := Lib.hid (HF5.trans F6)
      have HW6 := Lib.hid W6
      have c0 := (W5.cellAt ((HXS.out (j * 3 + 0) (by omega)).trans ((lcs_get (x := Ls[j]'(by rw [HML.out]; exact HJ.out)) (List.getElem?_eq_getElem _) (by omega)).trans rfl)))
      have c1' := (W5.cellAt ((HXS.out (j * 3 + 1) (by omega)).trans ((lcs_get (x := Ls[j]'(by rw [HML.out]; exact HJ.out)) (List.getElem?_eq_getElem _) (by omega)).trans rfl)))
      have c2' := (W5.cellAt ((HXS.out (j * 3 + 2) (by omega)).trans ((lcs_get (x := Ls[j]'(by rw [HML.out]; exact HJ.out)) (List.getElem?_eq_getElem _) (by omega)).trans rfl)))
      rw [← Nat.add_assoc] at c0 c1' c2'
      rw [Nat.add_zero] at c0
      have y0 := W5.frozenAt (off + j * 3)
      have y1 := W5.frozenAt (off + j * 3 + 1)
      have y2 := W5.frozenAt (off + j * 3 + 2)
      clear W5 V5 R5 B5 HF5 own F6 W6 nr F5 f5 W1 W2 R BX HF d0 d1 d2 q0 d0' d1' d2' q0' z0 z1 z2
      go_upto_region 5 with fail
      clear c0 c1' c2' y0 y1 y2
      generalize (((w5.setCell ⟨g, off + j * 3, none⟩ (.int .u64 0)).setCell ⟨g, off + j * 3 + 1, none⟩ (.int .u64 0)).setCell ⟨g, off + j * 3 + 2, none⟩ (.int .i64 (-1))) = w8 at *
      go_wp2_with fail
      go_roundw
      case rel => exact ⟨j + 1, _, HJ.out, by go_num, HW6.out, fun o ho => by
        rw [List.getElem?_set_ne (by omega), List.getElem?_set_ne (by omega), List.getElem?_set_ne (by omega)]
        exact HXS.out o (by omega), V6.out, R6.out, B6.out, H6.out⟩
      case measure => have := HJ.out; simp [intOf]; omega
    · obtain rfl : j = m := by omega
      have l1 : decide (j < j) = false := by simp
      have HF := Lib.hid hf
      clear hj hlt hw1 hxs hw2 hr hbx hf
      go_wp2_with fail
      go_ret
      exact ⟨rfl, HF.out⟩
end Go.Proofs.Ytjbdbmahbcaniaa
