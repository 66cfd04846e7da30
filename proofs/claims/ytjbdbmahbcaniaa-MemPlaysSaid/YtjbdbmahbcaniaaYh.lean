/- The document's Held, Load, Set. -/
import Derived.Test.YtjbdbmahbcaniaaYr
set_option linter.unusedSimpArgs false
set_option linter.unusedVariables false
set_option linter.unusedSectionVars false
namespace Go.Proofs.Ytjbdbmahbcaniaa
open Go.RowKit
set_option maxRecDepth 100000

theorem Try.yinfo3 : (Try.prog.info? 3).map (fun i => (i.zero, i.size, i.bytes)) = some (some (.int .i64 0), 1, 8) := by kernel_rfl
theorem cells_new (w : World) (l : List Value) (t : TypeId) : ∀ (j : Nat) u, l[j]? = some u → (w.alloc (.cells l.toArray t)).cell? ((⟨w.heap.size, 0, none⟩ : Addr).add j) = some u := fun j u hj => by
  rw [Addr.add_lit, Nat.zero_add, (Blk.new w t l.toArray).cell, List.getElem?_toArray]
  exact hj
def RHeldTo (w : World) (l : List Nat) (e : Ending) (w' : World) : Prop := ∃ aa cap, e = .returned (.slice aa l.length cap) ∧ Win w' 3 1 (.slice aa l.length cap) l.length (its l) ∧ Fr Nil w w' ∧ ∀ b, (Value.slice aa l.length cap).ownBlock = some b → w.heap.size ≤ b
theorem heldK_len (al : List A) (i : Nat) : ∀ n, (heldK al i n).length ≤ n
  | 0 => Nat.le_refl _
  | n + 1 => by
    have := heldK_len al i n
    unfold heldK
    split <;> simp <;> omega
theorem its_app (l : List Nat) (t : Nat) : its (l ++ [t]) = its l ++ [.int .i64 (t : Int)] := by simp [its]
set_option maxHeartbeats 2000000 in
theorem rheld_ok (rb : Nat) (fv av : Value) (n c d : Nat) (F : Nat → Int) (al : List A) (sp : Nat) (i : Nat) (core : Int) (w : World) (h : RAt w rb fv av n c d F al sp) (hc : core = (i : Int)) (hl : al.length ≤ 1000) :
    Calls Try.prog 51 #[.pointer (some ⟨rb, 0, none⟩), .int .i64 core] w (RHeldTo w (heldK al i al.length)) := by
  have HR := Lib.hid h
  have HL := Lib.hid hl
  have HC := Lib.hid hc
  obtain ⟨i3, hi3, r0, r1, r2⟩ := info_parts Try.yinfo3
  obtain ⟨ao, cap2, ev, -, -, -⟩ := h.all.shape
  subst ev
  have ll : (al.length : Int) ≤ 1000 := by omega
  clear h hc hl
  go_enter Try.func51, Try.ntmps51
  go_wp2_with fail
  go_loopw [5, 6] (fun lv iv wr => ∃ (j : Nat) (aa : Option Addr) (cap : Nat), j ≤ al.length ∧ iv = .int .i64 (j : Int) ∧ lv = .slice aa (heldK al i j).length cap ∧ Win wr 3 1 (.slice aa (heldK al i j).length cap) (heldK al i j).length (its (heldK al i j)) ∧ (∀ b, (Value.slice aa (heldK al i j).length cap).ownBlock = some b → w.heap.size ≤ b) ∧ Fr Nil w wr) (fun _ iv _ => al.length - (intOf iv).toNat)
  case atStart => exact ⟨0, none, 0, Nat.zero_le _, rfl, rfl, Win.nil _ _ _, fun b hb => (by cases hb), Fr.refl _ _⟩
  case round =>
    obtain ⟨j, aa, cap, hj, rfl, rfl, hw, hb, hf⟩ := hrel
    have HF := Lib.hid hf
    have HW := Lib.hid hw
    have HB := Lib.hid hb
    have G2 := HR.out.fr0 hf
    have a3 := G2.a_c
    clear hf hw hb
    by_cases hlt : j < al.length
    · have HJ := Lib.hid hlt
      have jn : (j : Int) < (al.length : Int) := by omega
      have j1000 : (j : Int) < 1000 := by omega
      obtain ⟨g2, off2, cap3, ev, d0, d1, d2, d3, -⟩ := G2.cells hlt
      cases ev
      have HE := Lib.hid (show heldK al i (j + 1) = heldK al i j ++ (if waitB (al.getD j a0) i = true then [j + 1] else []) from rfl)
      have HN := Lib.hid (heldK_len al i j)
      have hq : (((al.getD j a0).i : Int) == core) = ((al.getD j a0).i == i) := by
        rw [HC.out, Bool.eq_iff_iff, beq_iff_eq, beq_iff_eq]
        omega
      generalize al.getD j a0 = x at *
      generalize heldK al i j = l at *
      have HWB := Lib.hid (show waitB x i = (x.i == i && x.sp == 0) from rfl)
      clear G2 hj hlt
      generalize (x.i : Int) = xi at *
      cases hb : (x.i == i)
      · rw [hb] at hq
        have E := Lib.hid (show heldK al i (j + 1) = l by rw [HE.out, HWB.out, hb]; simp)
        clear hb
        go_wp2_with fail
        go_roundw
        case rel => exact ⟨j + 1, aa, cap, HJ.out, by go_num, by rw [E.out], by rw [E.out]; exact HW.out, by rw [E.out]; exact HB.out, HF.out⟩
        case measure => have := HJ.out; simp [intOf]; omega
      · rw [hb] at hq
        have hz0 : ((x.sp : Int) == 0) = (x.sp == 0) := by rw [Bool.eq_iff_iff, beq_iff_eq, beq_iff_eq]; omega
        cases hz : (x.sp == 0)
        · rw [hz] at hz0
          have E := Lib.hid (show heldK al i (j + 1) = l by rw [HE.out, HWB.out, hb, hz]; simp)
          generalize (x.sp : Int) = xs at *
          clear hb hz
          go_wp2_with fail
          go_roundw
          case rel => exact ⟨j + 1, aa, cap, HJ.out, by go_num, by rw [E.out], by rw [E.out]; exact HW.out, by rw [E.out]; exact HB.out, HF.out⟩
          case measure => have := HJ.out; simp [intOf]; omega
        · rw [hz] at hz0
          have E := Lib.hid (show heldK al i (j + 1) = l ++ [j + 1] by rw [HE.out, HWB.out, hb, hz]; simp)
          generalize (x.sp : Int) = xs at *
          clear hb hz
          go_wp2_with (at_builtin; refine wpList_append_win _ rfl (.tmp 37) (.tmp 40) 39 rfl 3 i3 _ 1 8 Try.underlying39 hi3 r0 r1 r2 rfl (by decide) _ _ _ rfl (HW.out.alloc _) ⟨wr.heap.size, 0, none⟩ 1 1 [.int .i64 ((j : Int) + 1)] rfl rfl (cells_new wr [.int .i64 ((j : Int) + 1)] 3) (by simp [Value.oneCell']) (by omega) (by have := HN.out; have := HJ.out; have := HL.out; simp only [maxLen]; omega) (by have := HN.out; have := HJ.out; have := HL.out; omega) (wr.heap.size + 1) (by simp) ?_; intro ga off3 acp3 w9 hw9 hgr hat)
          have hgr' := (World.grownBy_alloc wr _ _).trans hgr
          have el : (l ++ [j + 1]).length = l.length + 1 := by simp
          have ei : its (l ++ [j + 1]) = its l ++ [.int .i64 ((j : Int) + 1)] := by rw [its_app]; rfl
          rw [← el, ← ei] at hw9
          have W9 := Lib.hid hw9
          have F9 := Lib.hid (HF.out.grown hgr' fun b hb => .inr (HB.out b hb))
          have B9 := Lib.hid (show ∀ b, (Value.slice (some ⟨ga, off3, none⟩) (l ++ [j + 1]).length acp3).ownBlock = some b → w.heap.size ≤ b from fun b hb => by
            cases hb
            rcases hat with h | h
            · exact HB.out _ h
            · have := HF.out.size
              show w.heap.size ≤ ga
              omega)
          rw [← el]
          clear hgr hgr' hat hw9 el ei
          go_roundw
          case rel => exact ⟨j + 1, _, _, HJ.out, by go_num, by rw [E.out], by rw [E.out]; exact W9.out, by rw [E.out]; exact B9.out, F9.out⟩
          case measure => have := HJ.out; simp [intOf]; omega
    · obtain rfl : j = al.length := by omega
      have l1 : decide (al.length < al.length) = false := by simp
      clear hj hlt G2
      go_wp2_with fail
      go_ret
      exact ⟨aa, cap, rfl, HW.out, HF.out, HB.out⟩
def loadV (al : List A) (F : Nat → Int) (i k : Nat) : Int × Nat := match loadK al i k al.length with
  | some p => p
  | none => ((peekK al F k al.length).1, (peekK al F k al.length).2.1)
set_option maxHeartbeats 2000000 in
theorem rload_ok (rb : Nat) (fv av : Value) (n c d : Nat) (F : Nat → Int) (al : List A) (sp : Nat) (i k : Nat) (core a : Int) (w : World) (h : RAt w rb fv av n c d F al sp) (hc : core = (i : Int)) (ha : a = 8 * (k : Int)) (hk : k < n) (hn : n ≤ 8192) (hl : al.length ≤ 1000) :
    Calls Try.prog 42 #[.pointer (some ⟨rb, 0, none⟩), .int .i64 core, .int .u64 a] w fun e w' => e = .returned (.tuple #[.int .u64 (loadV al F i k).1, .int .i64 ((loadV al F i k).2 : Int)]) ∧ Fr Nil w w' := by
  have HR := Lib.hid h
  have HL := Lib.hid hl
  have HC := Lib.hid hc
  have HA := Lib.hid ha
  have a3 := h.a_c
  have PK := Lib.hid (fun W (hW : Fr Nil w W) => rpeek_ok rb fv av n c d F al sp k a W (h.fr0 hW) ha hk hn hl)
  obtain ⟨ao, cap2, ev, -, -, -⟩ := h.all.shape
  subst ev
  have ll : (al.length : Int) ≤ 1000 := by omega
  clear h hc ha hk hn hl
  go_enter Try.func42, Try.ntmps42
  go_wp2_with fail
  clear a3
  go_loopw [8] (fun iv wr => ∃ j : Nat, j ≤ al.length ∧ iv = .int .i64 ((j : Int) - 1) ∧ loadK al i k al.length = loadK al i k j ∧ Fr Nil w wr) (fun iv _ => (intOf iv + 1).toNat)
  case atStart => exact ⟨al.length, Nat.le_refl _, rfl, rfl, Fr.refl _ _⟩
  case round =>
    obtain ⟨j, hj, rfl, he, hf⟩ := hrel
    have HF := Lib.hid hf
    have HE0 := Lib.hid he
    have G2 := HR.out.fr0 hf
    have a3 := G2.a_c
    clear hf he
    match j, hj with
    | 0, hj =>
      have E := Lib.hid (show loadV al F i k = ((peekK al F k al.length).1, (peekK al F k al.length).2.1) by unfold loadV; rw [HE0.out]; rfl)
      have P2 := Lib.hid (PK.out wr HF.out)
      clear G2 a3 hj
      go_wp2_with (go_at_call 50; refine P2.out.mono ?_; rintro e w9 ⟨rfl, f9⟩; have F9 := Lib.hid (HF.out.trans f9); clear f9)
      go_ret2
      exact ⟨by rw [E.out]; rfl, F9.out⟩
    | j + 1, hj =>
      have hlt : j < al.length := by omega
      have HJ := Lib.hid hlt
      obtain ⟨iz, hiz⟩ : ∃ iz : Int, iz = ((j + 1 : Nat) : Int) - 1 := ⟨_, rfl⟩
      have hij : iz = (j : Int) := by omega
      rw [← hiz, hij]
      clear hiz hij
      have jn : (j : Int) < (al.length : Int) := by omega
      have j1000 : (j : Int) < 1000 := by omega
      obtain ⟨g2, off2, cap3, ev, d0, d1, d2, d3, -⟩ := G2.cells hlt
      cases ev
      have HE := Lib.hid (show loadK al i k (j + 1) = if (waitB (al.getD j a0) i && (al.getD j a0).k == k) = true then some ((al.getD j a0).v, j + 1) else loadK al i k j from rfl)
      have hq : (((al.getD j a0).i : Int) == core) = ((al.getD j a0).i == i) := by
        rw [HC.out, Bool.eq_iff_iff, beq_iff_eq, beq_iff_eq]
        omega
      have hz0 : (((al.getD j a0).sp : Int) == 0) = ((al.getD j a0).sp == 0) := by rw [Bool.eq_iff_iff, beq_iff_eq, beq_iff_eq]; omega
      have hk0 : (8 * ((al.getD j a0).k : Int) == a) = ((al.getD j a0).k == k) := by rw [HA.out]; exact addr_eq _ _
      generalize al.getD j a0 = x at *
      have HWB := Lib.hid (show waitB x i = (x.i == i && x.sp == 0) from rfl)
      clear G2 hj hlt
      generalize (x.i : Int) = xi at *
      generalize (x.sp : Int) = xs at *
      generalize 8 * (x.k : Int) = xa at *
      have XB := Lib.hid (Blk.new wr 106 #[.int .i64 xi, .int .u64 xa, .int .u64 x.v, .int .i64 xs])
      have F5 := Lib.hid (HF.out.alloc (.cells #[.int .i64 xi, .int .u64 xa, .int .u64 x.v, .int .i64 xs] 106))
      go_upto_region 5 with fail
      generalize (wr.alloc (.cells #[.int .i64 xi, .int .u64 xa, .int .u64 x.v, .int .i64 xs] 106)) = w5 at *
      have x0 := XB.out.cellv (i := 0) rfl
      have x1 := XB.out.cellv (i := 1) rfl
      have x2 := XB.out.cellv (i := 2) rfl
      have x3 := XB.out.cellv (i := 3) rfl
      clear d0 d1 d2 d3 a3
      cases hb : (x.i == i && x.sp == 0 && x.k == k)
      · have E := Lib.hid (show loadK al i k al.length = loadK al i k j by rw [HE0.out, HE.out, HWB.out, hb]; rfl)
        cases h1 : (x.i == i)
        · rw [h1] at hq
          clear hb h1 hz0 hk0
          go_wp2_with fail
          go_roundw
          case rel => exact ⟨j, by have := HJ.out; omega, rfl, E.out, F5.out⟩
          case measure => simp only [intOf]; omega
        · rw [h1] at hq hb
          cases h2 : (x.sp == 0)
          · rw [h2] at hz0
            clear hb h1 h2 hk0
            go_wp2_with fail
            go_roundw
            case rel => exact ⟨j, by have := HJ.out; omega, rfl, E.out, F5.out⟩
            case measure => simp only [intOf]; omega
          · rw [h2] at hz0 hb
            have h3 : (x.k == k) = false := by simpa using hb
            rw [h3] at hk0
            clear hb h1 h2 h3
            go_wp2_with fail
            go_roundw
            case rel => exact ⟨j, by have := HJ.out; omega, rfl, E.out, F5.out⟩
            case measure => simp only [intOf]; omega
      · have E := Lib.hid (show loadV al F i k = (x.v, j + 1) by unfold loadV; rw [HE0.out, HE.out, HWB.out, hb]; rfl)
        simp only [Bool.and_eq_true] at hb
        rw [hb.1.1] at hq
        rw [hb.1.2] at hz0
        rw [hb.2] at hk0
        clear hb
        generalize x.v = xv at *
        go_wp2_with fail
        go_ret2
        exact ⟨by rw [E.out]; rfl, F5.out⟩
end Go.Proofs.Ytjbdbmahbcaniaa
