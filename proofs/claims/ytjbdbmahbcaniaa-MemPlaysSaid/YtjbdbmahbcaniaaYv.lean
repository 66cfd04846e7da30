/- The document's Flush, Order, New. -/
import Derived.Test.YtjbdbmahbcaniaaYu
set_option linter.unusedSimpArgs false
set_option linter.unusedVariables false
set_option linter.unusedSectionVars false
namespace Go.Proofs.Ytjbdbmahbcaniaa
open Go.RowKit
set_option maxRecDepth 100000

/-- What is drained, one behind the other. -/
def drsA (al : List A) (i sp : Nat) : Nat → List A
  | 0 => al
  | j + 1 => match heldK (drsA al i sp j) i (drsA al i sp j).length with
    | [] => drsA al i sp j
    | t :: _ => drA (drsA al i sp j) t (sp + j)
theorem drA_len (al : List A) (t sp : Nat) : (drA al t sp).length = al.length := by simp [drA]
theorem drsA_len (al : List A) (i sp : Nat) : ∀ j, (drsA al i sp j).length = al.length
  | 0 => rfl
  | j + 1 => by
    have ih := drsA_len al i sp j
    unfold drsA
    split
    · exact ih
    · rw [drA_len]; exact ih
/-- Draining one takes the first away. -/
theorem held_dr (al : List A) (i sp t : Nat) (l : List Nat) (h : heldK al i al.length = t :: l) : heldK (drA al t sp) i (drA al t sp).length = l := by
  have hm := heldK_mem al i al.length
  have hu := heldK_up al i al.length
  rw [h] at hm hu
  rw [List.pairwise_cons] at hu
  obtain ⟨t1, t2, t3⟩ := (hm t).1 List.mem_cons_self
  refine sorted_eq (heldK_up _ _ _) hu.2 fun x => ?_
  rw [heldK_mem, drA_len]
  have hg : ∀ y, (drA al t sp).getD y a0 = if y = t - 1 then { al.getD (t - 1) a0 with sp := sp + 1 } else al.getD y a0 := fun y => by
    unfold drA
    rw [getD_set (by omega)]
    rfl
  constructor
  · rintro ⟨x1, x2, x3⟩
    rw [hg] at x3
    by_cases e : x - 1 = t - 1
    · rw [if_pos e] at x3
      simp [waitB] at x3
    · rw [if_neg e] at x3
      rcases List.mem_cons.1 ((hm x).2 ⟨x1, x2, x3⟩) with h1 | h1
      · omega
      · exact h1
  · intro hx
    obtain ⟨x1, x2, x3⟩ := (hm x).1 (List.mem_cons_of_mem _ hx)
    have := hu.1 x hx
    refine ⟨x1, x2, ?_⟩
    rw [hg, if_neg (by omega)]
    exact x3
theorem held_drs (al : List A) (i sp : Nat) : ∀ j, j ≤ (heldK al i al.length).length → heldK (drsA al i sp j) i (drsA al i sp j).length = (heldK al i al.length).drop j
  | 0, _ => rfl
  | j + 1, hj => by
    have ih := held_drs al i sp j (by omega)
    unfold drsA
    cases hc : heldK (drsA al i sp j) i (drsA al i sp j).length with
    | nil =>
      rw [hc] at ih
      have := congrArg List.length ih
      simp at this
      omega
    | cons t l =>
      rw [held_dr _ i (sp + j) t l hc]
      rw [hc] at ih
      rw [← List.drop_drop, ← ih]
      rfl
theorem RAt.away {w : World} {rb : Nat} {fv av : Value} {n c d : Nat} {F : Nat → Int} {al : List A} {sp : Nat} (h : RAt w rb fv av n c d F al sp) {v : Value} {m : Nat} {xs : List Value} (hw : Win w 3 1 v m xs) {k : Nat} (hk : v.ownBlock = some k) : ¬ RFt rb fv av k := by
  rintro (rfl | h1 | h1)
  · exact hw.ne h.top (by decide) hk
  · exact hw.ne2 h.fst (by decide) hk h1
  · exact hw.ne2 h.all (by decide) hk h1
set_option maxHeartbeats 2000000 in
theorem rflush_ok (rb : Nat) (fv av : Value) (n c d : Nat) (F : Nat → Int) (al : List A) (sp : Nat) (i : Nat) (core : Int) (w : World) (h : RAt w rb fv av n c d F al sp) (hc : core = (i : Int)) (hl : al.length ≤ 500) (hsp : sp ≤ 500) :
    Calls Try.prog 46 #[.pointer (some ⟨rb, 0, none⟩), .int .i64 core] w fun e w' => ∃ aa cap, e = .returned (.slice aa (heldK al i al.length).length cap) ∧ Win w' 3 1 (.slice aa (heldK al i al.length).length cap) (heldK al i al.length).length (its (heldK al i al.length)) ∧
      RAt w' rb fv av n c d F (drsA al i sp (heldK al i al.length).length) (sp + (heldK al i al.length).length) ∧ Fr (RFt rb fv av) w w' ∧ ∀ b, (Value.slice aa (heldK al i al.length).length cap).ownBlock = some b → w.heap.size ≤ b := by
  have HR := Lib.hid h
  have HC := Lib.hid hc
  have HL := Lib.hid (And.intro hl hsp)
  have HD := Lib.hid (rheld_ok rb fv av n c d F al sp i core w h hc (by omega))
  have HS := Lib.hid (held_drs al i sp)
  have HDL := Lib.hid (drsA_len al i sp)
  have hh := heldK_len al i al.length
  have h500 : ((heldK al i al.length).length : Int) ≤ 500 := by omega
  have H500 := Lib.hid (show (heldK al i al.length).length ≤ 500 by omega)
  clear h hc hl hsp hh
  generalize heldK al i al.length = l at *
  go_enter Try.func46, Try.ntmps46
  go_wp2_with fail
  refine HD.out.mono ?_
  rintro e w2 ⟨aa, cap, rfl, hw, f2, hb⟩
  have R2 := Lib.hid (HR.out.fr0 f2)
  have F2 := Lib.hid f2
  have HW := Lib.hid hw
  have HB := Lib.hid hb
  clear hw f2 hb HD HR
  go_wp2_with fail
  go_loopw [6] (fun iv wr => ∃ j : Nat, j ≤ l.length ∧ iv = .int .i64 (j : Int) ∧ RAt wr rb fv av n c d F (drsA al i sp j) (sp + j) ∧ Win wr 3 1 (.slice aa l.length cap) l.length (its l) ∧ Fr (RFt rb fv av) w wr) (fun iv _ => l.length - (intOf iv).toNat)
  case atStart => exact ⟨0, Nat.zero_le _, rfl, R2.out, HW.out, F2.out.nil⟩
  case round =>
    clear R2 HW F2
    obtain ⟨j, hj, rfl, hr, hw, hf⟩ := hrel
    have R := Lib.hid hr
    have HW := Lib.hid hw
    have HF := Lib.hid hf
    clear hr hw hf
    by_cases hlt : j < l.length
    · have HJ := Lib.hid hlt
      have jn : (j : Int) < (l.length : Int) := by omega
      have DR := rdrain_ok rb fv av n c d F (drsA al i sp j) (sp + j) i core wr R.out HC.out (by rw [HDL.out]; have := HL.out; omega) (by have := HL.out; have := H500.out; omega)
      obtain ⟨t, l2, ht⟩ : ∃ t l2, heldK (drsA al i sp j) i (drsA al i sp j).length = t :: l2 := by
        rw [HS.out j hj]
        have : 0 < (l.drop j).length := by rw [List.length_drop]; omega
        cases hd : l.drop j with
        | nil => rw [hd] at this; simp at this
        | cons t l2 => exact ⟨t, l2, rfl⟩
      rw [ht] at DR
      have E := Lib.hid (show drsA al i sp (j + 1) = drA (drsA al i sp j) t (sp + j) by
        conv => lhs; unfold drsA
        rw [ht])
      have D2 := Lib.hid DR
      clear DR ht hj hlt
      go_wp2_with (go_at_call 44; refine D2.out.mono ?_; rintro e w9 ⟨rfl, r9, f9⟩)
      have R9 := Lib.hid r9
      have F9 := Lib.hid (HF.out.trans f9)
      have W9 := Lib.hid (HW.out.fr f9 fun k hk => R.out.away HW.out hk)
      clear r9 f9
      go_roundw
      case rel => exact ⟨j + 1, HJ.out, by go_num, by rw [E.out]; exact R9.out, W9.out, F9.out⟩
      case measure => have := HJ.out; simp [intOf]; omega
    · obtain rfl : j = l.length := by omega
      have l1 : decide (l.length < l.length) = false := by simp
      clear hj hlt
      go_wp2_with fail
      go_ret
      exact ⟨aa, cap, rfl, HW.out, R.out, HF.out, HB.out⟩
/-- The tickets in the order of their stamps, so far as they were come upon. -/
theorem Try.yinfo22 : (Try.prog.info? 22).map (fun i => (i.zero, i.size, i.bytes)) = some (some (.int .u64 0), 1, 8) := by kernel_rfl
theorem make59 (n : Nat) (hn : n ≤ 8192) (w : World) : (Instr.makeSlice 59 (.int .i64 (n : Int)) (.int .i64 (n : Int))).run Try.prog w = .ok (.slice (some ⟨w.heap.size, 0, none⟩) n n) (w.alloc (.cells (fvs (fun _ => 0) n).toArray 22)) := by
  obtain ⟨i, hi, hz0, hz1, hz2⟩ := info_parts Try.yinfo22
  have := run_make (P := Try.prog) w 59 22 i _ Try.underlying59 hi hz0 .i64 .i64 n n (by omega) (by omega) (by rw [hz2]; omega) (by omega)
  rw [hz1, Int.toNat_natCast, show (Value.int .u64 0).cells = #[.int .u64 0] from rfl] at this
  have e : madeCells #[Value.int .u64 0] (n * 1) = (fvs (fun _ => 0) n).toArray := by
    apply Array.toList_inj.1
    rw [toList_madeCells_one, Nat.mul_one]
    unfold fvs
    rw [List.map_const']
    simp
  rw [e] at this
  exact this
def RNewTo (w : World) (n c d : Nat) (e : Ending) (w' : World) : Prop := ∃ rb fv, e = .returned (.pointer (some ⟨rb, 0, none⟩)) ∧ RAt w' rb fv (.slice none 0 0) n c d (fun _ => 0) [] 0 ∧ Fr Nil w w' ∧ ∀ k, RFt rb fv (.slice none 0 0) k → w.heap.size ≤ k
theorem rnew_ok (n c d : Nat) (w : World) (hn : n ≤ 8192) : Calls Try.prog 31 #[.int .i64 (n : Int), .int .i64 (c : Int), .int .i64 (d : Int)] w (RNewTo w n c d) := by
  have MK := fun W => make59 n hn W
  have B1 := Blk.new w 22 (fvs (fun _ => 0) n).toArray
  have F1 := (Fr.refl Nil w).alloc (.cells (fvs (fun _ => 0) n).toArray 22)
  have W1 := Win.full (n := n) (size := 1) B1 (by simp [fvs]) (by simp only [maxLen]; omega)
  have HP := Lib.hid (show RNewTo w n c d (.returned (.pointer (some ⟨w.heap.size + 1, 0, none⟩))) ((w.alloc (.cells (fvs (fun _ => 0) n).toArray 22)).alloc (.cells #[.slice (some ⟨w.heap.size, 0, none⟩) n n, .int .i64 (c : Int), .int .i64 (d : Int), .slice none 0 0, .int .i64 0] 70)) from
    ⟨_, .slice (some ⟨w.heap.size, 0, none⟩) n n, rfl, ⟨Blk.new2 w _ 70 _, (W1.alloc _), Win.nil _ _ _⟩, F1.alloc _, fun k hk => by
      rcases hk with rfl | h | h
      · exact Nat.le_succ _
      · cases h; exact Nat.le_refl _
      · cases h⟩)
  clear B1 F1 W1 hn
  go_enter Try.func31, Try.ntmps31
  go_wp2
  go_ret
  exact HP.out
structure Ordd (al : List A) (od : List Nat) : Prop where
  fw : ∀ (j t : Nat), od[j]? = some t → 1 ≤ t ∧ t ≤ al.length ∧ (al.getD (t - 1) a0).sp = j + 1
  bw : ∀ (t m : Nat), t < al.length → (al.getD t a0).sp = m + 1 → od[m]? = some (t + 1)
set_option maxHeartbeats 2000000 in
theorem rorder_ok (rb : Nat) (fv av : Value) (n c d : Nat) (F : Nat → Int) (al : List A) (od : List Nat) (w : World) (h : RAt w rb fv av n c d F al od.length) (ho : Ordd al od) (hl : al.length ≤ 1000) (hol : od.length ≤ 1000) :
    Calls Try.prog 33 #[.pointer (some ⟨rb, 0, none⟩)] w (RHeldTo w od) := by
  have HR := Lib.hid h
  have HL := Lib.hid (And.intro hl hol)
  have HO := Lib.hid ho
  obtain ⟨i3, hi3, r0, r1, r2⟩ := info_parts Try.yinfo3
  obtain ⟨ao, cap2, ev, -, -, -⟩ := h.all.shape
  subst ev
  have ll : (al.length : Int) ≤ 1000 := by omega
  have lo : (od.length : Int) ≤ 1000 := by omega
  clear h ho hl hol
  go_enter Try.func33, Try.ntmps33
  go_wp2_with fail
  go_loopw [3, 4] (fun lv iv wr => ∃ (j : Nat) (aa : Option Addr) (cap : Nat), j ≤ od.length ∧ iv = .int .i64 ((j : Int) + 1) ∧ lv = .slice aa j cap ∧ Win wr 3 1 (.slice aa j cap) j (its (od.take j)) ∧ (∀ b, (Value.slice aa j cap).ownBlock = some b → w.heap.size ≤ b) ∧ Fr Nil w wr) (fun _ iv _ => od.length + 1 - (intOf iv).toNat)
  case atStart => exact ⟨0, none, 0, Nat.zero_le _, rfl, rfl, Win.nil _ _ _, fun b hb => (by cases hb), Fr.refl _ _⟩
  case round =>
    obtain ⟨j, aa, cap, hj, rfl, rfl, hw, hb, hf⟩ := hrel
    have HF := Lib.hid hf
    have HW := Lib.hid hw
    have HB := Lib.hid hb
    have s4 := (HR.out.fr0 hf).s_c
    clear hf hw hb
    by_cases hlt : j < od.length
    · have HJ := Lib.hid hlt
      have jn : (j : Int) + 1 ≤ (od.length : Int) := by omega
      have j1000 : (j : Int) < 1000 := by omega
      obtain ⟨t, ht⟩ : ∃ t, od[j]? = some t := ⟨_, List.getElem?_eq_getElem hlt⟩
      obtain ⟨t1, t2, t3⟩ := HO.out.fw j t ht
      have HT := Lib.hid (And.intro ht (And.intro t1 t2))
      have ET := Lib.hid (show od.take (j + 1) = od.take j ++ [t] by
        rw [List.take_add_one, ht]; rfl)
      have T3 := Lib.hid t3
      clear hj hlt ht t1 t2 t3
      go_wp2_with fail
      clear s4
      go_loopw [3, 5] (fun lv iv wr => ∃ (x : Nat) (aa : Option Addr) (cap : Nat), x ≤ al.length ∧ iv = .int .i64 (x : Int) ∧ lv = .slice aa (if t ≤ x then j + 1 else j) cap ∧ Win wr 3 1 (.slice aa (if t ≤ x then j + 1 else j) cap) (if t ≤ x then j + 1 else j) (its (od.take (if t ≤ x then j + 1 else j))) ∧ (∀ b, (Value.slice aa (if t ≤ x then j + 1 else j) cap).ownBlock = some b → w.heap.size ≤ b) ∧ Fr Nil w wr) (fun _ iv _ => al.length - (intOf iv).toNat)
      case atStart =>
        have e0 : (if t ≤ 0 then j + 1 else j) = j := if_neg (by have := HT.out.2.1; omega)
        exact ⟨0, aa, cap, Nat.zero_le _, rfl, by rw [e0], by rw [e0]; exact HW.out, by rw [e0]; exact HB.out, HF.out⟩
      case round =>
        clear HF HW HB
        obtain ⟨x, aa, cap, hx, rfl, rfl, hw, hb, hf⟩ := hrel
        have HF := Lib.hid hf
        have HW := Lib.hid hw
        have HB := Lib.hid hb
        have G2 := HR.out.fr0 hf
        have a3 := G2.a_c
        clear hf hw hb
        by_cases hxl : x < al.length
        · have HX := Lib.hid hxl
          have xn : (x : Int) < (al.length : Int) := by omega
          have x1000 : (x : Int) < 1000 := by omega
          obtain ⟨g2, off2, cap3, ev, -, -, -, d3, -⟩ := G2.cells hxl
          cases ev
          clear G2 hx hxl
          by_cases hit : t = x + 1
          · have e1 : (if t ≤ x then j + 1 else j) = j := if_neg (by omega)
            have e2 : (if t ≤ x + 1 then j + 1 else j) = j + 1 := if_pos (by omega)
            have hsp : (al.getD x a0).sp = j + 1 := by have := T3.out; rw [hit, Nat.add_sub_cancel] at this; exact this
            rw [hsp] at d3
            rw [e1] at HW HB ⊢
            have E2 := Lib.hid e2
            have tx := Lib.hid hit
            clear e1 e2 hsp hit
            have dj : ((j + 1 : Nat) : Int) = (j : Int) + 1 := by omega
            rw [dj] at d3
            clear dj
            go_wp2_with (at_builtin; refine wpList_append_win _ rfl (.tmp 33) (.tmp 36) 39 rfl 3 i3 _ 1 8 Try.underlying39 hi3 r0 r1 r2 rfl (by decide) _ _ _ rfl (HW.out.alloc _) ⟨wr.heap.size, 0, none⟩ 1 1 [.int .i64 ((x : Int) + 1)] rfl rfl (cells_new wr [.int .i64 ((x : Int) + 1)] 3) (by simp [Value.oneCell']) (by omega) (by have := HJ.out; have := HL.out; simp only [maxLen]; omega) (by have := HJ.out; have := HL.out; omega) (wr.heap.size + 1) (by simp) ?_; intro ga off3 acp3 w9 hw9 hgr hat)
            have hgr' := (World.grownBy_alloc wr _ _).trans hgr
            have ei : its (od.take (j + 1)) = its (od.take j) ++ [.int .i64 ((x : Int) + 1)] := by
              rw [ET.out, its_app, tx.out]
              rfl
            rw [← ei] at hw9
            have W9 := Lib.hid hw9
            have F9 := Lib.hid (HF.out.grown hgr' fun b hb => .inr (HB.out b hb))
            have B9 := Lib.hid (show ∀ b, (Value.slice (some ⟨ga, off3, none⟩) (j + 1) acp3).ownBlock = some b → w.heap.size ≤ b from fun b hb => by
              cases hb
              rcases hat with h | h
              · exact HB.out _ h
              · have := HF.out.size
                show w.heap.size ≤ ga
                omega)
            clear hgr hgr' hat hw9 ei
            go_roundw
            case rel => exact ⟨x + 1, _, _, HX.out, by go_num, by rw [E2.out], by rw [E2.out]; exact W9.out, by rw [E2.out]; exact B9.out, F9.out⟩
            case measure => have := HX.out; simp [intOf]; omega
          · have e2 : (if t ≤ x + 1 then j + 1 else j) = (if t ≤ x then j + 1 else j) := by
              by_cases e : t ≤ x
              · rw [if_pos e, if_pos (by omega)]
              · rw [if_neg e, if_neg (by omega)]
            have E2 := Lib.hid e2
            have ne : (((al.getD x a0).sp : Int) == (j : Int) + 1) = false := by
              rw [beq_eq_false_iff_ne]
              intro e
              have h1 := HO.out.bw x j HX.out (by omega)
              rw [HT.out.1] at h1
              exact hit (Option.some.inj h1)
            generalize ((al.getD x a0).sp : Int) = xs at *
            generalize (if t ≤ x then j + 1 else j) = m at *
            clear e2 hit
            go_wp2_with fail
            go_roundw
            case rel => exact ⟨x + 1, aa, cap, HX.out, by go_num, by rw [E2.out], by rw [E2.out]; exact HW.out, by rw [E2.out]; exact HB.out, HF.out⟩
            case measure => have := HX.out; simp [intOf]; omega
        · obtain rfl : x = al.length := by omega
          have l1 : decide (al.length < al.length) = false := by simp
          have e1 : (if t ≤ al.length then j + 1 else j) = j + 1 := if_pos HT.out.2.2
          rw [e1] at HW HB ⊢
          clear hx hxl G2 e1
          go_wp2_with fail
          go_roundw
          case rel => exact ⟨j + 1, aa, cap, HJ.out, by go_num, rfl, HW.out, HB.out, HF.out⟩
          case measure => have := HJ.out; simp [intOf]; omega
    · obtain rfl : j = od.length := by omega
      have l1 : decide ((od.length : Int) + 1 ≤ (od.length : Int)) = false := by simp; omega
      have l2 : decide (od.length + 1 ≤ od.length) = false := by simp
      rw [List.take_length] at HW
      clear hj hlt
      go_wp2_with fail
      go_ret
      exact ⟨aa, cap, rfl, HW.out, HF.out, HB.out⟩
end Go.Proofs.Ytjbdbmahbcaniaa
