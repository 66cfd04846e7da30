/- The document's memory where it lies; Bad, Set, Peek, Held. -/
import Derived.Test.YtjbdbmahbcaniaaYs
import Derived.Test.YtjbdbmahbcaniaaMine
set_option linter.unusedSimpArgs false
set_option linter.unusedVariables false
set_option linter.unusedSectionVars false
namespace Go.Proofs.Ytjbdbmahbcaniaa
open Go.RowKit
set_option maxRecDepth 100000

def encA (x : A) : List Value := [.int .i64 (x.i : Int), .int .u64 (8 * (x.k : Int)), .int .u64 x.v, .int .i64 (x.sp : Int)]
def acs (al : List A) : List Value := rows (fun t => encA (al.getD t a0)) al.length
def fvs (F : Nat → Int) (n : Nat) : List Value := (List.range n).map fun k => .int .u64 (F k)
theorem getD_app {al : List A} {x : A} {t : Nat} : (al ++ [x]).getD t a0 = if t = al.length then x else al.getD t a0 := by
  rw [List.getD_eq_getElem?_getD, List.getD_eq_getElem?_getD]
  by_cases e : t = al.length
  · subst e; rw [if_pos rfl]; simp
  · rw [if_neg e]
    rcases Nat.lt_or_ge t al.length with h | h
    · rw [List.getElem?_append_left h]
    · rw [List.getElem?_eq_none (by simp; omega), List.getElem?_eq_none h]
theorem getD_set {al : List A} {x : A} {t u : Nat} (h : u < al.length) : (al.set u x).getD t a0 = upd (fun t => al.getD t a0) u x t := by
  rw [List.getD_eq_getElem?_getD, List.getElem?_set]
  by_cases e : u = t
  · subst e; rw [if_pos rfl, if_pos h, upd_same]; rfl
  · rw [if_neg e, upd_other _ _ (Ne.symm e), List.getD_eq_getElem?_getD]
theorem acs_length (al : List A) : (acs al).length = al.length * 4 := rows_length _ 4 (fun _ => rfl) _
theorem acs_get {al : List A} {t j : Nat} (h : t < al.length) (hj : j < 4) : (acs al)[t * 4 + j]? = (encA (al.getD t a0))[j]? := rows_get _ 4 (fun _ => rfl) h hj
theorem acs_app (al : List A) (x : A) : acs (al ++ [x]) = acs al ++ encA x := by
  unfold acs
  rw [List.length_append, List.length_singleton, rows_succ, getD_app, if_pos rfl]
  congr 1
  exact rows_congr fun i hi => by rw [getD_app, if_neg (by omega)]
theorem acs_set {al : List A} {t : Nat} {y : A} (h : t < al.length) (j : Nat) (hj : j < 4) (u : Value) (hy : (encA (al.getD t a0)).set j u = encA y) : (acs al).set (t * 4 + j) u = acs (al.set t y) := by
  unfold acs
  rw [rows_set _ 4 (fun _ => rfl) h hj, List.length_set]
  refine rows_congr fun i hi => ?_
  rw [getD_set h]
  by_cases e : i = t
  · subst e; rw [upd_same, upd_same]; exact hy
  · rw [upd_other _ _ e, upd_other _ _ e]
theorem fvs_set (F : Nat → Int) {n k : Nat} (h : k < n) (u : Int) : (fvs F n).set k (.int .u64 u) = fvs (upd F k u) n := by
  unfold fvs
  apply List.ext_getElem (by simp)
  intro i h1 h2
  simp at h1
  by_cases e : i = k
  · subst e; simp [upd]
  · rw [List.getElem_set_ne (by omega)]
    simp [upd, e]
structure RAt (w : World) (rb : Nat) (fv av : Value) (n c d : Nat) (F : Nat → Int) (al : List A) (sp : Nat) : Prop where
  top : Blk w rb 70 #[fv, .int .i64 (c : Int), .int .i64 (d : Int), av, .int .i64 (sp : Int)]
  fst : Win w 22 1 fv n (fvs F n)
  all : Win w 106 4 av al.length (acs al)
def RFt (rb : Nat) (fv av : Value) (k : Nat) : Prop := k = rb ∨ fv.ownBlock = some k ∨ av.ownBlock = some k
section
variable {w w' : World} {rb : Nat} {fv av : Value} {n c d : Nat} {F : Nat → Int} {al : List A} {sp : Nat}
theorem RAt.lt (h : RAt w rb fv av n c d F al sp) {k : Nat} (hk : RFt rb fv av k) : k < w.heap.size := by
  rcases hk with rfl | hk | hk
  · exact h.top.lt
  · exact h.fst.lt hk
  · exact h.all.lt hk
theorem RAt.fr {S : Nat → Prop} (h : RAt w rb fv av n c d F al sp) (hf : Fr S w w') (hs : ∀ k, RFt rb fv av k → ¬ S k) : RAt w' rb fv av n c d F al sp :=
  ⟨h.top.fr hf (hs _ (.inl rfl)), h.fst.fr hf fun k hk => hs k (.inr (.inl hk)), h.all.fr hf fun k hk => hs k (.inr (.inr hk))⟩
theorem RAt.fr0 (h : RAt w rb fv av n c d F al sp) (hf : Fr Nil w w') : RAt w' rb fv av n c d F al sp := h.fr hf fun _ _ => id
theorem RAt.f_c (h : RAt w rb fv av n c d F al sp) : w.cell? ⟨rb, 0, none⟩ = some fv := h.top.cellv (by rfl)
theorem RAt.c_c (h : RAt w rb fv av n c d F al sp) : w.cell? ⟨rb, 1, none⟩ = some (.int .i64 (c : Int)) := h.top.cellv (by rfl)
theorem RAt.d_c (h : RAt w rb fv av n c d F al sp) : w.cell? ⟨rb, 2, none⟩ = some (.int .i64 (d : Int)) := h.top.cellv (by rfl)
theorem RAt.a_c (h : RAt w rb fv av n c d F al sp) : w.cell? ⟨rb, 3, none⟩ = some av := h.top.cellv (by rfl)
theorem RAt.s_c (h : RAt w rb fv av n c d F al sp) : w.cell? ⟨rb, 4, none⟩ = some (.int .i64 (sp : Int)) := h.top.cellv (by rfl)
/-- The cells of one store. -/
theorem RAt.cells (h : RAt w rb fv av n c d F al sp) {t : Nat} (ht : t < al.length) : ∃ g off cap, av = .slice (some ⟨g, off, none⟩) al.length cap ∧ w.cell? ⟨g, off + t * 4, none⟩ = some (.int .i64 ((al.getD t a0).i : Int)) ∧
    w.cell? ⟨g, off + t * 4 + 1, none⟩ = some (.int .u64 (8 * ((al.getD t a0).k : Int))) ∧ w.cell? ⟨g, off + t * 4 + 2, none⟩ = some (.int .u64 (al.getD t a0).v) ∧ w.cell? ⟨g, off + t * 4 + 3, none⟩ = some (.int .i64 ((al.getD t a0).sp : Int)) ∧ ∀ o, w.frozen? ⟨g, o, none⟩ = false := by
  obtain ⟨g, off, cap, rfl, -, -, -, hc, hz⟩ := h.all.form (by omega)
  refine ⟨g, off, cap, rfl, ?_, ?_, ?_, ?_, hz⟩
  · exact hc (t * 4 + 0) _ (acs_get ht (by omega))
  · rw [Nat.add_assoc]; exact hc (t * 4 + 1) _ (acs_get ht (by omega))
  · rw [Nat.add_assoc]; exact hc (t * 4 + 2) _ (acs_get ht (by omega))
  · rw [Nat.add_assoc]; exact hc (t * 4 + 3) _ (acs_get ht (by omega))
end
theorem addr_eq (x k : Nat) : (8 * (x : Int) == 8 * (k : Int)) = (x == k) := by
  rw [Bool.eq_iff_iff, beq_iff_eq, beq_iff_eq]
  omega
def goodB (n c : Nat) (core a : Int) : Bool := decide (0 ≤ core) && decide (core < (c : Int)) && a % 8 == 0 && decide (a / 8 < (n : Int))
set_option maxHeartbeats 1000000 in
theorem rbad_ok (rb : Nat) (fv av : Value) (n c d : Nat) (F : Nat → Int) (al : List A) (sp : Nat) (core a : Int) (w : World) (h : RAt w rb fv av n c d F al sp) (hn : n ≤ 8192) (hc : c ≤ 8) (a0_ : 0 ≤ a) (a1_ : a ≤ 18446744073709551615) :
    Calls Try.prog 41 #[.pointer (some ⟨rb, 0, none⟩), .int .i64 core, .int .u64 a] w fun e w' => e = .returned (.bool (!(goodB n c core a))) ∧ w = w' := by
  have c0 := h.f_c
  have c1 := h.c_c
  obtain ⟨ao, cap, ev, -, -, -⟩ := h.fst.shape
  subst ev
  have n8 : (n : Int) ≤ 8192 := by omega
  have c8 : (c : Int) ≤ 8 := by omega
  unfold goodB
  clear h hn hc
  by_cases g1 : 0 ≤ core
  · by_cases g2 : core < (c : Int)
    · have b1 : decide (core < 0) = false := by simp; omega
      have b2 : decide ((c : Int) ≤ core) = false := by simp; omega
      by_cases g3 : a % 8 = 0
      · have b3 : (a % 8 != 0) = false := by simp [g3]
        by_cases g4 : a / 8 < (n : Int)
        · have b4 : decide ((n : Int) ≤ a / 8) = false := by simp; omega
          have E : (!(decide (0 ≤ core) && decide (core < (c : Int)) && a % 8 == 0 && decide (a / 8 < (n : Int)))) = false := by simp [g1, g2, g3, g4]
          rw [E]
          clear g1 g2 g3 g4 E
          go_enter Try.func41, Try.ntmps41
          go_wp2
          go_ret
          exact ⟨rfl, rfl⟩
        · have b4 : decide ((n : Int) ≤ a / 8) = true := by simp; omega
          have E : (!(decide (0 ≤ core) && decide (core < (c : Int)) && a % 8 == 0 && decide (a / 8 < (n : Int)))) = true := by simp [g4]
          rw [E]
          clear g1 g2 g3 g4 E
          go_enter Try.func41, Try.ntmps41
          go_wp2
          go_ret
          exact ⟨rfl, rfl⟩
      · have b3 : (a % 8 != 0) = true := by simp [g3]
        have E : (!(decide (0 ≤ core) && decide (core < (c : Int)) && a % 8 == 0 && decide (a / 8 < (n : Int)))) = true := by simp [g3]
        rw [E]
        clear g1 g2 g3 E
        go_enter Try.func41, Try.ntmps41
        go_wp2
        go_ret
        exact ⟨rfl, rfl⟩
    · have b1 : decide (core < 0) = false := by simp; omega
      have b2 : decide ((c : Int) ≤ core) = true := by simp; omega
      have E : (!(decide (0 ≤ core) && decide (core < (c : Int)) && a % 8 == 0 && decide (a / 8 < (n : Int)))) = true := by simp [g2]
      rw [E]
      clear g1 g2 E
      go_enter Try.func41, Try.ntmps41
      go_wp2
      go_ret
      exact ⟨rfl, rfl⟩
  · have b1 : decide (core < 0) = true := by simp; omega
    have E : (!(decide (0 ≤ core) && decide (core < (c : Int)) && a % 8 == 0 && decide (a / 8 < (n : Int)))) = true := by simp [g1]
    rw [E]
    clear g1 E
    go_enter Try.func41, Try.ntmps41
    go_wp2
    go_ret
    exact ⟨rfl, rfl⟩
set_option maxHeartbeats 2000000 in
theorem rpeek_ok (rb : Nat) (fv av : Value) (n c d : Nat) (F : Nat → Int) (al : List A) (sp : Nat) (k : Nat) (a : Int) (w : World) (h : RAt w rb fv av n c d F al sp) (ha : a = 8 * (k : Int)) (hk : k < n) (hn : n ≤ 8192) (hl : al.length ≤ 1000) :
    Calls Try.prog 50 #[.pointer (some ⟨rb, 0, none⟩), .int .u64 a] w fun e w' => e = .returned (.tuple #[.int .u64 (peekK al F k al.length).1, .int .i64 ((peekK al F k al.length).2.1 : Int)]) ∧ Fr Nil w w' := by
  have HR := Lib.hid h
  have HL := Lib.hid hl
  have c0 := h.f_c
  obtain ⟨g, off, cap, ev, -, -, -, hcell, -⟩ := h.fst.form (by omega)
  subst ev
  have c1 := hcell k (.int .u64 (F k)) (by simp [fvs, hk])
  have HA := Lib.hid ha
  have n8 : (n : Int) ≤ 8192 := by omega
  have kn : (k : Int) < (n : Int) := by omega
  have e8 : a / 8 = (k : Int) := by omega
  obtain ⟨ao, cap2, ev, -, -, -⟩ := h.all.shape
  subst ev
  have ll : (al.length : Int) ≤ 1000 := by omega
  clear h ha hk hn hl hcell
  go_enter Try.func50, Try.ntmps50
  go_wp2_with fail
  clear c0 c1
  go_loopw [6, 7, 8, 9] (fun v tk stp i wr => ∃ j : Nat, j ≤ al.length ∧ i = .int .i64 (j : Int) ∧ v = .int .u64 (peekK al F k j).1 ∧ tk = .int .i64 ((peekK al F k j).2.1 : Int) ∧ stp = .int .i64 ((peekK al F k j).2.2 : Int) ∧ Fr Nil w wr) (fun _ _ _ i _ => al.length - (intOf i).toNat)
  case atStart => exact ⟨0, Nat.zero_le _, rfl, rfl, rfl, rfl, Fr.refl _ _⟩
  case round =>
    obtain ⟨j, hj, rfl, rfl, rfl, rfl, hf⟩ := hrel
    have HF := Lib.hid hf
    have G2 := HR.out.fr0 hf
    have a3 := G2.a_c
    clear hf
    by_cases hlt : j < al.length
    · have HJ := Lib.hid hlt
      have jn : (j : Int) < (al.length : Int) := by omega
      have j1000 : (j : Int) < 1000 := by omega
      obtain ⟨g2, off2, cap3, ev, d0, d1, d2, d3, -⟩ := G2.cells hlt
      cases ev
      have HE := Lib.hid (show peekK al F k (j + 1) = if ((al.getD j a0).k == k && decide ((peekK al F k j).2.2 < (al.getD j a0).sp)) = true then ((al.getD j a0).v, j + 1, (al.getD j a0).sp) else peekK al F k j from rfl)
      generalize al.getD j a0 = x at *
      clear G2 hj hlt
      have XB := Lib.hid (Blk.new wr 106 #[.int .i64 (x.i : Int), .int .u64 (8 * (x.k : Int)), .int .u64 x.v, .int .i64 (x.sp : Int)])
      have F5 := Lib.hid (HF.out.alloc (.cells #[.int .i64 (x.i : Int), .int .u64 (8 * (x.k : Int)), .int .u64 x.v, .int .i64 (x.sp : Int)] 106))
      go_upto_region 8 with fail
      generalize (wr.alloc (.cells #[.int .i64 (x.i : Int), .int .u64 (8 * (x.k : Int)), .int .u64 x.v, .int .i64 (x.sp : Int)] 106)) = w5 at *
      have x1 := XB.out.cellv (i := 1) rfl
      have x2 := XB.out.cellv (i := 2) rfl
      have x3 := XB.out.cellv (i := 3) rfl
      have hq : (8 * (x.k : Int) == a) = (x.k == k) := by
        rw [HA.out]
        exact addr_eq _ _
      generalize 8 * (x.k : Int) = xa at *
      generalize x.v = xv at *
      generalize x.sp = xs at *
      obtain ⟨p1, hp1⟩ : ∃ p1, p1 = (peekK al F k j).1 := ⟨_, rfl⟩
      obtain ⟨p2, hp2⟩ : ∃ p2, p2 = (peekK al F k j).2.1 := ⟨_, rfl⟩
      obtain ⟨p3, hp3⟩ : ∃ p3, p3 = (peekK al F k j).2.2 := ⟨_, rfl⟩
      rw [← hp1, ← hp2, ← hp3]
      rw [← hp3] at HE
      have H1 := Lib.hid hp1
      have H2 := Lib.hid hp2
      have H3 := Lib.hid hp3
      clear hp1 hp2 hp3 d0 d1 d2 d3 a3
      cases hb : (x.k == k)
      · rw [hb] at hq
        have E := Lib.hid (show peekK al F k (j + 1) = peekK al F k j by rw [HE.out, hb]; rfl)
        clear hb
        go_wp2_with fail
        go_roundw
        case rel => exact ⟨j + 1, HJ.out, by go_num, by rw [E.out, H1.out], by rw [E.out, H2.out], by rw [E.out, H3.out], F5.out⟩
        case measure => have := HJ.out; simp [intOf]; omega
      · rw [hb] at hq
        cases hs : decide (p3 < xs)
        · have E := Lib.hid (show peekK al F k (j + 1) = peekK al F k j by rw [HE.out, hb, hs]; rfl)
          clear hb
          go_wp2_with fail
          go_roundw
          case rel => exact ⟨j + 1, HJ.out, by go_num, by rw [E.out, H1.out], by rw [E.out, H2.out], by rw [E.out, H3.out], F5.out⟩
          case measure => have := HJ.out; simp [intOf]; omega
        · have E := Lib.hid (show peekK al F k (j + 1) = (xv, j + 1, xs) by rw [HE.out, hb, hs]; rfl)
          clear hb
          go_wp2_with fail
          go_roundw
          case rel => exact ⟨j + 1, HJ.out, by go_num, by rw [E.out], by rw [E.out]; go_num, by rw [E.out], F5.out⟩
          case measure => have := HJ.out; simp [intOf]; omega
    · obtain rfl : j = al.length := by omega
      have l1 : decide (al.length < al.length) = false := by simp
      clear hj hlt G2
      go_wp2_with fail
      go_ret2
      exact ⟨rfl, HF.out⟩
end Go.Proofs.Ytjbdbmahbcaniaa
