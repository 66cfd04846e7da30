/- A relation the other way round; its size; two lists of pairs that are the same. -/
import Derived.Test.YtpcpjmbfinpmlaaDoorThn
import Derived.Test.YtpcpjmbfinpmlaaDoorRex
set_option linter.unusedSimpArgs false
set_option linter.unusedVariables false
set_option linter.unusedSectionVars false
namespace Go.Proofs.YtpcpjmbfinpmlaaDoor
open Go.RowKit
set_option maxRecDepth 100000

theorem size_ok (b n : Nat) (r : Rn) (w : World) (h : RelAt w b n r) : Calls Tryd.prog 45 #[.pointer (some ⟨b, 0, none⟩)] w fun e w' => e = .returned (.int .i64 (n : Int)) ∧ w = w' := by
  have c0 := h.n_c
  clear h
  go_enter Tryd.func45, Tryd.ntmps45
  go_wp2
  go_ret
  exact ⟨rfl, rfl⟩
def trnL (l : List (Nat × Nat)) : Rn := fun a c => decide ((c, a) ∈ l)
def trn (r : Rn) : Rn := fun a c => r c a
theorem trnL_nil : trnL [] = noR := by funext a c; simp [trnL, noR]
theorem trnL_app (l : List (Nat × Nat)) (x y : Nat) : addR (trnL l) y x = trnL (l ++ [(x, y)]) := by
  funext a c
  rw [addR_eq, Bool.eq_iff_iff]
  simp [trnL, and_comm]
theorem trnL_prs {n : Nat} {r : Rn} (h : ∀ a c, r a c = true → a < n ∧ c < n) (h64 : n ≤ 64) : trnL (prs r) = trn r := by
  funext a c
  rw [Bool.eq_iff_iff]
  simp only [trnL, trn, decide_eq_true_eq, mem_prs]
  constructor
  · exact fun h => h.2.2
  · intro hr
    have := h c a hr
    exact ⟨by omega, by omega, hr⟩
theorem trn_ok {n : Nat} {r : Rn} (h : ∀ a c, r a c = true → a < n ∧ c < n) (a c : Nat) (hr : trn r a c = true) : a < n ∧ c < n := (h c a hr).symm
set_option maxHeartbeats 1000000 in
theorem turned_ok (b n : Nat) (r : Rn) (w : World) (h : RelAt w b n r) (hT : Tab w) : Calls Tryd.prog 15 #[.pointer (some ⟨b, 0, none⟩)] w (ClosedTo w n (trn r)) := by
  have HB := Lib.hid h
  have HT := Lib.hid hT
  have N64 := Lib.hid h.n64
  have LM := Lib.hid (fun (p : Nat × Nat) (hp : p ∈ prs r) => h.ok p.1 p.2 (mem_prs.1 hp).2.2)
  have LE := Lib.hid (trnL_prs h.ok h.n64)
  have LL := Lib.hid (show (prs r).length ≤ 4096 from prsK_len r 64)
  have c0 := h.n_c
  clear h hT
  go_enter Tryd.func15, Tryd.ntmps15
  go_upto_region 2 with fail
  have F0 := Lib.hid ((Fr.refl Nil w).alloc (.cells (Tryd.zeroCells68.setIfInBounds 0 (.int .i64 (n : Int))) 68))
  have R0 := Lib.hid (show RelAt (w.alloc (.cells (Tryd.zeroCells68.setIfInBounds 0 (.int .i64 (n : Int))) 68)) w.heap.size n noR from ⟨by rw [rcs_zero]; exact Blk.new w 68 _, N64.out, fun a c hh => by cases hh⟩)
  generalize (w.alloc (.cells (Tryd.zeroCells68.setIfInBounds 0 (.int .i64 (n : Int))) 68)) = w0 at *
  obtain ⟨g, hg⟩ : ∃ g, g = w.heap.size := ⟨_, rfl⟩
  rw [← hg] at R0 ⊢
  have HG := Lib.hid (Nat.le_of_eq hg.symm)
  clear hg c0
  go_wp2_with fail
  refine (pairs_ok b n r w0 (HB.out.fr0 F0.out) (HT.out.fr0 F0.out)).mono ?_
  rintro e w2 ⟨pa, pc, rfl, hl⟩
  have PW := Lib.hid hl.win
  have F2 := Lib.hid (F0.out.trans hl.fr)
  have R2 := Lib.hid (R0.out.fr0 hl.fr)
  clear hl R0 F0
  generalize hl : prs r = l at *
  have HLL := Lib.hid hl
  clear hl
  have ll : (l.length : Int) ≤ 4096 := by have := LL.out; omega
  go_wp2_with fail
  go_loopw [15] (fun i wr => ∃ k : Nat, k ≤ l.length ∧ i = .int .i64 (k : Int) ∧ RelAt wr g n (trnL (l.take k)) ∧ Win wr 60 2 (.slice pa l.length pc) l.length (pcs l) ∧ Fr Nil w wr) (fun i _ => l.length - (intOf i).toNat)
  case atStart => exact ⟨0, Nat.zero_le _, rfl, by rw [List.take_zero, trnL_nil]; exact R2.out, PW.out, F2.out⟩
  case round =>
    obtain ⟨k, hk, rfl, hq, hp, hf⟩ := hrel
    clear R2 PW F2
    have HQ := Lib.hid hq
    have HP := Lib.hid hp
    have HF := Lib.hid hf
    clear hq hp hf
    by_cases hlt : k < l.length
    · have HK := Lib.hid hlt
      have kn : (k : Int) < (l.length : Int) := by omega
      obtain ⟨pg, off, cap, ev, -, -, -, -, -⟩ := HP.out.form (by omega)
      cases ev
      have pgk := pcs_get l k hlt
      have d0 := HP.out.cellAt pgk.1
      have d1 := HP.out.cellAt pgk.2
      rw [← Nat.add_assoc] at d1
      have XY := Lib.hid (LM.out l[k] (List.getElem_mem hlt))
      have hc : (l.take (k + 1)) = l.take k ++ [l[k]] := List.take_succ_eq_append_getElem hlt
      have EQ := Lib.hid ((trnL_app (l.take k) l[k].1 l[k].2).trans (congrArg trnL hc.symm))
      clear hc pgk
      generalize l[k] = pp at *
      clear hlt hk
      generalize pp.1 = px at *
      generalize pp.2 = py at *
      have n64 := N64.out
      have xy := XY.out
      have px64 : (px : Int) < 64 := by omega
      have py64 : (py : Int) < 64 := by omega
      generalize trnL (l.take k) = q at *
      have ho : bits .or .u64 (bw (q py) : Int) (2 ^ px) = (bw (upd (q py) px true) : Int) := by
        rw [powN, orN _ _ (bw_lt _) (Nat.pow_lt_pow_right (by decide) (by omega)), bw_set _ (by omega)]
      have hs : IntKind.u64.wrap (2 ^ px) = ((2 ^ px : Nat) : Int) := by
        have : 2 ^ px < 2 ^ 64 := Nat.pow_lt_pow_right (by decide) (by omega)
        rw [powN, IntKind.wrap_u64]
        generalize 2 ^ px = x at *
        omega
      have B3 := Lib.hid (Blk.new wr 60 #[.int .i64 (px : Int), .int .i64 (py : Int)])
      have F3 := Lib.hid ((Fr.refl Nil wr).alloc (.cells #[.int .i64 (px : Int), .int .i64 (py : Int)] 60))
      clear n64 xy
      go_upto_region 5 with fail
      clear d0 d1
      generalize (wr.alloc (.cells #[.int .i64 (px : Int), .int .i64 (py : Int)] 60)) = w3 at *
      have b0 : w3.drew.cell? ⟨wr.heap.size, 0, none⟩ = some (.int .i64 (px : Int)) := B3.out.cellv (i := 0) rfl
      have b1 : w3.drew.cell? ⟨wr.heap.size, 1, none⟩ = some (.int .i64 (py : Int)) := B3.out.cellv (i := 1) rfl
      have Q3 := HQ.out.fr0 F3.out
      have c1 : w3.drew.cell? ⟨g, 1 + py, none⟩ = some (.int .u64 (bw (q py) : Int)) := Q3.row_c (a := py) (by omega)
      have b0' : w3.cell? ⟨wr.heap.size, 0, none⟩ = some (.int .i64 (px : Int)) := b0
      have b1' : w3.cell? ⟨wr.heap.size, 1, none⟩ = some (.int .i64 (py : Int)) := b1
      have c1' : w3.cell? ⟨g, 1 + py, none⟩ = some (.int .u64 (bw (q py) : Int)) := c1
      go_still_tail 14, (by kernel_rfl)
      change wpList _ _ _ _ _ w3.drew
      have Q4 := Q3.fr0 (Fr.refl Nil w3).drew
      have P4 := HP.out.fr (F3.out.drew) fun _ _ => id
      have F4 := (HF.out.trans F3.out).drew
      have z1 := Q4.blk.frozen (1 + py)
      have R5 := Lib.hid (Q4.set_ (a := py) XY.out.2 (f := upd (q py) px true) (fun x hx => by
        by_cases e : x = px
        · subst e; exact XY.out.1
        · rw [upd_other _ _ e] at hx
          exact (Q4.ok py x hx).2))
      have P5 := Lib.hid (P4.far (g := g) (i := 1 + py) (P4.ne Q4.blk (by decide)) (.int .u64 (bw (upd (q py) px true) : Int)))
      have F5 := Lib.hid (F4.setNew (g := g) (i := 1 + py) HG.out (.int .u64 (bw (upd (q py) px true) : Int)))
      clear Q3 Q4 P4 F4 b0 b1 c1' b0' b1' B3 F3 HQ HP HF
      generalize w3.drew = w4 at *
      go_wp2_with fail
      go_roundw
      case rel => exact ⟨k + 1, HK.out, by go_num, by rw [← EQ.out]; exact R5.out, P5.out, F5.out⟩
      case measure => have := HK.out; simp [intOf]; omega
    · obtain rfl : k = l.length := by omega
      have l1 : decide (l.length < l.length) = false := by simp
      have E : trnL (l.take l.length) = trn r := by rw [List.take_length]; exact LE.out
      rw [E] at HQ
      clear hk hlt E
      go_wp2_with fail
      go_ret
      exact ⟨g, rfl, HQ.out, HF.out, HG.out⟩
set_option maxHeartbeats 1000000 in
theorem same_ok (l : List (Nat × Nat)) (a1 a2 : Option Addr) (p1 p2 : Nat) (w : World) (h1 : Win w 60 2 (.slice a1 l.length p1) l.length (pcs l)) (h2 : Win w 60 2 (.slice a2 l.length p2) l.length (pcs l)) (hl : l.length ≤ 4096) :
    Calls Tryd.prog 24 #[.slice a1 l.length p1, .slice a2 l.length p2] w fun e w' => e = .returned (.bool true) ∧ Fr Nil w w' := by
  have H1 := Lib.hid h1
  have H2 := Lib.hid h2
  have ll : (l.length : Int) ≤ 4096 := by omega
  have ne : ((l.length : Int) != (l.length : Int)) = false := by simp
  clear h1 h2 hl
  go_enter Tryd.func24, Tryd.ntmps24
  go_wp2_with fail
  go_loopw [5] (fun i wr => ∃ k : Nat, k ≤ l.length ∧ i = .int .i64 (k : Int) ∧ Fr Nil w wr) (fun i _ => l.length - (intOf i).toNat)
  case atStart => exact ⟨0, Nat.zero_le _, rfl, Fr.refl _ _⟩
  case round =>
    obtain ⟨k, hk, rfl, hf⟩ := hrel
    have HF := Lib.hid hf
    by_cases hlt : k < l.length
    · have HK := Lib.hid hlt
      have kn : (k : Int) < (l.length : Int) := by omega
      have P1 := H1.out.fr hf fun _ _ => id
      have P2 := H2.out.fr hf fun _ _ => id
      obtain ⟨g1, o1, cap1, ev1, -, -, -, -, -⟩ := P1.form (by omega)
      obtain ⟨g2, o2, cap2, ev2, -, -, -, -, -⟩ := P2.form (by omega)
      cases ev1
      cases ev2
      have pgk := pcs_get l k hlt
      have d0 := P1.cellAt pgk.1
      have d1 := P1.cellAt pgk.2
      have e0 := P2.cellAt pgk.1
      have e1 := P2.cellAt pgk.2
      rw [← Nat.add_assoc] at d1 e1
      have eqq := fun W => run_eq2 (l[k].1 : Int) (l[k].2 : Int) (l[k].1 : Int) (l[k].2 : Int) W
      have tt : (((l[k].1 : Nat) : Int) == ((l[k].1 : Nat) : Int) && ((l[k].2 : Nat) : Int) == ((l[k].2 : Nat) : Int)) = true := by simp
      rw [tt] at eqq
      clear P1 P2 pgk hf tt
      generalize l[k] = pp at *
      clear hk hlt
      generalize pp.1 = px at *
      generalize pp.2 = py at *
      go_upto_region 6 with fail
      go_quiet (fail)
      go_wp2_with fail
      go_roundw
      case rel => exact ⟨k + 1, HK.out, by go_num, HF.out.drewN _⟩
      case measure => have := HK.out; simp [intOf]; omega
    · obtain rfl : k = l.length := by omega
      have l1 : decide (l.length < l.length) = false := by simp
      clear hk hlt hf
      go_wp2_with fail
      go_ret
      exact ⟨rfl, HF.out⟩
end Go.Proofs.YtpcpjmbfinpmlaaDoor
