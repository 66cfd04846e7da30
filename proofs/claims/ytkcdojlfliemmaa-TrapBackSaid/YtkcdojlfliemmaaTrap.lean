/- Contracts of package trap. -/
import Derived.Test.YtkcdojlfliemmaaRegs
import Derived.Deep.CutBlock
import Derived.Deep.CutRange
namespace Go.Proofs.Ytkcdojlfliemmaa
open Go.RowKit
set_option linter.unusedVariables false
attribute [local go_sem] fold0 cv_31 cv_32 cv_33 cv_34 cv_35 cv_36 cv_37 cv_38 cv_39 cv_40 cv_41 cv_42 cv_43 cv_44 cv_45 cv_46 cv_47 cv_48

theorem blk_setSpsr {w : World} {g : Nat} {c : Cr} (h : Blk w g 26 (cv c)) (v : Int) : Blk (w.setCell ⟨g, 40, none⟩ (.int .u64 v)) g 26 (cv { c with Spsr := v }) := (Blk.set_ h 40 _).cast (cv_setSpsr c v)
theorem blk_setElr {w : World} {g : Nat} {c : Cr} (h : Blk w g 26 (cv c)) (v : Int) : Blk (w.setCell ⟨g, 41, none⟩ (.int .u64 v)) g 26 (cv { c with Elr := v }) := (Blk.set_ h 41 _).cast (cv_setElr c v)
theorem blk_setEsr {w : World} {g : Nat} {c : Cr} (h : Blk w g 26 (cv c)) (v : Int) : Blk (w.setCell ⟨g, 42, none⟩ (.int .u64 v)) g 26 (cv { c with Esr := v }) := (Blk.set_ h 42 _).cast (cv_setEsr c v)
theorem blk_setFar {w : World} {g : Nat} {c : Cr} (h : Blk w g 26 (cv c)) (v : Int) : Blk (w.setCell ⟨g, 43, none⟩ (.int .u64 v)) g 26 (cv { c with Far := v }) := (Blk.set_ h 43 _).cast (cv_setFar c v)
theorem blk_setPC {w : World} {g : Nat} {c : Cr} (h : Blk w g 26 (cv c)) (v : Int) : Blk (w.setCell ⟨g, 33, none⟩ (.int .u64 v)) g 26 (cv { c with PC := v }) := (Blk.set_ h 33 _).cast (cv_setPC c v)
theorem blk_setEL {w : World} {g : Nat} {c : Cr} (h : Blk w g 26 (cv c)) (v : Int) : Blk (w.setCell ⟨g, 38, none⟩ (.int .i64 v)) g 26 (cv { c with EL := v }) := (Blk.set_ h 38 _).cast (cv_setEL c v)
theorem blk_setM {w : World} {g : Nat} {c : Cr} (h : Blk w g 26 (cv c)) (v : Bool) : Blk (w.setCell ⟨g, 39, none⟩ (.bool v)) g 26 (cv { c with M := v }) := (Blk.set_ h 39 _).cast (cv_setM c v)
theorem blk_setWait {w : World} {g : Nat} {c : Cr} (h : Blk w g 26 (cv c)) (v : Int) : Blk (w.setCell ⟨g, 47, none⟩ (.int .i64 v)) g 26 (cv { c with Wait := v }) := (Blk.set_ h 47 _).cast (cv_setWait c v)
theorem blk_setEv {w : World} {g : Nat} {c : Cr} (h : Blk w g 26 (cv c)) (v : Bool) : Blk (w.setCell ⟨g, 48, none⟩ (.bool v)) g 26 (cv { c with Ev := v }) := (Blk.set_ h 48 _).cast (cv_setEv c v)

def psM (c : Cr) : Int := if c.M = true then bits .or .u64 (nzP c 4) 128 else nzP c 4
def psF (c : Cr) : Int := if c.EL = 1 then bits .or .u64 (psM c) 5 else psM c
set_option maxHeartbeats 1000000 in
theorem pstate_ok (c : Cr) (w : World) : Calls Try.prog 20 #[.agg (cv c)] w fun e w' => e = .returned (.int .u64 (psF c)) ∧ Fr Nil w w' := by
  cases hm : c.M with
  | true =>
    by_cases he : c.EL = 1
    · have hp : psF c = bits .or .u64 (bits .or .u64 (nzP c 4) 128) 5 := by simp [psF, psM, hm, he]
      have hq : (c.EL == 1) = true := by simp [he]
      have HP := Lib.hid hp
      clear hp
      go_enter Try.func20, Try.ntmps20
      go_wp2_with (refine wpList_load_blk rfl 26 (.tmp 1) rfl w.heap.size rfl _ (Blk.new _ _ _) Try.underlying26 rfl info26 ?_)
      refine (nzcv_ok _ _).mono ?_
      rintro e w2 ⟨rfl, hf⟩
      have hb : Blk w2 w.heap.size 26 (cv c) := Blk.fr0 (Blk.new _ _ _) hf
      have d1 : w2.cell? ⟨w.heap.size, 38, none⟩ = some (.int .i64 c.EL) := hb.cellv (cv_38 c)
      have d2 : w2.cell? ⟨w.heap.size, 39, none⟩ = some (.bool c.M) := hb.cellv (cv_39 c)
      rw [hm] at d2
      have F := ((Fr.refl Nil w).alloc (.cells (cv c) 26)).trans hf
      clear hf hb hm
      go_wp2
      go_ret
      exact ⟨by rw [HP.out]; rfl, F⟩
    · have hp : psF c = bits .or .u64 (nzP c 4) 128 := by simp [psF, psM, hm, he]
      have hq : (c.EL == 1) = false := by simp [he]
      have HP := Lib.hid hp
      clear hp
      go_enter Try.func20, Try.ntmps20
      go_wp2_with (refine wpList_load_blk rfl 26 (.tmp 1) rfl w.heap.size rfl _ (Blk.new _ _ _) Try.underlying26 rfl info26 ?_)
      refine (nzcv_ok _ _).mono ?_
      rintro e w2 ⟨rfl, hf⟩
      have hb : Blk w2 w.heap.size 26 (cv c) := Blk.fr0 (Blk.new _ _ _) hf
      have d1 : w2.cell? ⟨w.heap.size, 38, none⟩ = some (.int .i64 c.EL) := hb.cellv (cv_38 c)
      have d2 : w2.cell? ⟨w.heap.size, 39, none⟩ = some (.bool c.M) := hb.cellv (cv_39 c)
      rw [hm] at d2
      have F := ((Fr.refl Nil w).alloc (.cells (cv c) 26)).trans hf
      clear hf hb hm
      go_wp2
      go_ret
      exact ⟨by rw [HP.out]; rfl, F⟩
  | false =>
    by_cases he : c.EL = 1
    · have hp : psF c = bits .or .u64 (nzP c 4) 5 := by simp [psF, psM, hm, he]
      have hq : (c.EL == 1) = true := by simp [he]
      have HP := Lib.hid hp
      clear hp
      go_enter Try.func20, Try.ntmps20
      go_wp2_with (refine wpList_load_blk rfl 26 (.tmp 1) rfl w.heap.size rfl _ (Blk.new _ _ _) Try.underlying26 rfl info26 ?_)
      refine (nzcv_ok _ _).mono ?_
      rintro e w2 ⟨rfl, hf⟩
      have hb : Blk w2 w.heap.size 26 (cv c) := Blk.fr0 (Blk.new _ _ _) hf
      have d1 : w2.cell? ⟨w.heap.size, 38, none⟩ = some (.int .i64 c.EL) := hb.cellv (cv_38 c)
      have d2 : w2.cell? ⟨w.heap.size, 39, none⟩ = some (.bool c.M) := hb.cellv (cv_39 c)
      rw [hm] at d2
      have F := ((Fr.refl Nil w).alloc (.cells (cv c) 26)).trans hf
      clear hf hb hm
      go_wp2
      go_ret
      exact ⟨by rw [HP.out]; rfl, F⟩
    · have hp : psF c = nzP c 4 := by simp [psF, psM, hm, he]
      have hq : (c.EL == 1) = false := by simp [he]
      have HP := Lib.hid hp
      clear hp
      go_enter Try.func20, Try.ntmps20
      go_wp2_with (refine wpList_load_blk rfl 26 (.tmp 1) rfl w.heap.size rfl _ (Blk.new _ _ _) Try.underlying26 rfl info26 ?_)
      refine (nzcv_ok _ _).mono ?_
      rintro e w2 ⟨rfl, hf⟩
      have hb : Blk w2 w.heap.size 26 (cv c) := Blk.fr0 (Blk.new _ _ _) hf
      have d1 : w2.cell? ⟨w.heap.size, 38, none⟩ = some (.int .i64 c.EL) := hb.cellv (cv_38 c)
      have d2 : w2.cell? ⟨w.heap.size, 39, none⟩ = some (.bool c.M) := hb.cellv (cv_39 c)
      rw [hm] at d2
      have F := ((Fr.refl Nil w).alloc (.cells (cv c) 26)).trans hf
      clear hf hb hm
      go_wp2
      go_ret
      exact ⟨by rw [HP.out]; rfl, F⟩
def mayF (s : Int) : Bool := (bits .andNot .u64 s 4026531999 == 0) && (bits .and .u64 s 31 == 0 || bits .and .u64 s 31 == 5)
theorem may_ok (s : Int) (w : World) : Calls Try.prog 8 #[.int .u64 s] w fun e w' => e = .returned (.bool (mayF s)) ∧ w = w' := by
  go_enter Try.func8, Try.ntmps8
  go_wp2
  all_goals go_ret
  all_goals exact ⟨by simp [mayF, *], rfl⟩
def vecF (c : Cr) : Int := if c.EL = 0 then IntKind.u64.wrap (IntKind.u64.wrap (c.Vbar + 512) + 512) else IntKind.u64.wrap (c.Vbar + 512)
def inB (c : Cr) : Cr := { c with Spsr := psF c, Elr := c.PC }
def inE (c : Cr) (v : Int) : Cr := { c with PC := v, EL := 1, M := true, Wait := 0 }
def in0 (c : Cr) (esr : Int) : Cr := inE { inB c with Esr := esr, Elr := IntKind.u64.wrap (c.PC + 4) } (vecF c)
def in1 (c : Cr) (esr far : Int) : Cr := inE { inB c with Far := far, Esr := esr } (vecF c)
def in2 (c : Cr) (esr : Int) : Cr := inE { inB c with Esr := esr } (vecF c)
def in3 (c : Cr) : Cr := inE (inB c) (IntKind.u64.wrap (vecF c + 128))

set_option maxRecDepth 100000 in
set_option maxHeartbeats 4000000 in
theorem in0_0 (c : Cr) (esr far : Int) (w : World) (h : c.EL = 0) : Calls Try.prog 15 #[.agg (cv c), .int .i64 0, .int .u64 esr, .int .u64 far] w fun e w' => e = .returned (.agg (cv (in0 c esr))) ∧ Fr Nil w w' := by
  have hv : vecF c = IntKind.u64.wrap (IntKind.u64.wrap (c.Vbar + 512) + 512) := by unfold vecF; rw [if_pos h]
  have Hv := Lib.hid hv
  clear hv
  go_enter Try.func15, Try.ntmps15
  go_wp2_with (refine wpList_load_blk rfl 26 (.tmp 4) rfl w.heap.size rfl _ (Blk.alloc (Blk.new _ _ _) _) Try.underlying26 rfl info26 ?_)
  refine (pstate_ok _ _).mono ?_
  rintro e w2 ⟨rfl, hf⟩
  have hb : Blk w2 w.heap.size 26 (cv c) := Blk.fr0 (Blk.alloc (Blk.new _ _ _) _) hf
  have hr : Blk w2 (w.heap.size + 1) 26 (cv zeroC) := Blk.fr0 (Blk.new2 _ _ _ _) hf
  have F := (((Fr.refl Nil w).alloc (.cells (cv c) 26)).alloc (.cells (cv zeroC) 26)).trans hf
  have hne : w.heap.size + 1 ≠ w.heap.size := by omega
  have d33 : w2.cell? ⟨w.heap.size, 33, none⟩ = some (.int .u64 c.PC) := hb.cellv (cv_33 c)
  have f33 : w2.frozen? ⟨w.heap.size, 33, none⟩ = false := hb.frozen _
  have d38 : w2.cell? ⟨w.heap.size, 38, none⟩ = some (.int .i64 c.EL) := hb.cellv (cv_38 c)
  have f38 : w2.frozen? ⟨w.heap.size, 38, none⟩ = false := hb.frozen _
  have d39 : w2.cell? ⟨w.heap.size, 39, none⟩ = some (.bool c.M) := hb.cellv (cv_39 c)
  have f39 : w2.frozen? ⟨w.heap.size, 39, none⟩ = false := hb.frozen _
  have d40 : w2.cell? ⟨w.heap.size, 40, none⟩ = some (.int .u64 c.Spsr) := hb.cellv (cv_40 c)
  have f40 : w2.frozen? ⟨w.heap.size, 40, none⟩ = false := hb.frozen _
  have d41 : w2.cell? ⟨w.heap.size, 41, none⟩ = some (.int .u64 c.Elr) := hb.cellv (cv_41 c)
  have f41 : w2.frozen? ⟨w.heap.size, 41, none⟩ = false := hb.frozen _
  have d42 : w2.cell? ⟨w.heap.size, 42, none⟩ = some (.int .u64 c.Esr) := hb.cellv (cv_42 c)
  have f42 : w2.frozen? ⟨w.heap.size, 42, none⟩ = false := hb.frozen _
  have d43 : w2.cell? ⟨w.heap.size, 43, none⟩ = some (.int .u64 c.Far) := hb.cellv (cv_43 c)
  have f43 : w2.frozen? ⟨w.heap.size, 43, none⟩ = false := hb.frozen _
  have d47 : w2.cell? ⟨w.heap.size, 47, none⟩ = some (.int .i64 c.Wait) := hb.cellv (cv_47 c)
  have f47 : w2.frozen? ⟨w.heap.size, 47, none⟩ = false := hb.frozen _
  clear hf
  go_upto_region 16 with fail
  go_cut [10] from 11 to 52 (fun _ wx => Blk wx w.heap.size 26 (cv (in0 c esr)) ∧ Blk wx (w.heap.size + 1) 26 (cv zeroC) ∧ Fr Nil w wx)
  case first =>
    go_wp2_with fail
    go_meet
    have H1 := (blk_setWait (blk_setM (blk_setEL (blk_setPC (blk_setElr (blk_setEsr (blk_setElr (blk_setSpsr hb (psF c)) c.PC) esr) (IntKind.u64.wrap (c.PC + 4))) (IntKind.u64.wrap (IntKind.u64.wrap (c.Vbar + 512) + 512))) 1) true) 0)
    have H2 := (Blk.farc (b := w.heap.size) (i := 47) (Blk.farc (b := w.heap.size) (i := 39) (Blk.farc (b := w.heap.size) (i := 38) (Blk.farc (b := w.heap.size) (i := 33) (Blk.farc (b := w.heap.size) (i := 41) (Blk.farc (b := w.heap.size) (i := 42) (Blk.farc (b := w.heap.size) (i := 41) (Blk.farc (b := w.heap.size) (i := 40) hr hne (.int .u64 (psF c))) hne (.int .u64 c.PC)) hne (.int .u64 esr)) hne (.int .u64 (IntKind.u64.wrap (c.PC + 4)))) hne (.int .u64 (IntKind.u64.wrap (IntKind.u64.wrap (c.Vbar + 512) + 512)))) hne (.int .i64 1)) hne (.bool true)) hne (.int .i64 0))
    have H3 := (Fr.setNew (g := w.heap.size) (i := 47) (Fr.setNew (g := w.heap.size) (i := 39) (Fr.setNew (g := w.heap.size) (i := 38) (Fr.setNew (g := w.heap.size) (i := 33) (Fr.setNew (g := w.heap.size) (i := 41) (Fr.setNew (g := w.heap.size) (i := 42) (Fr.setNew (g := w.heap.size) (i := 41) (Fr.setNew (g := w.heap.size) (i := 40) F (Nat.le_refl _) (.int .u64 (psF c))) (Nat.le_refl _) (.int .u64 c.PC)) (Nat.le_refl _) (.int .u64 esr)) (Nat.le_refl _) (.int .u64 (IntKind.u64.wrap (c.PC + 4)))) (Nat.le_refl _) (.int .u64 (IntKind.u64.wrap (IntKind.u64.wrap (c.Vbar + 512) + 512)))) (Nat.le_refl _) (.int .i64 1)) (Nat.le_refl _) (.bool true)) (Nat.le_refl _) (.int .i64 0))
    have e2 : in0 c esr = ({ ({ ({ ({ ({ ({ ({ ({ c with Spsr := (psF c) } : Cr) with Elr := c.PC } : Cr) with Esr := esr } : Cr) with Elr := (IntKind.u64.wrap (c.PC + 4)) } : Cr) with PC := (IntKind.u64.wrap (IntKind.u64.wrap (c.Vbar + 512) + 512)) } : Cr) with EL := 1 } : Cr) with M := true } : Cr) with Wait := 0 } : Cr) := by
      unfold in0 inE inB
      rw [Hv.out]
    rw [e2]
    exact ⟨H1, H2, H3⟩
  case rest =>
    obtain ⟨hb, hr, F⟩ := hcut
    go_wp2_with (first
      | (refine wpList_load_blk rfl 26 (.tmp 4) rfl w.heap.size rfl _ hb Try.underlying26 rfl info26 ?_)
      | (refine wpList_store_blk0 rfl 26 (.tmp 8) (.tmp 52) rfl (w.heap.size + 1) rfl _ rfl hr info26 rfl (one_cv _) ?_; intro w3 hf3 hb3))
    refine bodyPost_ret (results_cell_one (p := 8) (ty := 26) rfl _ _ (w.heap.size + 1) _ _ rfl hb3 Try.underlying26 rfl info26) rfl ?_
    exact ⟨rfl, F.own1 hf3 (by omega)⟩

set_option maxRecDepth 100000 in
set_option maxHeartbeats 4000000 in
theorem in0_1 (c : Cr) (esr far : Int) (w : World) (h : ¬ c.EL = 0) : Calls Try.prog 15 #[.agg (cv c), .int .i64 0, .int .u64 esr, .int .u64 far] w fun e w' => e = .returned (.agg (cv (in0 c esr))) ∧ Fr Nil w w' := by
  have hv : vecF c = IntKind.u64.wrap (c.Vbar + 512) := by unfold vecF; rw [if_neg h]
  have Hv := Lib.hid hv
  clear hv
  go_enter Try.func15, Try.ntmps15
  go_wp2_with (refine wpList_load_blk rfl 26 (.tmp 4) rfl w.heap.size rfl _ (Blk.alloc (Blk.new _ _ _) _) Try.underlying26 rfl info26 ?_)
  refine (pstate_ok _ _).mono ?_
  rintro e w2 ⟨rfl, hf⟩
  have hb : Blk w2 w.heap.size 26 (cv c) := Blk.fr0 (Blk.alloc (Blk.new _ _ _) _) hf
  have hr : Blk w2 (w.heap.size + 1) 26 (cv zeroC) := Blk.fr0 (Blk.new2 _ _ _ _) hf
  have F := (((Fr.refl Nil w).alloc (.cells (cv c) 26)).alloc (.cells (cv zeroC) 26)).trans hf
  have hne : w.heap.size + 1 ≠ w.heap.size := by omega
  have d33 : w2.cell? ⟨w.heap.size, 33, none⟩ = some (.int .u64 c.PC) := hb.cellv (cv_33 c)
  have f33 : w2.frozen? ⟨w.heap.size, 33, none⟩ = false := hb.frozen _
  have d38 : w2.cell? ⟨w.heap.size, 38, none⟩ = some (.int .i64 c.EL) := hb.cellv (cv_38 c)
  have f38 : w2.frozen? ⟨w.heap.size, 38, none⟩ = false := hb.frozen _
  have d39 : w2.cell? ⟨w.heap.size, 39, none⟩ = some (.bool c.M) := hb.cellv (cv_39 c)
  have f39 : w2.frozen? ⟨w.heap.size, 39, none⟩ = false := hb.frozen _
  have d40 : w2.cell? ⟨w.heap.size, 40, none⟩ = some (.int .u64 c.Spsr) := hb.cellv (cv_40 c)
  have f40 : w2.frozen? ⟨w.heap.size, 40, none⟩ = false := hb.frozen _
  have d41 : w2.cell? ⟨w.heap.size, 41, none⟩ = some (.int .u64 c.Elr) := hb.cellv (cv_41 c)
  have f41 : w2.frozen? ⟨w.heap.size, 41, none⟩ = false := hb.frozen _
  have d42 : w2.cell? ⟨w.heap.size, 42, none⟩ = some (.int .u64 c.Esr) := hb.cellv (cv_42 c)
  have f42 : w2.frozen? ⟨w.heap.size, 42, none⟩ = false := hb.frozen _
  have d43 : w2.cell? ⟨w.heap.size, 43, none⟩ = some (.int .u64 c.Far) := hb.cellv (cv_43 c)
  have f43 : w2.frozen? ⟨w.heap.size, 43, none⟩ = false := hb.frozen _
  have d47 : w2.cell? ⟨w.heap.size, 47, none⟩ = some (.int .i64 c.Wait) := hb.cellv (cv_47 c)
  have f47 : w2.frozen? ⟨w.heap.size, 47, none⟩ = false := hb.frozen _
  clear hf
  go_upto_region 16 with fail
  go_cut [10] from 11 to 52 (fun _ wx => Blk wx w.heap.size 26 (cv (in0 c esr)) ∧ Blk wx (w.heap.size + 1) 26 (cv zeroC) ∧ Fr Nil w wx)
  case first =>
    go_wp2_with fail
    go_meet
    have H1 := (blk_setWait (blk_setM (blk_setEL (blk_setPC (blk_setElr (blk_setEsr (blk_setElr (blk_setSpsr hb (psF c)) c.PC) esr) (IntKind.u64.wrap (c.PC + 4))) (IntKind.u64.wrap (c.Vbar + 512))) 1) true) 0)
    have H2 := (Blk.farc (b := w.heap.size) (i := 47) (Blk.farc (b := w.heap.size) (i := 39) (Blk.farc (b := w.heap.size) (i := 38) (Blk.farc (b := w.heap.size) (i := 33) (Blk.farc (b := w.heap.size) (i := 41) (Blk.farc (b := w.heap.size) (i := 42) (Blk.farc (b := w.heap.size) (i := 41) (Blk.farc (b := w.heap.size) (i := 40) hr hne (.int .u64 (psF c))) hne (.int .u64 c.PC)) hne (.int .u64 esr)) hne (.int .u64 (IntKind.u64.wrap (c.PC + 4)))) hne (.int .u64 (IntKind.u64.wrap (c.Vbar + 512)))) hne (.int .i64 1)) hne (.bool true)) hne (.int .i64 0))
    have H3 := (Fr.setNew (g := w.heap.size) (i := 47) (Fr.setNew (g := w.heap.size) (i := 39) (Fr.setNew (g := w.heap.size) (i := 38) (Fr.setNew (g := w.heap.size) (i := 33) (Fr.setNew (g := w.heap.size) (i := 41) (Fr.setNew (g := w.heap.size) (i := 42) (Fr.setNew (g := w.heap.size) (i := 41) (Fr.setNew (g := w.heap.size) (i := 40) F (Nat.le_refl _) (.int .u64 (psF c))) (Nat.le_refl _) (.int .u64 c.PC)) (Nat.le_refl _) (.int .u64 esr)) (Nat.le_refl _) (.int .u64 (IntKind.u64.wrap (c.PC + 4)))) (Nat.le_refl _) (.int .u64 (IntKind.u64.wrap (c.Vbar + 512)))) (Nat.le_refl _) (.int .i64 1)) (Nat.le_refl _) (.bool true)) (Nat.le_refl _) (.int .i64 0))
    have e2 : in0 c esr = ({ ({ ({ ({ ({ ({ ({ ({ c with Spsr := (psF c) } : Cr) with Elr := c.PC } : Cr) with Esr := esr } : Cr) with Elr := (IntKind.u64.wrap (c.PC + 4)) } : Cr) with PC := (IntKind.u64.wrap (c.Vbar + 512)) } : Cr) with EL := 1 } : Cr) with M := true } : Cr) with Wait := 0 } : Cr) := by
      unfold in0 inE inB
      rw [Hv.out]
    rw [e2]
    exact ⟨H1, H2, H3⟩
  case rest =>
    obtain ⟨hb, hr, F⟩ := hcut
    go_wp2_with (first
      | (refine wpList_load_blk rfl 26 (.tmp 4) rfl w.heap.size rfl _ hb Try.underlying26 rfl info26 ?_)
      | (refine wpList_store_blk0 rfl 26 (.tmp 8) (.tmp 52) rfl (w.heap.size + 1) rfl _ rfl hr info26 rfl (one_cv _) ?_; intro w3 hf3 hb3))
    refine bodyPost_ret (results_cell_one (p := 8) (ty := 26) rfl _ _ (w.heap.size + 1) _ _ rfl hb3 Try.underlying26 rfl info26) rfl ?_
    exact ⟨rfl, F.own1 hf3 (by omega)⟩

set_option maxRecDepth 100000 in
set_option maxHeartbeats 4000000 in
theorem in1_0 (c : Cr) (esr far : Int) (w : World) (h : c.EL = 0) : Calls Try.prog 15 #[.agg (cv c), .int .i64 1, .int .u64 esr, .int .u64 far] w fun e w' => e = .returned (.agg (cv (in1 c esr far))) ∧ Fr Nil w w' := by
  have hv : vecF c = IntKind.u64.wrap (IntKind.u64.wrap (c.Vbar + 512) + 512) := by unfold vecF; rw [if_pos h]
  have Hv := Lib.hid hv
  clear hv
  go_enter Try.func15, Try.ntmps15
  go_wp2_with (refine wpList_load_blk rfl 26 (.tmp 4) rfl w.heap.size rfl _ (Blk.alloc (Blk.new _ _ _) _) Try.underlying26 rfl info26 ?_)
  refine (pstate_ok _ _).mono ?_
  rintro e w2 ⟨rfl, hf⟩
  have hb : Blk w2 w.heap.size 26 (cv c) := Blk.fr0 (Blk.alloc (Blk.new _ _ _) _) hf
  have hr : Blk w2 (w.heap.size + 1) 26 (cv zeroC) := Blk.fr0 (Blk.new2 _ _ _ _) hf
  have F := (((Fr.refl Nil w).alloc (.cells (cv c) 26)).alloc (.cells (cv zeroC) 26)).trans hf
  have hne : w.heap.size + 1 ≠ w.heap.size := by omega
  have d33 : w2.cell? ⟨w.heap.size, 33, none⟩ = some (.int .u64 c.PC) := hb.cellv (cv_33 c)
  have f33 : w2.frozen? ⟨w.heap.size, 33, none⟩ = false := hb.frozen _
  have d38 : w2.cell? ⟨w.heap.size, 38, none⟩ = some (.int .i64 c.EL) := hb.cellv (cv_38 c)
  have f38 : w2.frozen? ⟨w.heap.size, 38, none⟩ = false := hb.frozen _
  have d39 : w2.cell? ⟨w.heap.size, 39, none⟩ = some (.bool c.M) := hb.cellv (cv_39 c)
  have f39 : w2.frozen? ⟨w.heap.size, 39, none⟩ = false := hb.frozen _
  have d40 : w2.cell? ⟨w.heap.size, 40, none⟩ = some (.int .u64 c.Spsr) := hb.cellv (cv_40 c)
  have f40 : w2.frozen? ⟨w.heap.size, 40, none⟩ = false := hb.frozen _
  have d41 : w2.cell? ⟨w.heap.size, 41, none⟩ = some (.int .u64 c.Elr) := hb.cellv (cv_41 c)
  have f41 : w2.frozen? ⟨w.heap.size, 41, none⟩ = false := hb.frozen _
  have d42 : w2.cell? ⟨w.heap.size, 42, none⟩ = some (.int .u64 c.Esr) := hb.cellv (cv_42 c)
  have f42 : w2.frozen? ⟨w.heap.size, 42, none⟩ = false := hb.frozen _
  have d43 : w2.cell? ⟨w.heap.size, 43, none⟩ = some (.int .u64 c.Far) := hb.cellv (cv_43 c)
  have f43 : w2.frozen? ⟨w.heap.size, 43, none⟩ = false := hb.frozen _
  have d47 : w2.cell? ⟨w.heap.size, 47, none⟩ = some (.int .i64 c.Wait) := hb.cellv (cv_47 c)
  have f47 : w2.frozen? ⟨w.heap.size, 47, none⟩ = false := hb.frozen _
  clear hf
  go_upto_region 16 with fail
  go_cut [10] from 11 to 52 (fun _ wx => Blk wx w.heap.size 26 (cv (in1 c esr far)) ∧ Blk wx (w.heap.size + 1) 26 (cv zeroC) ∧ Fr Nil w wx)
  case first =>
    go_wp2_with fail
    go_meet
    have H1 := (blk_setWait (blk_setM (blk_setEL (blk_setPC (blk_setEsr (blk_setFar (blk_setElr (blk_setSpsr hb (psF c)) c.PC) far) esr) (IntKind.u64.wrap (IntKind.u64.wrap (c.Vbar + 512) + 512))) 1) true) 0)
    have H2 := (Blk.farc (b := w.heap.size) (i := 47) (Blk.farc (b := w.heap.size) (i := 39) (Blk.farc (b := w.heap.size) (i := 38) (Blk.farc (b := w.heap.size) (i := 33) (Blk.farc (b := w.heap.size) (i := 42) (Blk.farc (b := w.heap.size) (i := 43) (Blk.farc (b := w.heap.size) (i := 41) (Blk.farc (b := w.heap.size) (i := 40) hr hne (.int .u64 (psF c))) hne (.int .u64 c.PC)) hne (.int .u64 far)) hne (.int .u64 esr)) hne (.int .u64 (IntKind.u64.wrap (IntKind.u64.wrap (c.Vbar + 512) + 512)))) hne (.int .i64 1)) hne (.bool true)) hne (.int .i64 0))
    have H3 := (Fr.setNew (g := w.heap.size) (i := 47) (Fr.setNew (g := w.heap.size) (i := 39) (Fr.setNew (g := w.heap.size) (i := 38) (Fr.setNew (g := w.heap.size) (i := 33) (Fr.setNew (g := w.heap.size) (i := 42) (Fr.setNew (g := w.heap.size) (i := 43) (Fr.setNew (g := w.heap.size) (i := 41) (Fr.setNew (g := w.heap.size) (i := 40) F (Nat.le_refl _) (.int .u64 (psF c))) (Nat.le_refl _) (.int .u64 c.PC)) (Nat.le_refl _) (.int .u64 far)) (Nat.le_refl _) (.int .u64 esr)) (Nat.le_refl _) (.int .u64 (IntKind.u64.wrap (IntKind.u64.wrap (c.Vbar + 512) + 512)))) (Nat.le_refl _) (.int .i64 1)) (Nat.le_refl _) (.bool true)) (Nat.le_refl _) (.int .i64 0))
    have e2 : in1 c esr far = ({ ({ ({ ({ ({ ({ ({ ({ c with Spsr := (psF c) } : Cr) with Elr := c.PC } : Cr) with Far := far } : Cr) with Esr := esr } : Cr) with PC := (IntKind.u64.wrap (IntKind.u64.wrap (c.Vbar + 512) + 512)) } : Cr) with EL := 1 } : Cr) with M := true } : Cr) with Wait := 0 } : Cr) := by
      unfold in1 inE inB
      rw [Hv.out]
    rw [e2]
    exact ⟨H1, H2, H3⟩
  case rest =>
    obtain ⟨hb, hr, F⟩ := hcut
    go_wp2_with (first
      | (refine wpList_load_blk rfl 26 (.tmp 4) rfl w.heap.size rfl _ hb Try.underlying26 rfl info26 ?_)
      | (refine wpList_store_blk0 rfl 26 (.tmp 8) (.tmp 52) rfl (w.heap.size + 1) rfl _ rfl hr info26 rfl (one_cv _) ?_; intro w3 hf3 hb3))
    refine bodyPost_ret (results_cell_one (p := 8) (ty := 26) rfl _ _ (w.heap.size + 1) _ _ rfl hb3 Try.underlying26 rfl info26) rfl ?_
    exact ⟨rfl, F.own1 hf3 (by omega)⟩

set_option maxRecDepth 100000 in
set_option maxHeartbeats 4000000 in
theorem in1_1 (c : Cr) (esr far : Int) (w : World) (h : ¬ c.EL = 0) : Calls Try.prog 15 #[.agg (cv c), .int .i64 1, .int .u64 esr, .int .u64 far] w fun e w' => e = .returned (.agg (cv (in1 c esr far))) ∧ Fr Nil w w' := by
  have hv : vecF c = IntKind.u64.wrap (c.Vbar + 512) := by unfold vecF; rw [if_neg h]
  have Hv := Lib.hid hv
  clear hv
  go_enter Try.func15, Try.ntmps15
  go_wp2_with (refine wpList_load_blk rfl 26 (.tmp 4) rfl w.heap.size rfl _ (Blk.alloc (Blk.new _ _ _) _) Try.underlying26 rfl info26 ?_)
  refine (pstate_ok _ _).mono ?_
  rintro e w2 ⟨rfl, hf⟩
  have hb : Blk w2 w.heap.size 26 (cv c) := Blk.fr0 (Blk.alloc (Blk.new _ _ _) _) hf
  have hr : Blk w2 (w.heap.size + 1) 26 (cv zeroC) := Blk.fr0 (Blk.new2 _ _ _ _) hf
  have F := (((Fr.refl Nil w).alloc (.cells (cv c) 26)).alloc (.cells (cv zeroC) 26)).trans hf
  have hne : w.heap.size + 1 ≠ w.heap.size := by omega
  have d33 : w2.cell? ⟨w.heap.size, 33, none⟩ = some (.int .u64 c.PC) := hb.cellv (cv_33 c)
  have f33 : w2.frozen? ⟨w.heap.size, 33, none⟩ = false := hb.frozen _
  have d38 : w2.cell? ⟨w.heap.size, 38, none⟩ = some (.int .i64 c.EL) := hb.cellv (cv_38 c)
  have f38 : w2.frozen? ⟨w.heap.size, 38, none⟩ = false := hb.frozen _
  have d39 : w2.cell? ⟨w.heap.size, 39, none⟩ = some (.bool c.M) := hb.cellv (cv_39 c)
  have f39 : w2.frozen? ⟨w.heap.size, 39, none⟩ = false := hb.frozen _
  have d40 : w2.cell? ⟨w.heap.size, 40, none⟩ = some (.int .u64 c.Spsr) := hb.cellv (cv_40 c)
  have f40 : w2.frozen? ⟨w.heap.size, 40, none⟩ = false := hb.frozen _
  have d41 : w2.cell? ⟨w.heap.size, 41, none⟩ = some (.int .u64 c.Elr) := hb.cellv (cv_41 c)
  have f41 : w2.frozen? ⟨w.heap.size, 41, none⟩ = false := hb.frozen _
  have d42 : w2.cell? ⟨w.heap.size, 42, none⟩ = some (.int .u64 c.Esr) := hb.cellv (cv_42 c)
  have f42 : w2.frozen? ⟨w.heap.size, 42, none⟩ = false := hb.frozen _
  have d43 : w2.cell? ⟨w.heap.size, 43, none⟩ = some (.int .u64 c.Far) := hb.cellv (cv_43 c)
  have f43 : w2.frozen? ⟨w.heap.size, 43, none⟩ = false := hb.frozen _
  have d47 : w2.cell? ⟨w.heap.size, 47, none⟩ = some (.int .i64 c.Wait) := hb.cellv (cv_47 c)
  have f47 : w2.frozen? ⟨w.heap.size, 47, none⟩ = false := hb.frozen _
  clear hf
  go_upto_region 16 with fail
  go_cut [10] from 11 to 52 (fun _ wx => Blk wx w.heap.size 26 (cv (in1 c esr far)) ∧ Blk wx (w.heap.size + 1) 26 (cv zeroC) ∧ Fr Nil w wx)
  case first =>
    go_wp2_with fail
    go_meet
    have H1 := (blk_setWait (blk_setM (blk_setEL (blk_setPC (blk_setEsr (blk_setFar (blk_setElr (blk_setSpsr hb (psF c)) c.PC) far) esr) (IntKind.u64.wrap (c.Vbar + 512))) 1) true) 0)
    have H2 := (Blk.farc (b := w.heap.size) (i := 47) (Blk.farc (b := w.heap.size) (i := 39) (Blk.farc (b := w.heap.size) (i := 38) (Blk.farc (b := w.heap.size) (i := 33) (Blk.farc (b := w.heap.size) (i := 42) (Blk.farc (b := w.heap.size) (i := 43) (Blk.farc (b := w.heap.size) (i := 41) (Blk.farc (b := w.heap.size) (i := 40) hr hne (.int .u64 (psF c))) hne (.int .u64 c.PC)) hne (.int .u64 far)) hne (.int .u64 esr)) hne (.int .u64 (IntKind.u64.wrap (c.Vbar + 512)))) hne (.int .i64 1)) hne (.bool true)) hne (.int .i64 0))
    have H3 := (Fr.setNew (g := w.heap.size) (i := 47) (Fr.setNew (g := w.heap.size) (i := 39) (Fr.setNew (g := w.heap.size) (i := 38) (Fr.setNew (g := w.heap.size) (i := 33) (Fr.setNew (g := w.heap.size) (i := 42) (Fr.setNew (g := w.heap.size) (i := 43) (Fr.setNew (g := w.heap.size) (i := 41) (Fr.setNew (g := w.heap.size) (i := 40) F (Nat.le_refl _) (.int .u64 (psF c))) (Nat.le_refl _) (.int .u64 c.PC)) (Nat.le_refl _) (.int .u64 far)) (Nat.le_refl _) (.int .u64 esr)) (Nat.le_refl _) (.int .u64 (IntKind.u64.wrap (c.Vbar + 512)))) (Nat.le_refl _) (.int .i64 1)) (Nat.le_refl _) (.bool true)) (Nat.le_refl _) (.int .i64 0))
    have e2 : in1 c esr far = ({ ({ ({ ({ ({ ({ ({ ({ c with Spsr := (psF c) } : Cr) with Elr := c.PC } : Cr) with Far := far } : Cr) with Esr := esr } : Cr) with PC := (IntKind.u64.wrap (c.Vbar + 512)) } : Cr) with EL := 1 } : Cr) with M := true } : Cr) with Wait := 0 } : Cr) := by
      unfold in1 inE inB
      rw [Hv.out]
    rw [e2]
    exact ⟨H1, H2, H3⟩
  case rest =>
    obtain ⟨hb, hr, F⟩ := hcut
    go_wp2_with (first
      | (refine wpList_load_blk rfl 26 (.tmp 4) rfl w.heap.size rfl _ hb Try.underlying26 rfl info26 ?_)
      | (refine wpList_store_blk0 rfl 26 (.tmp 8) (.tmp 52) rfl (w.heap.size + 1) rfl _ rfl hr info26 rfl (one_cv _) ?_; intro w3 hf3 hb3))
    refine bodyPost_ret (results_cell_one (p := 8) (ty := 26) rfl _ _ (w.heap.size + 1) _ _ rfl hb3 Try.underlying26 rfl info26) rfl ?_
    exact ⟨rfl, F.own1 hf3 (by omega)⟩

set_option maxRecDepth 100000 in
set_option maxHeartbeats 4000000 in
theorem in2_0 (c : Cr) (esr far : Int) (w : World) (h : c.EL = 0) : Calls Try.prog 15 #[.agg (cv c), .int .i64 2, .int .u64 esr, .int .u64 far] w fun e w' => e = .returned (.agg (cv (in2 c esr))) ∧ Fr Nil w w' := by
  have hv : vecF c = IntKind.u64.wrap (IntKind.u64.wrap (c.Vbar + 512) + 512) := by unfold vecF; rw [if_pos h]
  have Hv := Lib.hid hv
  clear hv
  go_enter Try.func15, Try.ntmps15
  go_wp2_with (refine wpList_load_blk rfl 26 (.tmp 4) rfl w.heap.size rfl _ (Blk.alloc (Blk.new _ _ _) _) Try.underlying26 rfl info26 ?_)
  refine (pstate_ok _ _).mono ?_
  rintro e w2 ⟨rfl, hf⟩
  have hb : Blk w2 w.heap.size 26 (cv c) := Blk.fr0 (Blk.alloc (Blk.new _ _ _) _) hf
  have hr : Blk w2 (w.heap.size + 1) 26 (cv zeroC) := Blk.fr0 (Blk.new2 _ _ _ _) hf
  have F := (((Fr.refl Nil w).alloc (.cells (cv c) 26)).alloc (.cells (cv zeroC) 26)).trans hf
  have hne : w.heap.size + 1 ≠ w.heap.size := by omega
  have d33 : w2.cell? ⟨w.heap.size, 33, none⟩ = some (.int .u64 c.PC) := hb.cellv (cv_33 c)
  have f33 : w2.frozen? ⟨w.heap.size, 33, none⟩ = false := hb.frozen _
  have d38 : w2.cell? ⟨w.heap.size, 38, none⟩ = some (.int .i64 c.EL) := hb.cellv (cv_38 c)
  have f38 : w2.frozen? ⟨w.heap.size, 38, none⟩ = false := hb.frozen _
  have d39 : w2.cell? ⟨w.heap.size, 39, none⟩ = some (.bool c.M) := hb.cellv (cv_39 c)
  have f39 : w2.frozen? ⟨w.heap.size, 39, none⟩ = false := hb.frozen _
  have d40 : w2.cell? ⟨w.heap.size, 40, none⟩ = some (.int .u64 c.Spsr) := hb.cellv (cv_40 c)
  have f40 : w2.frozen? ⟨w.heap.size, 40, none⟩ = false := hb.frozen _
  have d41 : w2.cell? ⟨w.heap.size, 41, none⟩ = some (.int .u64 c.Elr) := hb.cellv (cv_41 c)
  have f41 : w2.frozen? ⟨w.heap.size, 41, none⟩ = false := hb.frozen _
  have d42 : w2.cell? ⟨w.heap.size, 42, none⟩ = some (.int .u64 c.Esr) := hb.cellv (cv_42 c)
  have f42 : w2.frozen? ⟨w.heap.size, 42, none⟩ = false := hb.frozen _
  have d43 : w2.cell? ⟨w.heap.size, 43, none⟩ = some (.int .u64 c.Far) := hb.cellv (cv_43 c)
  have f43 : w2.frozen? ⟨w.heap.size, 43, none⟩ = false := hb.frozen _
  have d47 : w2.cell? ⟨w.heap.size, 47, none⟩ = some (.int .i64 c.Wait) := hb.cellv (cv_47 c)
  have f47 : w2.frozen? ⟨w.heap.size, 47, none⟩ = false := hb.frozen _
  clear hf
  go_upto_region 16 with fail
  go_cut [10] from 11 to 52 (fun _ wx => Blk wx w.heap.size 26 (cv (in2 c esr)) ∧ Blk wx (w.heap.size + 1) 26 (cv zeroC) ∧ Fr Nil w wx)
  case first =>
    go_wp2_with fail
    go_meet
    have H1 := (blk_setWait (blk_setM (blk_setEL (blk_setPC (blk_setEsr (blk_setElr (blk_setSpsr hb (psF c)) c.PC) esr) (IntKind.u64.wrap (IntKind.u64.wrap (c.Vbar + 512) + 512))) 1) true) 0)
    have H2 := (Blk.farc (b := w.heap.size) (i := 47) (Blk.farc (b := w.heap.size) (i := 39) (Blk.farc (b := w.heap.size) (i := 38) (Blk.farc (b := w.heap.size) (i := 33) (Blk.farc (b := w.heap.size) (i := 42) (Blk.farc (b := w.heap.size) (i := 41) (Blk.farc (b := w.heap.size) (i := 40) hr hne (.int .u64 (psF c))) hne (.int .u64 c.PC)) hne (.int .u64 esr)) hne (.int .u64 (IntKind.u64.wrap (IntKind.u64.wrap (c.Vbar + 512) + 512)))) hne (.int .i64 1)) hne (.bool true)) hne (.int .i64 0))
    have H3 := (Fr.setNew (g := w.heap.size) (i := 47) (Fr.setNew (g := w.heap.size) (i := 39) (Fr.setNew (g := w.heap.size) (i := 38) (Fr.setNew (g := w.heap.size) (i := 33) (Fr.setNew (g := w.heap.size) (i := 42) (Fr.setNew (g := w.heap.size) (i := 41) (Fr.setNew (g := w.heap.size) (i := 40) F (Nat.le_refl _) (.int .u64 (psF c))) (Nat.le_refl _) (.int .u64 c.PC)) (Nat.le_refl _) (.int .u64 esr)) (Nat.le_refl _) (.int .u64 (IntKind.u64.wrap (IntKind.u64.wrap (c.Vbar + 512) + 512)))) (Nat.le_refl _) (.int .i64 1)) (Nat.le_refl _) (.bool true)) (Nat.le_refl _) (.int .i64 0))
    have e2 : in2 c esr = ({ ({ ({ ({ ({ ({ ({ c with Spsr := (psF c) } : Cr) with Elr := c.PC } : Cr) with Esr := esr } : Cr) with PC := (IntKind.u64.wrap (IntKind.u64.wrap (c.Vbar + 512) + 512)) } : Cr) with EL := 1 } : Cr) with M := true } : Cr) with Wait := 0 } : Cr) := by
      unfold in2 inE inB
      rw [Hv.out]
    rw [e2]
    exact ⟨H1, H2, H3⟩
  case rest =>
    obtain ⟨hb, hr, F⟩ := hcut
    go_wp2_with (first
      | (refine wpList_load_blk rfl 26 (.tmp 4) rfl w.heap.size rfl _ hb Try.underlying26 rfl info26 ?_)
      | (refine wpList_store_blk0 rfl 26 (.tmp 8) (.tmp 52) rfl (w.heap.size + 1) rfl _ rfl hr info26 rfl (one_cv _) ?_; intro w3 hf3 hb3))
    refine bodyPost_ret (results_cell_one (p := 8) (ty := 26) rfl _ _ (w.heap.size + 1) _ _ rfl hb3 Try.underlying26 rfl info26) rfl ?_
    exact ⟨rfl, F.own1 hf3 (by omega)⟩

set_option maxRecDepth 100000 in
set_option maxHeartbeats 4000000 in
theorem in2_1 (c : Cr) (esr far : Int) (w : World) (h : ¬ c.EL = 0) : Calls Try.prog 15 #[.agg (cv c), .int .i64 2, .int .u64 esr, .int .u64 far] w fun e w' => e = .returned (.agg (cv (in2 c esr))) ∧ Fr Nil w w' := by
  have hv : vecF c = IntKind.u64.wrap (c.Vbar + 512) := by unfold vecF; rw [if_neg h]
  have Hv := Lib.hid hv
  clear hv
  go_enter Try.func15, Try.ntmps15
  go_wp2_with (refine wpList_load_blk rfl 26 (.tmp 4) rfl w.heap.size rfl _ (Blk.alloc (Blk.new _ _ _) _) Try.underlying26 rfl info26 ?_)
  refine (pstate_ok _ _).mono ?_
  rintro e w2 ⟨rfl, hf⟩
  have hb : Blk w2 w.heap.size 26 (cv c) := Blk.fr0 (Blk.alloc (Blk.new _ _ _) _) hf
  have hr : Blk w2 (w.heap.size + 1) 26 (cv zeroC) := Blk.fr0 (Blk.new2 _ _ _ _) hf
  have F := (((Fr.refl Nil w).alloc (.cells (cv c) 26)).alloc (.cells (cv zeroC) 26)).trans hf
  have hne : w.heap.size + 1 ≠ w.heap.size := by omega
  have d33 : w2.cell? ⟨w.heap.size, 33, none⟩ = some (.int .u64 c.PC) := hb.cellv (cv_33 c)
  have f33 : w2.frozen? ⟨w.heap.size, 33, none⟩ = false := hb.frozen _
  have d38 : w2.cell? ⟨w.heap.size, 38, none⟩ = some (.int .i64 c.EL) := hb.cellv (cv_38 c)
  have f38 : w2.frozen? ⟨w.heap.size, 38, none⟩ = false := hb.frozen _
  have d39 : w2.cell? ⟨w.heap.size, 39, none⟩ = some (.bool c.M) := hb.cellv (cv_39 c)
  have f39 : w2.frozen? ⟨w.heap.size, 39, none⟩ = false := hb.frozen _
  have d40 : w2.cell? ⟨w.heap.size, 40, none⟩ = some (.int .u64 c.Spsr) := hb.cellv (cv_40 c)
  have f40 : w2.frozen? ⟨w.heap.size, 40, none⟩ = false := hb.frozen _
  have d41 : w2.cell? ⟨w.heap.size, 41, none⟩ = some (.int .u64 c.Elr) := hb.cellv (cv_41 c)
  have f41 : w2.frozen? ⟨w.heap.size, 41, none⟩ = false := hb.frozen _
  have d42 : w2.cell? ⟨w.heap.size, 42, none⟩ = some (.int .u64 c.Esr) := hb.cellv (cv_42 c)
  have f42 : w2.frozen? ⟨w.heap.size, 42, none⟩ = false := hb.frozen _
  have d43 : w2.cell? ⟨w.heap.size, 43, none⟩ = some (.int .u64 c.Far) := hb.cellv (cv_43 c)
  have f43 : w2.frozen? ⟨w.heap.size, 43, none⟩ = false := hb.frozen _
  have d47 : w2.cell? ⟨w.heap.size, 47, none⟩ = some (.int .i64 c.Wait) := hb.cellv (cv_47 c)
  have f47 : w2.frozen? ⟨w.heap.size, 47, none⟩ = false := hb.frozen _
  clear hf
  go_upto_region 16 with fail
  go_cut [10] from 11 to 52 (fun _ wx => Blk wx w.heap.size 26 (cv (in2 c esr)) ∧ Blk wx (w.heap.size + 1) 26 (cv zeroC) ∧ Fr Nil w wx)
  case first =>
    go_wp2_with fail
    go_meet
    have H1 := (blk_setWait (blk_setM (blk_setEL (blk_setPC (blk_setEsr (blk_setElr (blk_setSpsr hb (psF c)) c.PC) esr) (IntKind.u64.wrap (c.Vbar + 512))) 1) true) 0)
    have H2 := (Blk.farc (b := w.heap.size) (i := 47) (Blk.farc (b := w.heap.size) (i := 39) (Blk.farc (b := w.heap.size) (i := 38) (Blk.farc (b := w.heap.size) (i := 33) (Blk.farc (b := w.heap.size) (i := 42) (Blk.farc (b := w.heap.size) (i := 41) (Blk.farc (b := w.heap.size) (i := 40) hr hne (.int .u64 (psF c))) hne (.int .u64 c.PC)) hne (.int .u64 esr)) hne (.int .u64 (IntKind.u64.wrap (c.Vbar + 512)))) hne (.int .i64 1)) hne (.bool true)) hne (.int .i64 0))
    have H3 := (Fr.setNew (g := w.heap.size) (i := 47) (Fr.setNew (g := w.heap.size) (i := 39) (Fr.setNew (g := w.heap.size) (i := 38) (Fr.setNew (g := w.heap.size) (i := 33) (Fr.setNew (g := w.heap.size) (i := 42) (Fr.setNew (g := w.heap.size) (i := 41) (Fr.setNew (g := w.heap.size) (i := 40) F (Nat.le_refl _) (.int .u64 (psF c))) (Nat.le_refl _) (.int .u64 c.PC)) (Nat.le_refl _) (.int .u64 esr)) (Nat.le_refl _) (.int .u64 (IntKind.u64.wrap (c.Vbar + 512)))) (Nat.le_refl _) (.int .i64 1)) (Nat.le_refl _) (.bool true)) (Nat.le_refl _) (.int .i64 0))
    have e2 : in2 c esr = ({ ({ ({ ({ ({ ({ ({ c with Spsr := (psF c) } : Cr) with Elr := c.PC } : Cr) with Esr := esr } : Cr) with PC := (IntKind.u64.wrap (c.Vbar + 512)) } : Cr) with EL := 1 } : Cr) with M := true } : Cr) with Wait := 0 } : Cr) := by
      unfold in2 inE inB
      rw [Hv.out]
    rw [e2]
    exact ⟨H1, H2, H3⟩
  case rest =>
    obtain ⟨hb, hr, F⟩ := hcut
    go_wp2_with (first
      | (refine wpList_load_blk rfl 26 (.tmp 4) rfl w.heap.size rfl _ hb Try.underlying26 rfl info26 ?_)
      | (refine wpList_store_blk0 rfl 26 (.tmp 8) (.tmp 52) rfl (w.heap.size + 1) rfl _ rfl hr info26 rfl (one_cv _) ?_; intro w3 hf3 hb3))
    refine bodyPost_ret (results_cell_one (p := 8) (ty := 26) rfl _ _ (w.heap.size + 1) _ _ rfl hb3 Try.underlying26 rfl info26) rfl ?_
    exact ⟨rfl, F.own1 hf3 (by omega)⟩

set_option maxRecDepth 100000 in
set_option maxHeartbeats 4000000 in
theorem in3_0 (c : Cr) (esr far : Int) (w : World) (h : c.EL = 0) : Calls Try.prog 15 #[.agg (cv c), .int .i64 3, .int .u64 esr, .int .u64 far] w fun e w' => e = .returned (.agg (cv (in3 c))) ∧ Fr Nil w w' := by
  have hv : vecF c = IntKind.u64.wrap (IntKind.u64.wrap (c.Vbar + 512) + 512) := by unfold vecF; rw [if_pos h]
  have Hv := Lib.hid hv
  clear hv
  go_enter Try.func15, Try.ntmps15
  go_wp2_with (refine wpList_load_blk rfl 26 (.tmp 4) rfl w.heap.size rfl _ (Blk.alloc (Blk.new _ _ _) _) Try.underlying26 rfl info26 ?_)
  refine (pstate_ok _ _).mono ?_
  rintro e w2 ⟨rfl, hf⟩
  have hb : Blk w2 w.heap.size 26 (cv c) := Blk.fr0 (Blk.alloc (Blk.new _ _ _) _) hf
  have hr : Blk w2 (w.heap.size + 1) 26 (cv zeroC) := Blk.fr0 (Blk.new2 _ _ _ _) hf
  have F := (((Fr.refl Nil w).alloc (.cells (cv c) 26)).alloc (.cells (cv zeroC) 26)).trans hf
  have hne : w.heap.size + 1 ≠ w.heap.size := by omega
  have d33 : w2.cell? ⟨w.heap.size, 33, none⟩ = some (.int .u64 c.PC) := hb.cellv (cv_33 c)
  have f33 : w2.frozen? ⟨w.heap.size, 33, none⟩ = false := hb.frozen _
  have d38 : w2.cell? ⟨w.heap.size, 38, none⟩ = some (.int .i64 c.EL) := hb.cellv (cv_38 c)
  have f38 : w2.frozen? ⟨w.heap.size, 38, none⟩ = false := hb.frozen _
  have d39 : w2.cell? ⟨w.heap.size, 39, none⟩ = some (.bool c.M) := hb.cellv (cv_39 c)
  have f39 : w2.frozen? ⟨w.heap.size, 39, none⟩ = false := hb.frozen _
  have d40 : w2.cell? ⟨w.heap.size, 40, none⟩ = some (.int .u64 c.Spsr) := hb.cellv (cv_40 c)
  have f40 : w2.frozen? ⟨w.heap.size, 40, none⟩ = false := hb.frozen _
  have d41 : w2.cell? ⟨w.heap.size, 41, none⟩ = some (.int .u64 c.Elr) := hb.cellv (cv_41 c)
  have f41 : w2.frozen? ⟨w.heap.size, 41, none⟩ = false := hb.frozen _
  have d42 : w2.cell? ⟨w.heap.size, 42, none⟩ = some (.int .u64 c.Esr) := hb.cellv (cv_42 c)
  have f42 : w2.frozen? ⟨w.heap.size, 42, none⟩ = false := hb.frozen _
  have d43 : w2.cell? ⟨w.heap.size, 43, none⟩ = some (.int .u64 c.Far) := hb.cellv (cv_43 c)
  have f43 : w2.frozen? ⟨w.heap.size, 43, none⟩ = false := hb.frozen _
  have d47 : w2.cell? ⟨w.heap.size, 47, none⟩ = some (.int .i64 c.Wait) := hb.cellv (cv_47 c)
  have f47 : w2.frozen? ⟨w.heap.size, 47, none⟩ = false := hb.frozen _
  clear hf
  go_upto_region 16 with fail
  go_cut [10] from 11 to 52 (fun _ wx => Blk wx w.heap.size 26 (cv (in3 c)) ∧ Blk wx (w.heap.size + 1) 26 (cv zeroC) ∧ Fr Nil w wx)
  case first =>
    go_wp2_with fail
    go_meet
    have H1 := (blk_setWait (blk_setM (blk_setEL (blk_setPC (blk_setElr (blk_setSpsr hb (psF c)) c.PC) (IntKind.u64.wrap (IntKind.u64.wrap (IntKind.u64.wrap (c.Vbar + 512) + 512) + 128))) 1) true) 0)
    have H2 := (Blk.farc (b := w.heap.size) (i := 47) (Blk.farc (b := w.heap.size) (i := 39) (Blk.farc (b := w.heap.size) (i := 38) (Blk.farc (b := w.heap.size) (i := 33) (Blk.farc (b := w.heap.size) (i := 41) (Blk.farc (b := w.heap.size) (i := 40) hr hne (.int .u64 (psF c))) hne (.int .u64 c.PC)) hne (.int .u64 (IntKind.u64.wrap (IntKind.u64.wrap (IntKind.u64.wrap (c.Vbar + 512) + 512) + 128)))) hne (.int .i64 1)) hne (.bool true)) hne (.int .i64 0))
    have H3 := (Fr.setNew (g := w.heap.size) (i := 47) (Fr.setNew (g := w.heap.size) (i := 39) (Fr.setNew (g := w.heap.size) (i := 38) (Fr.setNew (g := w.heap.size) (i := 33) (Fr.setNew (g := w.heap.size) (i := 41) (Fr.setNew (g := w.heap.size) (i := 40) F (Nat.le_refl _) (.int .u64 (psF c))) (Nat.le_refl _) (.int .u64 c.PC)) (Nat.le_refl _) (.int .u64 (IntKind.u64.wrap (IntKind.u64.wrap (IntKind.u64.wrap (c.Vbar + 512) + 512) + 128)))) (Nat.le_refl _) (.int .i64 1)) (Nat.le_refl _) (.bool true)) (Nat.le_refl _) (.int .i64 0))
    have e2 : in3 c = ({ ({ ({ ({ ({ ({ c with Spsr := (psF c) } : Cr) with Elr := c.PC } : Cr) with PC := (IntKind.u64.wrap (IntKind.u64.wrap (IntKind.u64.wrap (c.Vbar + 512) + 512) + 128)) } : Cr) with EL := 1 } : Cr) with M := true } : Cr) with Wait := 0 } : Cr) := by
      unfold in3 inE inB
      rw [Hv.out]
    rw [e2]
    exact ⟨H1, H2, H3⟩
  case rest =>
    obtain ⟨hb, hr, F⟩ := hcut
    go_wp2_with (first
      | (refine wpList_load_blk rfl 26 (.tmp 4) rfl w.heap.size rfl _ hb Try.underlying26 rfl info26 ?_)
      | (refine wpList_store_blk0 rfl 26 (.tmp 8) (.tmp 52) rfl (w.heap.size + 1) rfl _ rfl hr info26 rfl (one_cv _) ?_; intro w3 hf3 hb3))
    refine bodyPost_ret (results_cell_one (p := 8) (ty := 26) rfl _ _ (w.heap.size + 1) _ _ rfl hb3 Try.underlying26 rfl info26) rfl ?_
    exact ⟨rfl, F.own1 hf3 (by omega)⟩

set_option maxRecDepth 100000 in
set_option maxHeartbeats 4000000 in
theorem in3_1 (c : Cr) (esr far : Int) (w : World) (h : ¬ c.EL = 0) : Calls Try.prog 15 #[.agg (cv c), .int .i64 3, .int .u64 esr, .int .u64 far] w fun e w' => e = .returned (.agg (cv (in3 c))) ∧ Fr Nil w w' := by
  have hv : vecF c = IntKind.u64.wrap (c.Vbar + 512) := by unfold vecF; rw [if_neg h]
  have Hv := Lib.hid hv
  clear hv
  go_enter Try.func15, Try.ntmps15
  go_wp2_with (refine wpList_load_blk rfl 26 (.tmp 4) rfl w.heap.size rfl _ (Blk.alloc (Blk.new _ _ _) _) Try.underlying26 rfl info26 ?_)
  refine (pstate_ok _ _).mono ?_
  rintro e w2 ⟨rfl, hf⟩
  have hb : Blk w2 w.heap.size 26 (cv c) := Blk.fr0 (Blk.alloc (Blk.new _ _ _) _) hf
  have hr : Blk w2 (w.heap.size + 1) 26 (cv zeroC) := Blk.fr0 (Blk.new2 _ _ _ _) hf
  have F := (((Fr.refl Nil w).alloc (.cells (cv c) 26)).alloc (.cells (cv zeroC) 26)).trans hf
  have hne : w.heap.size + 1 ≠ w.heap.size := by omega
  have d33 : w2.cell? ⟨w.heap.size, 33, none⟩ = some (.int .u64 c.PC) := hb.cellv (cv_33 c)
  have f33 : w2.frozen? ⟨w.heap.size, 33, none⟩ = false := hb.frozen _
  have d38 : w2.cell? ⟨w.heap.size, 38, none⟩ = some (.int .i64 c.EL) := hb.cellv (cv_38 c)
  have f38 : w2.frozen? ⟨w.heap.size, 38, none⟩ = false := hb.frozen _
  have d39 : w2.cell? ⟨w.heap.size, 39, none⟩ = some (.bool c.M) := hb.cellv (cv_39 c)
  have f39 : w2.frozen? ⟨w.heap.size, 39, none⟩ = false := hb.frozen _
  have d40 : w2.cell? ⟨w.heap.size, 40, none⟩ = some (.int .u64 c.Spsr) := hb.cellv (cv_40 c)
  have f40 : w2.frozen? ⟨w.heap.size, 40, none⟩ = false := hb.frozen _
  have d41 : w2.cell? ⟨w.heap.size, 41, none⟩ = some (.int .u64 c.Elr) := hb.cellv (cv_41 c)
  have f41 : w2.frozen? ⟨w.heap.size, 41, none⟩ = false := hb.frozen _
  have d42 : w2.cell? ⟨w.heap.size, 42, none⟩ = some (.int .u64 c.Esr) := hb.cellv (cv_42 c)
  have f42 : w2.frozen? ⟨w.heap.size, 42, none⟩ = false := hb.frozen _
  have d43 : w2.cell? ⟨w.heap.size, 43, none⟩ = some (.int .u64 c.Far) := hb.cellv (cv_43 c)
  have f43 : w2.frozen? ⟨w.heap.size, 43, none⟩ = false := hb.frozen _
  have d47 : w2.cell? ⟨w.heap.size, 47, none⟩ = some (.int .i64 c.Wait) := hb.cellv (cv_47 c)
  have f47 : w2.frozen? ⟨w.heap.size, 47, none⟩ = false := hb.frozen _
  clear hf
  go_upto_region 16 with fail
  go_cut [10] from 11 to 52 (fun _ wx => Blk wx w.heap.size 26 (cv (in3 c)) ∧ Blk wx (w.heap.size + 1) 26 (cv zeroC) ∧ Fr Nil w wx)
  case first =>
    go_wp2_with fail
    go_meet
    have H1 := (blk_setWait (blk_setM (blk_setEL (blk_setPC (blk_setElr (blk_setSpsr hb (psF c)) c.PC) (IntKind.u64.wrap (IntKind.u64.wrap (c.Vbar + 512) + 128))) 1) true) 0)
    have H2 := (Blk.farc (b := w.heap.size) (i := 47) (Blk.farc (b := w.heap.size) (i := 39) (Blk.farc (b := w.heap.size) (i := 38) (Blk.farc (b := w.heap.size) (i := 33) (Blk.farc (b := w.heap.size) (i := 41) (Blk.farc (b := w.heap.size) (i := 40) hr hne (.int .u64 (psF c))) hne (.int .u64 c.PC)) hne (.int .u64 (IntKind.u64.wrap (IntKind.u64.wrap (c.Vbar + 512) + 128)))) hne (.int .i64 1)) hne (.bool true)) hne (.int .i64 0))
    have H3 := (Fr.setNew (g := w.heap.size) (i := 47) (Fr.setNew (g := w.heap.size) (i := 39) (Fr.setNew (g := w.heap.size) (i := 38) (Fr.setNew (g := w.heap.size) (i := 33) (Fr.setNew (g := w.heap.size) (i := 41) (Fr.setNew (g := w.heap.size) (i := 40) F (Nat.le_refl _) (.int .u64 (psF c))) (Nat.le_refl _) (.int .u64 c.PC)) (Nat.le_refl _) (.int .u64 (IntKind.u64.wrap (IntKind.u64.wrap (c.Vbar + 512) + 128)))) (Nat.le_refl _) (.int .i64 1)) (Nat.le_refl _) (.bool true)) (Nat.le_refl _) (.int .i64 0))
    have e2 : in3 c = ({ ({ ({ ({ ({ ({ c with Spsr := (psF c) } : Cr) with Elr := c.PC } : Cr) with PC := (IntKind.u64.wrap (IntKind.u64.wrap (c.Vbar + 512) + 128)) } : Cr) with EL := 1 } : Cr) with M := true } : Cr) with Wait := 0 } : Cr) := by
      unfold in3 inE inB
      rw [Hv.out]
    rw [e2]
    exact ⟨H1, H2, H3⟩
  case rest =>
    obtain ⟨hb, hr, F⟩ := hcut
    go_wp2_with (first
      | (refine wpList_load_blk rfl 26 (.tmp 4) rfl w.heap.size rfl _ hb Try.underlying26 rfl info26 ?_)
      | (refine wpList_store_blk0 rfl 26 (.tmp 8) (.tmp 52) rfl (w.heap.size + 1) rfl _ rfl hr info26 rfl (one_cv _) ?_; intro w3 hf3 hb3))
    refine bodyPost_ret (results_cell_one (p := 8) (ty := 26) rfl _ _ (w.heap.size + 1) _ _ rfl hb3 Try.underlying26 rfl info26) rfl ?_
    exact ⟨rfl, F.own1 hf3 (by omega)⟩
theorem in0_ok (c : Cr) (esr far : Int) (w : World) : Calls Try.prog 15 #[.agg (cv c), .int .i64 0, .int .u64 esr, .int .u64 far] w fun e w' => e = .returned (.agg (cv (in0 c esr))) ∧ Fr Nil w w' := by
  by_cases h : c.EL = 0
  · exact in0_0 c esr far w h
  · exact in0_1 c esr far w h
theorem in1_ok (c : Cr) (esr far : Int) (w : World) : Calls Try.prog 15 #[.agg (cv c), .int .i64 1, .int .u64 esr, .int .u64 far] w fun e w' => e = .returned (.agg (cv (in1 c esr far))) ∧ Fr Nil w w' := by
  by_cases h : c.EL = 0
  · exact in1_0 c esr far w h
  · exact in1_1 c esr far w h
theorem in2_ok (c : Cr) (esr far : Int) (w : World) : Calls Try.prog 15 #[.agg (cv c), .int .i64 2, .int .u64 esr, .int .u64 far] w fun e w' => e = .returned (.agg (cv (in2 c esr))) ∧ Fr Nil w w' := by
  by_cases h : c.EL = 0
  · exact in2_0 c esr far w h
  · exact in2_1 c esr far w h
theorem in3_ok (c : Cr) (esr far : Int) (w : World) : Calls Try.prog 15 #[.agg (cv c), .int .i64 3, .int .u64 esr, .int .u64 far] w fun e w' => e = .returned (.agg (cv (in3 c))) ∧ Fr Nil w w' := by
  by_cases h : c.EL = 0
  · exact in3_0 c esr far w h
  · exact in3_1 c esr far w h
end Go.Proofs.Ytkcdojlfliemmaa
