/- The heap of moments in memory. -/
import Derived.Test.YtpcpjmbfinpmlaaDoorProg
import Derived.Test.YtpcpjmbfinpmlaaDoorBase3
import Derived.Test.YtpcpjmbfinpmlaaDoorWin
import Derived.Test.YtpcpjmbfinpmlaaDoorRws
import Derived.Test.YtpcpjmbfinpmlaaDoorNum
import Derived.Test.YtpcpjmbfinpmlaaDoorHeap
set_option linter.unusedSimpArgs false
set_option linter.unusedSectionVars false
namespace Go.Proofs.YtpcpjmbfinpmlaaDoor
open Go.RowKit
set_option linter.unusedVariables false

def mo (V : Nat → Int) (i : Nat) : List Value := [.int .i64 (V i)]
theorem mo_length (V : Nat → Int) (i : Nat) : (mo V i).length = 1 := rfl
def ltM (a b : Int) : Bool := decide (a < b)
structure HeapAt (w : World) (A : Nat) (v : Value) (n : Nat) (V : Nat → Int) : Prop where
  top : Blk w A 71 #[v]
  win : Win w 3 1 v n (rows (mo V) n)
def ifc (A : Nat) : Value := .iface 73 (.pointer (some ⟨A, 0, none⟩))
/-- A method's row in the program's table. -/
noncomputable def mrow (t : TypeId) (name : String) : Option (Nat × Option (FuncId × Bool)) := (Tryd.prog.info? t).bind fun i => (i.methods.find? (·.name == name)).map fun m => (m.path.size, m.func)
theorem row_len : mrow 73 "Len" = some (0, some (47, false)) := by kernel_rfl
theorem row_less : mrow 73 "Less" = some (0, some (74, false)) := by kernel_rfl
theorem row_swap : mrow 73 "Swap" = some (0, some (75, false)) := by kernel_rfl
theorem row_pop : mrow 73 "Pop" = some (0, some (76, true)) := by kernel_rfl
theorem wrapnil (xt : TypeId) (a : Addr) (n : String) (w : World) : (Builtin.ssaWrapNilChk_ #[xt] xt #[.pointer (some a), strVal "", strVal n]).run Tryd.prog w = .ok (.pointer (some a)) w := rfl
theorem run_method_val (fuel : Nat) (name : String) (f : FuncId) (hr : mrow 73 name = some (0, some (f, false))) (A : Nat) (a : Option Addr) (n c : Nat) (w : World) (hc : w.cell? ⟨A, 0, none⟩ = some (.slice a n c)) :
    (method (fuel + 1) 73 (.pointer (some ⟨A, 0, none⟩)) name).run Tryd.prog w = .ok (f, .slice a n c) w := by
  unfold mrow at hr
  cases hi : Tryd.prog.info? 73 with
  | none => rw [hi] at hr; cases hr
  | some i =>
    rw [hi] at hr
    simp only [Option.bind_some] at hr
    cases hm : i.methods.find? (·.name == name) with
    | none => rw [hm] at hr; cases hr
    | some m =>
      rw [hm] at hr
      simp only [Option.map_some, Option.some.injEq, Prod.mk.injEq] at hr
      obtain ⟨h1, h2⟩ := hr
      have hp : m.path = #[] := Array.size_eq_zero_iff.1 h1
      unfold method
      have hu := Tryd.underlying73
      have hu2 := Tryd.underlying71
      simp [typeInfo, hi, hm, hp, h2, follow, receiverAt, run_underlying hu, Place.get, wrapnil, Sem.run_bind, go_sem, hc]
theorem run_method_ptr (fuel : Nat) (name : String) (f : FuncId) (hr : mrow 73 name = some (0, some (f, true))) (A : Nat) (w : World) :
    (method (fuel + 1) 73 (.pointer (some ⟨A, 0, none⟩)) name).run Tryd.prog w = .ok (f, .pointer (some ⟨A, 0, none⟩)) w := by
  unfold mrow at hr
  cases hi : Tryd.prog.info? 73 with
  | none => rw [hi] at hr; cases hr
  | some i =>
    rw [hi] at hr
    simp only [Option.bind_some] at hr
    cases hm : i.methods.find? (·.name == name) with
    | none => rw [hm] at hr; cases hr
    | some m =>
      rw [hm] at hr
      simp only [Option.map_some, Option.some.injEq, Prod.mk.injEq] at hr
      obtain ⟨h1, h2⟩ := hr
      have hp : m.path = #[] := Array.size_eq_zero_iff.1 h1
      unfold method
      have hu := Tryd.underlying73
      simp [typeInfo, hi, hm, hp, h2, follow, receiverAt, run_underlying hu, Place.get, Sem.run_bind, go_sem]
theorem HeapAt.fr0 {w w' : World} {A : Nat} {v : Value} {n : Nat} {V : Nat → Int} (h : HeapAt w A v n V) (hf : Fr Nil w w') : HeapAt w' A v n V := ⟨h.top.fr0 hf, h.win.fr hf fun _ _ => id⟩
theorem mo_cells {w : World} {g off cap n : Nat} {V : Nat → Int} (h : Win w 3 1 (.slice (some ⟨g, off, none⟩) n cap) n (rows (mo V) n)) {i : Nat} (hi : i < n) : w.cell? ⟨g, off + i, none⟩ = some (.int .i64 (V i)) := by
  have r0 := rows_get (mo V) 1 (mo_length V) (j := 0) hi (by omega)
  rw [Nat.mul_one, Nat.add_zero] at r0
  exact h.cellAt (j := i) r0
theorem len_ok (a : Option Addr) (n c : Nat) (w : World) : Calls Tryd.prog 47 #[.slice a n c] w fun e w' => e = .returned (.int .i64 (n : Int)) ∧ w = w' := by
  go_enter Tryd.func47, Tryd.ntmps47
  go_wp2
  go_ret
  exact ⟨rfl, rfl⟩
theorem less_ok (g off cap n : Nat) (V : Nat → Int) (i j : Nat) (w : World) (h : Win w 3 1 (.slice (some ⟨g, off, none⟩) n cap) n (rows (mo V) n)) (hi : i < n) (hj : j < n) :
    Calls Tryd.prog 74 #[.slice (some ⟨g, off, none⟩) n cap, .int .i64 (i : Int), .int .i64 (j : Int)] w fun e w' => e = .returned (.bool (ltM (V i) (V j))) ∧ Fr Nil w w' := by
  have c0 := mo_cells h hi
  have d0 := mo_cells h hj
  have i0 : (0 : Int) ≤ (i : Int) := by omega
  have i1 : (i : Int) < (n : Int) := by omega
  have j0 : (0 : Int) ≤ (j : Int) := by omega
  have j1 : (j : Int) < (n : Int) := by omega
  clear h hi hj
  generalize V i = x at *
  generalize V j = y at *
  go_enter Tryd.func74, Tryd.ntmps74
  go_wp2
  go_quiet (fail)
  go_wp2
  go_ret
  exact ⟨rfl, Fr.drewN (Fr.refl _ _) _⟩
theorem rows_set1 (V : Nat → Int) {n i : Nat} (hi : i < n) (x : Int) : (rows (mo V) n).set i (.int .i64 x) = rows (mo (upd V i x)) n := by
  have e1 := rows_set (mo V) 1 (mo_length V) (j := 0) hi (by omega) (.int .i64 x)
  rw [Nat.add_zero, Nat.mul_one] at e1
  rw [e1]
  refine rows_congr fun k hk => ?_
  by_cases h : k = i
  · subst h; rw [upd_same]; simp [mo, upd_same]
  · rw [upd_other _ _ h]; simp [mo, upd_other _ _ h]
set_option maxHeartbeats 1000000 in
theorem swap_ok (g off cap n : Nat) (V : Nat → Int) (i j : Nat) (w : World) (h : Win w 3 1 (.slice (some ⟨g, off, none⟩) n cap) n (rows (mo V) n)) (hf : ∀ o, w.frozen? ⟨g, o, none⟩ = false) (hi : i < n) (hj : j < n) :
    Calls Tryd.prog 75 #[.slice (some ⟨g, off, none⟩) n cap, .int .i64 (i : Int), .int .i64 (j : Int)] w fun e w' => e = .returned (.tuple #[]) ∧ Fr (One g) w w' ∧ Win w' 3 1 (.slice (some ⟨g, off, none⟩) n cap) n (rows (mo (swp V i j)) n) := by
  have c0 := mo_cells h hi
  have d0 := mo_cells h hj
  have f0 := hf (off + i)
  have f2 := hf (off + j)
  have i0 : (0 : Int) ≤ (i : Int) := by omega
  have i1 : (i : Int) < (n : Int) := by omega
  have j0 : (0 : Int) ≤ (j : Int) := by omega
  have j1 : (j : Int) < (n : Int) := by omega
  have H := Lib.hid h
  have HI := Lib.hid hi
  have HJ := Lib.hid hj
  have l1 := h.set_ i (.int .i64 (V j))
  obtain ⟨u3, e1⟩ : ∃ x, (w.setCell ⟨g, off + i, none⟩ (.int .i64 (V j))).cell? ⟨g, off + j, none⟩ = some x := ⟨_, l1.cellAt (List.getElem?_eq_getElem (i := j) (by rw [l1.1]; omega))⟩
  clear hf h hi hj l1
  go_enter Tryd.func75, Tryd.ntmps75
  go_wp2
  go_region
  go_end0
  have hfin : rows (mo (swp V i j)) n = ((rows (mo V) n).set i (.int .i64 (V j))).set j (.int .i64 (V i)) := by
    rw [rows_set1 V HI.out, rows_set1 _ HJ.out]
    refine rows_congr fun k hk => ?_
    unfold mo
    by_cases h : k = j
    · subst h; rw [upd_same, swp_j]
    · rw [upd_other _ _ h]
      by_cases h2 : k = i
      · subst h2; rw [upd_same, swp_i]
      · rw [upd_other _ _ h2, swp_o _ h2 h]
  refine ⟨rfl, (((Fr.refl (One g) w).set1 _).set1 _).drew, ?_⟩
  rw [hfin]
  exact ((H.out.set_ i _).set_ j _).drew
end Go.Proofs.YtpcpjmbfinpmlaaDoor
