/- The heap of moments in memory. -/
import Derived.Test.YtnmakbippgnekaaProg
import Derived.Test.YtnmakbippgnekaaBase3
import Derived.Test.YtnmakbippgnekaaWin
import Derived.Test.YtnmakbippgnekaaRws
import Derived.Test.YtnmakbippgnekaaNum
import Derived.Test.YtnmakbippgnekaaHeap
set_option linter.unusedSimpArgs false
set_option linter.unusedSectionVars false
namespace Go.Proofs.Ytnmakbippgnekaa
open Go.RowKit
set_option linter.unusedVariables false

/-- A moment: its value, its core. -/
abbrev Mo := Int × Int
def mo (V : Nat → Mo) (i : Nat) : List Value := [.int .i64 (V i).2, .int .i64 (V i).1]
theorem mo_length (V : Nat → Mo) (i : Nat) : (mo V i).length = 2 := rfl
def ltM (a b : Mo) : Bool := decide (a.1 < b.1 ∨ a.1 = b.1 ∧ a.2 < b.2)
structure HeapAt (w : World) (A : Nat) (v : Value) (n : Nat) (V : Nat → Mo) : Prop where
  top : Blk w A 104 #[v]
  win : Win w 96 2 v n (rows (mo V) n)
def ifc (A : Nat) : Value := .iface 106 (.pointer (some ⟨A, 0, none⟩))
/-- A method's row in the program's table. -/
noncomputable def mrow (t : TypeId) (name : String) : Option (Nat × Option (FuncId × Bool)) := (Try.prog.info? t).bind fun i => (i.methods.find? (·.name == name)).map fun m => (m.path.size, m.func)
theorem row_len : mrow 106 "Len" = some (0, some (96, false)) := by kernel_rfl
theorem row_less : mrow 106 "Less" = some (0, some (97, false)) := by kernel_rfl
theorem row_swap : mrow 106 "Swap" = some (0, some (98, false)) := by kernel_rfl
theorem row_pop : mrow 106 "Pop" = some (0, some (99, true)) := by kernel_rfl
theorem wrapnil (xt : TypeId) (a : Addr) (n : String) (w : World) : (Builtin.ssaWrapNilChk_ #[xt] xt #[.pointer (some a), strVal "", strVal n]).run Try.prog w = .ok (.pointer (some a)) w := rfl
theorem run_method_val (fuel : Nat) (name : String) (f : FuncId) (hr : mrow 106 name = some (0, some (f, false))) (A : Nat) (a : Option Addr) (n c : Nat) (w : World) (hc : w.cell? ⟨A, 0, none⟩ = some (.slice a n c)) :
    (method (fuel + 1) 106 (.pointer (some ⟨A, 0, none⟩)) name).run Try.prog w = .ok (f, .slice a n c) w := by
  unfold mrow at hr
  cases hi : Try.prog.info? 106 with
  | none => rw [hi] at hr; cases hr
  | some i =>
    rw [hi] at hr
    simp only [Option.bind_some] at hr
    cases hm : i.methods.find? (·.name == name) with
    | none => rw [hm] at hr; cases hr
    | some m =>
      rw [hm] at hr
      simp only [Option.map_some, Option.some.injEq, Prod.mk.injEq] at hr
      obtain ⟨h1, h2⟩ := hr
      have hp : m.path = #[] := Array.size_eq_zero_iff.1 h1
      unfold method
      have hu := Try.underlying106
      have hu2 := Try.underlying104
      simp [typeInfo, hi, hm, hp, h2, follow, receiverAt, run_underlying hu, Place.get, wrapnil, Sem.run_bind, go_sem, hc]
theorem run_method_ptr (fuel : Nat) (name : String) (f : FuncId) (hr : mrow 106 name = some (0, some (f, true))) (A : Nat) (w : World) :
    (method (fuel + 1) 106 (.pointer (some ⟨A, 0, none⟩)) name).run Try.prog w = .ok (f, .pointer (some ⟨A, 0, none⟩)) w := by
  unfold mrow at hr
  cases hi : Try.prog.info? 106 with
  | none => rw [hi] at hr; cases hr
  | some i =>
    rw [hi] at hr
    simp only [Option.bind_some] at hr
    cases hm : i.methods.find? (·.name == name) with
    | none => rw [hm] at hr; cases hr
    | some m =>
      rw [hm] at hr
      simp only [Option.map_some, Option.some.injEq, Prod.mk.injEq] at hr
      obtain ⟨h1, h2⟩ := hr
      have hp : m.path = #[] := Array.size_eq_zero_iff.1 h1
      unfold method
      have hu := Try.underlying106
      simp [typeInfo, hi, hm, hp, h2, follow, receiverAt, run_underlying hu, Place.get, Sem.run_bind, go_sem]
theorem HeapAt.fr0 {w w' : World} {A : Nat} {v : Value} {n : Nat} {V : Nat → Mo} (h : HeapAt w A v n V) (hf : Fr Nil w w') : HeapAt w' A v n V := ⟨h.top.fr0 hf, h.win.fr hf fun _ _ => id⟩
theorem mo_cells {w : World} {g off cap n : Nat} {V : Nat → Mo} (h : Win w 96 2 (.slice (some ⟨g, off, none⟩) n cap) n (rows (mo V) n)) {i : Nat} (hi : i < n) : w.cell? ⟨g, off + i * 2, none⟩ = some (.int .i64 (V i).2) ∧ w.cell? ⟨g, off + i * 2 + 1, none⟩ = some (.int .i64 (V i).1) := by
  have r0 := rows_get (mo V) 2 (mo_length V) (j := 0) hi (by omega)
  have r1 := rows_get (mo V) 2 (mo_length V) (j := 1) hi (by omega)
  exact ⟨h.cellAt (j := i * 2) r0, h.cellAt (j := i * 2 + 1) r1⟩
theorem len_ok (a : Option Addr) (n c : Nat) (w : World) : Calls Try.prog 96 #[.slice a n c] w fun e w' => e = .returned (.int .i64 (n : Int)) ∧ w = w' := by
  go_enter Try.func96, Try.ntmps96
  go_wp2
  go_ret
  exact ⟨rfl, rfl⟩
set_option maxHeartbeats 1000000 in
theorem less_ok (g off cap n : Nat) (V : Nat → Mo) (i j : Nat) (w : World) (h : Win w 96 2 (.slice (some ⟨g, off, none⟩) n cap) n (rows (mo V) n)) (hi : i < n) (hj : j < n) :
    Calls Try.prog 97 #[.slice (some ⟨g, off, none⟩) n cap, .int .i64 (i : Int), .int .i64 (j : Int)] w fun e w' => e = .returned (.bool (ltM (V i) (V j))) ∧ Fr Nil w w' := by
  obtain ⟨c0, c1⟩ := mo_cells h hi
  obtain ⟨d0, d1⟩ := mo_cells h hj
  have i0 : (0 : Int) ≤ (i : Int) := by omega
  have i1 : (i : Int) < (n : Int) := by omega
  have j0 : (0 : Int) ≤ (j : Int) := by omega
  have j1 : (j : Int) < (n : Int) := by omega
  clear h hi hj
  generalize V i = p at *
  generalize V j = r at *
  obtain ⟨x, k⟩ := p
  obtain ⟨y, l⟩ := r
  dsimp only at c0 c1 d0 d1
  by_cases h1 : x < y
  · have e : ltM (x, k) (y, l) = true := by simp [ltM, h1]
    have E := Lib.hid e
    clear e
    go_enter Try.func97, Try.ntmps97
    go_wp2
    go_quiet (fail)
    go_wp2
    go_ret
    exact ⟨by rw [E.out]; simp <;> omega, Fr.drewN (Fr.refl _ _) _⟩
  · have h1' : y ≤ x := by omega
    by_cases h2 : x = y
    · subst h2
      have e : ltM (x, k) (x, l) = decide (k < l) := by simp [ltM]
      have E := Lib.hid e
      clear e h1 h1'
      go_enter Try.func97, Try.ntmps97
      go_wp2
      go_quiet (fail)
      go_wp2
      go_ret
      exact ⟨by rw [E.out]; simp <;> omega, Fr.drewN (Fr.refl _ _) _⟩
    · have e : ltM (x, k) (y, l) = false := by simp [ltM]; omega
      have E := Lib.hid e
      have h3 : (x == y) = false := by simp [h2]
      have h4 : decide (x < y) = false := by simp; omega
      clear e h1 h2 h1'
      go_enter Try.func97, Try.ntmps97
      go_wp2
      go_quiet (fail)
      go_wp2
      go_ret
      exact ⟨by rw [E.out]; simp <;> omega, Fr.drewN (Fr.refl _ _) _⟩
theorem swap_ok (g off cap n : Nat) (V : Nat → Mo) (i j : Nat) (w : World) (h : Win w 96 2 (.slice (some ⟨g, off, none⟩) n cap) n (rows (mo V) n)) (hf : ∀ o, w.frozen? ⟨g, o, none⟩ = false) (hi : i < n) (hj : j < n) :
    Calls Try.prog 98 #[.slice (some ⟨g, off, none⟩) n cap, .int .i64 (i : Int), .int .i64 (j : Int)] w fun e w' => e = .returned (.tuple #[]) ∧ Fr (One g) w w' ∧ Win w' 96 2 (.slice (some ⟨g, off, none⟩) n cap) n (rows (mo (swp V i j)) n) := by
  obtain ⟨c0, c1⟩ := mo_cells h hi
  obtain ⟨d0, d1⟩ := mo_cells h hj
  have f0 := hf (off + i * 2)
  have f1 := hf (off + i * 2 + 1)
  have f2 := hf (off + j * 2)
  have f3 := hf (off + j * 2 + 1)
  have i0 : (0 : Int) ≤ (i : Int) := by omega
  have i1 : (i : Int) < (n : Int) := by omega
  have j0 : (0 : Int) ≤ (j : Int) := by omega
  have j1 : (j : Int) < (n : Int) := by omega
  have H := Lib.hid h
  have HI := Lib.hid hi
  have HJ := Lib.hid hj
  have l1 := h.set_ (i * 2) (.int .i64 (V j).2)
  have l2 := l1.set_ (i * 2 + 1) (.int .i64 (V j).1)
  obtain ⟨u3, e1⟩ : ∃ x, (w.setCell ⟨g, off + i * 2, none⟩ (.int .i64 (V j).2)).cell? ⟨g, off + j * 2, none⟩ = some x := ⟨_, l1.cellAt (List.getElem?_eq_getElem (i := j * 2) (by rw [l1.1]; omega))⟩
  obtain ⟨u4, e2⟩ : ∃ x, ((w.setCell ⟨g, off + i * 2, none⟩ (.int .i64 (V j).2)).setCell ⟨g, off + i * 2 + 1, none⟩ (.int .i64 (V j).1)).cell? ⟨g, off + j * 2 + 1, none⟩ = some x := ⟨_, l2.cellAt (List.getElem?_eq_getElem (i := j * 2 + 1) (by rw [l2.1]; omega))⟩
  clear hf h hi hj l1 l2
  go_enter Try.func98, Try.ntmps98
  go_wp2
  go_region
  go_end0
  have hfin : rows (mo (swp V i j)) n = (((((rows (mo V) n).set (i * 2) (.int .i64 (V j).2)).set (i * 2 + 1) (.int .i64 (V j).1)).set (j * 2) (.int .i64 (V i).2)).set (j * 2 + 1) (.int .i64 (V i).1)) := by
    have hi := HI.out
    have hj := HJ.out
    have e1 := rows_set (mo V) 2 (mo_length V) (j := 0) hi (by omega) (.int .i64 (V j).2)
    rw [Nat.add_zero] at e1
    have l1 : ∀ k, (upd (mo V) i ((mo V i).set 0 (.int .i64 (V j).2)) k).length = 2 := by
      intro k
      by_cases h : k = i
      · subst h; rw [upd_same]; rfl
      · rw [upd_other _ _ h]; rfl
    have e2 := rows_set _ 2 l1 (j := 1) hi (by omega) (.int .i64 (V j).1)
    rw [upd_same] at e2
    have u2 : upd (upd (mo V) i ((mo V i).set 0 (.int .i64 (V j).2))) i (((mo V i).set 0 (.int .i64 (V j).2)).set 1 (.int .i64 (V j).1)) = mo (upd V i (V j)) := by
      funext k
      by_cases h : k = i
      · subst h; rw [upd_same]; simp [mo, upd_same]
      · rw [upd_other _ _ h, upd_other _ _ h]; simp [mo, upd_other _ _ h]
    rw [u2] at e2
    have e3 := rows_set (mo (upd V i (V j))) 2 (mo_length _) (j := 0) hj (by omega) (.int .i64 (V i).2)
    rw [Nat.add_zero] at e3
    have l3 : ∀ k, (upd (mo (upd V i (V j))) j ((mo (upd V i (V j)) j).set 0 (.int .i64 (V i).2)) k).length = 2 := by
      intro k
      by_cases h : k = j
      · subst h; rw [upd_same]; rfl
      · rw [upd_other _ _ h]; rfl
    have e4 := rows_set _ 2 l3 (j := 1) hj (by omega) (.int .i64 (V i).1)
    rw [upd_same] at e4
    have u4 : upd (upd (mo (upd V i (V j))) j ((mo (upd V i (V j)) j).set 0 (.int .i64 (V i).2))) j (((mo (upd V i (V j)) j).set 0 (.int .i64 (V i).2)).set 1 (.int .i64 (V i).1)) = mo (swp V i j) := by
      funext k
      by_cases h : k = j
      · subst h; rw [upd_same]; simp [mo, swp_j]
      · rw [upd_other _ _ h, upd_other _ _ h]
        by_cases h2 : k = i
        · subst h2; simp [mo, upd_same, swp_i]
        · simp [mo, upd_other _ _ h2, swp_o _ h2 h]
    rw [u4] at e4
    rw [e1, e2, e3, e4]
  refine ⟨rfl, (((((Fr.refl (One g) w).set1 _).set1 _).set1 _).set1 _).drew, ?_⟩
  rw [hfin]
  exact ((((H.out.set_ (i * 2) _).set_ (i * 2 + 1) _).set_ (j * 2) _).set_ (j * 2 + 1) _).drew
end Go.Proofs.Ytnmakbippgnekaa
