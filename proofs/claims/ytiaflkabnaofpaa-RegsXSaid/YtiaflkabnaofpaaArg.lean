/- A state that comes in as an argument. -/
import Derived.Test.YtiaflkabnaofpaaCore
import Derived.Test.YtiaflkabnaofpaaLaw
namespace Go.Proofs.Ytiaflkabnaofpaa
open Go.ChangeShapes Go.WideShapes Go.ChangeAt Go.RowKit Go.Deep
set_option linter.unusedVariables false

structure WfC (c : Cr) : Prop where
  X : ∀ i, i < 31 → (Lit.int .u64 (c.X i)).wf = true
  S0 : (Lit.int .u64 c.S0).wf = true
  S1 : (Lit.int .u64 c.S1).wf = true
  PC : (Lit.int .u64 c.PC).wf = true
  EL : (Lit.int .i64 c.EL).wf = true
  Spsr : (Lit.int .u64 c.Spsr).wf = true
  Elr : (Lit.int .u64 c.Elr).wf = true
  Esr : (Lit.int .u64 c.Esr).wf = true
  Far : (Lit.int .u64 c.Far).wf = true
  Vbar : (Lit.int .u64 c.Vbar).wf = true
  Tpidr : (Lit.int .u64 c.Tpidr).wf = true
  Id : (Lit.int .i64 c.Id).wf = true
  Wait : (Lit.int .i64 c.Wait).wf = true

theorem take1 {ls : List Value} {j : Nat} {v : Value} (h : (ls.drop j).take 1 = [v]) : ls[j]? = some v := by
  have : ((ls.drop j).take 1)[0]? = some v := by rw [h]; rfl
  simpa [List.getElem?_take, List.getElem?_drop] using this
section
variable {H : Type} {enc : TypeId × Value → H} {w : World} {base : Nat} {spare : Nat → Bool} {held : Bool}
theorem open_core {r : Reach} {b0 : Nat} {v : Value} {d : DataW H} {p : List MemPlace} (hv : Value.okWide Try.prog w r b0 26 v) (h : DataW.Trod enc Try.prog w base spare held 26 v d p) :
    ∃ c, v = .agg (cv c) ∧ WfC c := by
  obtain ⟨cs, rfl, hsz⟩ := okWide_struct Try.underlying26 hv
  obtain ⟨fuel, hf⟩ := h
  obtain ⟨xs, n, _, _, _, hxl, hfx⟩ := DataW.trod_struct Try.underlying26 hf
  have hsz' : cs.size = 49 := hsz.trans (by kernel_rfl)
  have ceU : Try.prog.cellsOf 22 = 1 := by kernel_rfl
  have ceI : Try.prog.cellsOf 3 = 1 := by kernel_rfl
  have ceB : Try.prog.cellsOf 4 = 1 := by kernel_rfl
  have ceX : Try.prog.cellsOf 23 = 31 := by kernel_rfl
  have ceS : Try.prog.cellsOf 24 = 2 := by kernel_rfl
  have hxl' : xs.length = 18 := hxl
  simp only [Value.cells] at hfx
  obtain ⟨X, hX⟩ : ∃ X : Nat → Int, ∀ i, i < 31 → cs.toList[i]? = some (.int .u64 (X i)) ∧ (Lit.int .u64 (X i)).wf = true := by
    have g : DataW.trod enc Try.prog w base spare held n 23 ((cs.toList.drop 0).take (Try.prog.cellsOf 23)) = xs[0]? := hfx 0 _ rfl
    rw [List.getElem?_eq_getElem (by omega)] at g
    obtain ⟨ys, m, _, _, _, _, hy⟩ := DataW.trod_array Try.underlying23 g
    have each : ∀ i, i < 31 → ∃ z : Int, cs.toList[i]? = some (.int .u64 z) ∧ (Lit.int .u64 z).wf = true := by
      intro i hi
      have g2 := hy i hi
      rw [List.getElem?_eq_getElem (by omega), ceU] at g2
      obtain ⟨z, hz, _, hw⟩ := DataW.trod_int Try.underlying22 g2
      refine ⟨z, ?_, hw⟩
      have h1 := take1 hz
      rw [Nat.mul_one] at h1
      simp only [List.drop_zero, ceX, List.getElem?_take, if_pos hi] at h1
      exact h1
    exact choose_lt each
  obtain ⟨S, hS⟩ : ∃ S : Nat → Int, ∀ i, i < 2 → cs.toList[31 + i]? = some (.int .u64 (S i)) ∧ (Lit.int .u64 (S i)).wf = true := by
    have g : DataW.trod enc Try.prog w base spare held n 24 ((cs.toList.drop 31).take (Try.prog.cellsOf 24)) = xs[1]? := hfx 1 _ rfl
    rw [List.getElem?_eq_getElem (by omega)] at g
    obtain ⟨ys, m, _, _, _, _, hy⟩ := DataW.trod_array Try.underlying24 g
    have each : ∀ i, i < 2 → ∃ z : Int, cs.toList[31 + i]? = some (.int .u64 z) ∧ (Lit.int .u64 z).wf = true := by
      intro i hi
      have g2 := hy i hi
      rw [List.getElem?_eq_getElem (by omega), ceU] at g2
      obtain ⟨z, hz, _, hw⟩ := DataW.trod_int Try.underlying22 g2
      refine ⟨z, ?_, hw⟩
      have h1 := take1 hz
      rw [Nat.mul_one] at h1
      simp only [ceS, List.getElem?_take, if_pos hi, List.getElem?_drop] at h1
      exact h1
    exact choose_lt each
  obtain ⟨vPC, hPC, wPC⟩ : ∃ z : Int, cs.toList[33]? = some (.int .u64 z) ∧ (Lit.int .u64 z).wf = true := by
    have g : DataW.trod enc Try.prog w base spare held n 22 ((cs.toList.drop 33).take (Try.prog.cellsOf 22)) = xs[2]? := hfx 2 _ rfl
    rw [List.getElem?_eq_getElem (by omega), ceU] at g
    obtain ⟨z, hz, _, hw⟩ := DataW.trod_int Try.underlying22 g
    exact ⟨z, take1 hz, hw⟩
  obtain ⟨vN, hN⟩ : ∃ z : Bool, cs.toList[34]? = some (.bool z) := by
    have g : DataW.trod enc Try.prog w base spare held n 4 ((cs.toList.drop 34).take (Try.prog.cellsOf 4)) = xs[3]? := hfx 3 _ rfl
    rw [List.getElem?_eq_getElem (by omega), ceB] at g
    obtain ⟨z, hz, _⟩ := DataW.trod_bool Try.underlying4 g
    exact ⟨z, take1 hz⟩
  obtain ⟨vZ, hZ⟩ : ∃ z : Bool, cs.toList[35]? = some (.bool z) := by
    have g : DataW.trod enc Try.prog w base spare held n 4 ((cs.toList.drop 35).take (Try.prog.cellsOf 4)) = xs[4]? := hfx 4 _ rfl
    rw [List.getElem?_eq_getElem (by omega), ceB] at g
    obtain ⟨z, hz, _⟩ := DataW.trod_bool Try.underlying4 g
    exact ⟨z, take1 hz⟩
  obtain ⟨vC, hC⟩ : ∃ z : Bool, cs.toList[36]? = some (.bool z) := by
    have g : DataW.trod enc Try.prog w base spare held n 4 ((cs.toList.drop 36).take (Try.prog.cellsOf 4)) = xs[5]? := hfx 5 _ rfl
    rw [List.getElem?_eq_getElem (by omega), ceB] at g
    obtain ⟨z, hz, _⟩ := DataW.trod_bool Try.underlying4 g
    exact ⟨z, take1 hz⟩
  obtain ⟨vV, hV⟩ : ∃ z : Bool, cs.toList[37]? = some (.bool z) := by
    have g : DataW.trod enc Try.prog w base spare held n 4 ((cs.toList.drop 37).take (Try.prog.cellsOf 4)) = xs[6]? := hfx 6 _ rfl
    rw [List.getElem?_eq_getElem (by omega), ceB] at g
    obtain ⟨z, hz, _⟩ := DataW.trod_bool Try.underlying4 g
    exact ⟨z, take1 hz⟩
  obtain ⟨vEL, hEL, wEL⟩ : ∃ z : Int, cs.toList[38]? = some (.int .i64 z) ∧ (Lit.int .i64 z).wf = true := by
    have g : DataW.trod enc Try.prog w base spare held n 3 ((cs.toList.drop 38).take (Try.prog.cellsOf 3)) = xs[7]? := hfx 7 _ rfl
    rw [List.getElem?_eq_getElem (by omega), ceI] at g
    obtain ⟨z, hz, _, hw⟩ := DataW.trod_int Try.underlying3 g
    exact ⟨z, take1 hz, hw⟩
  obtain ⟨vM, hM⟩ : ∃ z : Bool, cs.toList[39]? = some (.bool z) := by
    have g : DataW.trod enc Try.prog w base spare held n 4 ((cs.toList.drop 39).take (Try.prog.cellsOf 4)) = xs[8]? := hfx 8 _ rfl
    rw [List.getElem?_eq_getElem (by omega), ceB] at g
    obtain ⟨z, hz, _⟩ := DataW.trod_bool Try.underlying4 g
    exact ⟨z, take1 hz⟩
  obtain ⟨vSpsr, hSpsr, wSpsr⟩ : ∃ z : Int, cs.toList[40]? = some (.int .u64 z) ∧ (Lit.int .u64 z).wf = true := by
    have g : DataW.trod enc Try.prog w base spare held n 22 ((cs.toList.drop 40).take (Try.prog.cellsOf 22)) = xs[9]? := hfx 9 _ rfl
    rw [List.getElem?_eq_getElem (by omega), ceU] at g
    obtain ⟨z, hz, _, hw⟩ := DataW.trod_int Try.underlying22 g
    exact ⟨z, take1 hz, hw⟩
  obtain ⟨vElr, hElr, wElr⟩ : ∃ z : Int, cs.toList[41]? = some (.int .u64 z) ∧ (Lit.int .u64 z).wf = true := by
    have g : DataW.trod enc Try.prog w base spare held n 22 ((cs.toList.drop 41).take (Try.prog.cellsOf 22)) = xs[10]? := hfx 10 _ rfl
    rw [List.getElem?_eq_getElem (by omega), ceU] at g
    obtain ⟨z, hz, _, hw⟩ := DataW.trod_int Try.underlying22 g
    exact ⟨z, take1 hz, hw⟩
  obtain ⟨vEsr, hEsr, wEsr⟩ : ∃ z : Int, cs.toList[42]? = some (.int .u64 z) ∧ (Lit.int .u64 z).wf = true := by
    have g : DataW.trod enc Try.prog w base spare held n 22 ((cs.toList.drop 42).take (Try.prog.cellsOf 22)) = xs[11]? := hfx 11 _ rfl
    rw [List.getElem?_eq_getElem (by omega), ceU] at g
    obtain ⟨z, hz, _, hw⟩ := DataW.trod_int Try.underlying22 g
    exact ⟨z, take1 hz, hw⟩
  obtain ⟨vFar, hFar, wFar⟩ : ∃ z : Int, cs.toList[43]? = some (.int .u64 z) ∧ (Lit.int .u64 z).wf = true := by
    have g : DataW.trod enc Try.prog w base spare held n 22 ((cs.toList.drop 43).take (Try.prog.cellsOf 22)) = xs[12]? := hfx 12 _ rfl
    rw [List.getElem?_eq_getElem (by omega), ceU] at g
    obtain ⟨z, hz, _, hw⟩ := DataW.trod_int Try.underlying22 g
    exact ⟨z, take1 hz, hw⟩
  obtain ⟨vVbar, hVbar, wVbar⟩ : ∃ z : Int, cs.toList[44]? = some (.int .u64 z) ∧ (Lit.int .u64 z).wf = true := by
    have g : DataW.trod enc Try.prog w base spare held n 22 ((cs.toList.drop 44).take (Try.prog.cellsOf 22)) = xs[13]? := hfx 13 _ rfl
    rw [List.getElem?_eq_getElem (by omega), ceU] at g
    obtain ⟨z, hz, _, hw⟩ := DataW.trod_int Try.underlying22 g
    exact ⟨z, take1 hz, hw⟩
  obtain ⟨vTpidr, hTpidr, wTpidr⟩ : ∃ z : Int, cs.toList[45]? = some (.int .u64 z) ∧ (Lit.int .u64 z).wf = true := by
    have g : DataW.trod enc Try.prog w base spare held n 22 ((cs.toList.drop 45).take (Try.prog.cellsOf 22)) = xs[14]? := hfx 14 _ rfl
    rw [List.getElem?_eq_getElem (by omega), ceU] at g
    obtain ⟨z, hz, _, hw⟩ := DataW.trod_int Try.underlying22 g
    exact ⟨z, take1 hz, hw⟩
  obtain ⟨vId, hId, wId⟩ : ∃ z : Int, cs.toList[46]? = some (.int .i64 z) ∧ (Lit.int .i64 z).wf = true := by
    have g : DataW.trod enc Try.prog w base spare held n 3 ((cs.toList.drop 46).take (Try.prog.cellsOf 3)) = xs[15]? := hfx 15 _ rfl
    rw [List.getElem?_eq_getElem (by omega), ceI] at g
    obtain ⟨z, hz, _, hw⟩ := DataW.trod_int Try.underlying3 g
    exact ⟨z, take1 hz, hw⟩
  obtain ⟨vWait, hWait, wWait⟩ : ∃ z : Int, cs.toList[47]? = some (.int .i64 z) ∧ (Lit.int .i64 z).wf = true := by
    have g : DataW.trod enc Try.prog w base spare held n 3 ((cs.toList.drop 47).take (Try.prog.cellsOf 3)) = xs[16]? := hfx 16 _ rfl
    rw [List.getElem?_eq_getElem (by omega), ceI] at g
    obtain ⟨z, hz, _, hw⟩ := DataW.trod_int Try.underlying3 g
    exact ⟨z, take1 hz, hw⟩
  obtain ⟨vEv, hEv⟩ : ∃ z : Bool, cs.toList[48]? = some (.bool z) := by
    have g : DataW.trod enc Try.prog w base spare held n 4 ((cs.toList.drop 48).take (Try.prog.cellsOf 4)) = xs[17]? := hfx 17 _ rfl
    rw [List.getElem?_eq_getElem (by omega), ceB] at g
    obtain ⟨z, hz, _⟩ := DataW.trod_bool Try.underlying4 g
    exact ⟨z, take1 hz⟩
  refine ⟨{ X := X, S0 := S 0, S1 := S 1, PC := vPC, N := vN, Z := vZ, C := vC, V := vV, EL := vEL, M := vM, Spsr := vSpsr, Elr := vElr, Esr := vEsr, Far := vFar, Vbar := vVbar, Tpidr := vTpidr, Id := vId, Wait := vWait, Ev := vEv }, ?_, ⟨fun i hi => (hX i hi).2, (hS 0 (by omega)).2, (hS 1 (by omega)).2, wPC, wEL, wSpsr, wElr, wEsr, wFar, wVbar, wTpidr, wId, wWait⟩⟩
  congr 1
  apply Array.ext_getElem?
  intro j
  by_cases hj : j < 49
  · rw [← Array.getElem?_toList]
    have : j = 0 ∨ j = 1 ∨ j = 2 ∨ j = 3 ∨ j = 4 ∨ j = 5 ∨ j = 6 ∨ j = 7 ∨ j = 8 ∨ j = 9 ∨ j = 10 ∨ j = 11 ∨ j = 12 ∨ j = 13 ∨ j = 14 ∨ j = 15 ∨ j = 16 ∨ j = 17 ∨ j = 18 ∨ j = 19 ∨ j = 20 ∨ j = 21 ∨ j = 22 ∨ j = 23 ∨ j = 24 ∨ j = 25 ∨ j = 26 ∨ j = 27 ∨ j = 28 ∨ j = 29 ∨ j = 30 ∨ j = 31 ∨ j = 32 ∨ j = 33 ∨ j = 34 ∨ j = 35 ∨ j = 36 ∨ j = 37 ∨ j = 38 ∨ j = 39 ∨ j = 40 ∨ j = 41 ∨ j = 42 ∨ j = 43 ∨ j = 44 ∨ j = 45 ∨ j = 46 ∨ j = 47 ∨ j = 48 := by omega
    rcases this with rfl | rfl | rfl | rfl | rfl | rfl | rfl | rfl | rfl | rfl | rfl | rfl | rfl | rfl | rfl | rfl | rfl | rfl | rfl | rfl | rfl | rfl | rfl | rfl | rfl | rfl | rfl | rfl | rfl | rfl | rfl | rfl | rfl | rfl | rfl | rfl | rfl | rfl | rfl | rfl | rfl | rfl | rfl | rfl | rfl | rfl | rfl | rfl | rfl
    · exact (hX 0 (by omega)).1
    · exact (hX 1 (by omega)).1
    · exact (hX 2 (by omega)).1
    · exact (hX 3 (by omega)).1
    · exact (hX 4 (by omega)).1
    · exact (hX 5 (by omega)).1
    · exact (hX 6 (by omega)).1
    · exact (hX 7 (by omega)).1
    · exact (hX 8 (by omega)).1
    · exact (hX 9 (by omega)).1
    · exact (hX 10 (by omega)).1
    · exact (hX 11 (by omega)).1
    · exact (hX 12 (by omega)).1
    · exact (hX 13 (by omega)).1
    · exact (hX 14 (by omega)).1
    · exact (hX 15 (by omega)).1
    · exact (hX 16 (by omega)).1
    · exact (hX 17 (by omega)).1
    · exact (hX 18 (by omega)).1
    · exact (hX 19 (by omega)).1
    · exact (hX 20 (by omega)).1
    · exact (hX 21 (by omega)).1
    · exact (hX 22 (by omega)).1
    · exact (hX 23 (by omega)).1
    · exact (hX 24 (by omega)).1
    · exact (hX 25 (by omega)).1
    · exact (hX 26 (by omega)).1
    · exact (hX 27 (by omega)).1
    · exact (hX 28 (by omega)).1
    · exact (hX 29 (by omega)).1
    · exact (hX 30 (by omega)).1
    · exact (hS 0 (by omega)).1
    · exact (hS 1 (by omega)).1
    · exact hPC
    · exact hN
    · exact hZ
    · exact hC
    · exact hV
    · exact hEL
    · exact hM
    · exact hSpsr
    · exact hElr
    · exact hEsr
    · exact hFar
    · exact hVbar
    · exact hTpidr
    · exact hId
    · exact hWait
    · exact hEv
  · rw [Array.getElem?_eq_none (by omega), Array.getElem?_eq_none (by show 49 ≤ j; omega)]
end
end Go.Proofs.Ytiaflkabnaofpaa
