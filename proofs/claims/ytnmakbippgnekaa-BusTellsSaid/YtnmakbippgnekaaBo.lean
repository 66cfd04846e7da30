/- What the console was told, as a string. -/
import Derived.Test.YtnmakbippgnekaaBt
import Derived.Laws.IdiomStrings
set_option linter.unusedSimpArgs false
set_option linter.unusedVariables false
set_option linter.unusedSectionVars false
namespace Go.Proofs.Ytnmakbippgnekaa
open Go.RowKit
set_option maxRecDepth 100000
section
variable {K : Nat → Prop} {w w' : World} {bb gb tb : Nat} {B : BS}
theorem str_ok {w : World} {ov : Value} {l : List UInt8} (h : Win w 5 1 ov l.length (bys l)) : Sem.run Try.prog (convert 33 9 ov) w = .ok (.string ⟨l.toArray⟩) w := by
  cases l with
  | nil =>
    obtain ⟨ao, cap, rfl, hle, hmx, hsp⟩ := h.shape
    rw [run_convert_bytes_string w 33 9 5 ao _ _ Try.underlying33 Try.underlying5 Try.underlying9]
    cases ao with
    | none => rfl
    | some a => exact run_bytesToString w a 0 cap [] rfl
  | cons x l =>
    obtain ⟨g, off, cap, rfl, hle, hmx, hlt, hc, hf⟩ := h.form (by simp)
    refine run_convert_bytes_back w 33 9 5 ⟨g, off, none⟩ cap (x :: l) Try.underlying33 Try.underlying5 Try.underlying9 fun j hj => ?_
    have := hc j (.int .u8 ((x :: l)[j].toNat : Int)) (by
      unfold bys
      rw [List.getElem?_map, List.getElem?_eq_getElem hj]
      rfl)
    rw [Addr.add_lit]
    exact this
theorem out_ok (w : World) (h : Bk K w bb gb tb B) : Calls Try.prog 15 #[.pointer (some ⟨bb, 0, none⟩)] w fun e w' => e = .returned (.string ⟨B.o.toArray⟩) ∧ w = w' := by
  obtain ⟨tr, ov, h1, h2, h3⟩ := h.mem
  have E := str_ok h1.out
  obtain ⟨ao, cap0, ev, hle, hmx, -⟩ := h1.out.shape
  have c3 : w.cell? ⟨bb, 3, none⟩ = some ov := h1.top.cellv rfl
  subst ev
  clear h h1 h2 h3
  go_enter Try.func15, Try.ntmps15
  go_wp2_with fail
  go_ret
  exact ⟨rfl, rfl⟩
end
end Go.Proofs.Ytnmakbippgnekaa
