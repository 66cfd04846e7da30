/- Two relations of two sizes are refused. -/
import Derived.Test.YtpcpjmbfinpmlaaDoorThn
import Derived.Test.YtpcpjmbfinpmlaaDoorBti
set_option linter.unusedSimpArgs false
set_option linter.unusedVariables false
set_option linter.unusedSectionVars false
namespace Go.Proofs.YtpcpjmbfinpmlaaDoor
open Go.RowKit
set_option maxRecDepth 100000

def NoTo (w : World) (e : Ending) (w' : World) : Prop := e = .returned (.tuple #[.pointer none, .int .i64 6]) ∧ Fr Nil w w'
theorem both_no (fv : Value) (b c n m : Nat) (r s : Rn) (w : World) (hr : RelAt w b n r) (hs : RelAt w c m s) (hnm : n ≠ m) : Calls Tryd.prog 50 #[.pointer (some ⟨b, 0, none⟩), .pointer (some ⟨c, 0, none⟩), fv] w (NoTo w) := by
  have c0 := hr.n_c
  have d0 := hs.n_c
  have hne : ((n : Int) != (m : Int)) = true := by simp; omega
  have heq : ((n : Int) == (m : Int)) = false := by simp; omega
  have F0 := Lib.hid (fun k => Fr.drewN (Fr.refl Nil w) k)
  clear hr hs hnm
  generalize (n : Int) = zn at *
  generalize (m : Int) = zm at *
  go_enter Tryd.func50, Tryd.ntmps50
  go_upto_region 1 with fail
  go_quiet (fail)
  go_wp2_with fail
  go_ret2
  exact ⟨rfl, F0.out _⟩
theorem union_no (b c n m : Nat) (r s : Rn) (w : World) (hr : RelAt w b n r) (hs : RelAt w c m s) (hnm : n ≠ m) : Calls Tryd.prog 23 #[.pointer (some ⟨b, 0, none⟩), .pointer (some ⟨c, 0, none⟩)] w (NoTo w) := by
  have B := Lib.hid (both_no (.func (.func 52) #[] #[]) b c n m r s w hr hs hnm)
  clear hr hs hnm
  go_enter Tryd.func23, Tryd.ntmps23
  go_wp2_with (go_at_call 50; refine B.out.mono ?_; rintro e w2 ⟨rfl, f2⟩; have F2 := Lib.hid f2; clear f2)
  go_ret2
  exact ⟨rfl, F2.out⟩
theorem inter_no (b c n m : Nat) (r s : Rn) (w : World) (hr : RelAt w b n r) (hs : RelAt w c m s) (hnm : n ≠ m) : Calls Tryd.prog 27 #[.pointer (some ⟨b, 0, none⟩), .pointer (some ⟨c, 0, none⟩)] w (NoTo w) := by
  have B := Lib.hid (both_no (.func (.func 53) #[] #[]) b c n m r s w hr hs hnm)
  clear hr hs hnm
  go_enter Tryd.func27, Tryd.ntmps27
  go_wp2_with (go_at_call 50; refine B.out.mono ?_; rintro e w2 ⟨rfl, f2⟩; have F2 := Lib.hid f2; clear f2)
  go_ret2
  exact ⟨rfl, F2.out⟩
theorem minus_no (b c n m : Nat) (r s : Rn) (w : World) (hr : RelAt w b n r) (hs : RelAt w c m s) (hnm : n ≠ m) : Calls Tryd.prog 28 #[.pointer (some ⟨b, 0, none⟩), .pointer (some ⟨c, 0, none⟩)] w (NoTo w) := by
  have B := Lib.hid (both_no (.func (.func 54) #[] #[]) b c n m r s w hr hs hnm)
  clear hr hs hnm
  go_enter Tryd.func28, Tryd.ntmps28
  go_wp2_with (go_at_call 50; refine B.out.mono ?_; rintro e w2 ⟨rfl, f2⟩; have F2 := Lib.hid f2; clear f2)
  go_ret2
  exact ⟨rfl, F2.out⟩
theorem then_no (b c n m : Nat) (r s : Rn) (w : World) (hr : RelAt w b n r) (hs : RelAt w c m s) (hnm : n ≠ m) : Calls Tryd.prog 22 #[.pointer (some ⟨b, 0, none⟩), .pointer (some ⟨c, 0, none⟩)] w (NoTo w) := by
  have FA := Lib.hid ((Fr.refl Nil w).alloc (.cells #[.pointer (some ⟨c, 0, none⟩)] 24))
  have B := Lib.hid (both_no (.func (.func 51) #[] #[.pointer (some ⟨w.heap.size, 0, none⟩)]) b c n m r s (w.alloc (.cells #[.pointer (some ⟨c, 0, none⟩)] 24)) (hr.fr0 FA.out) (hs.fr0 FA.out) hnm)
  clear hr hs hnm
  go_enter Tryd.func22, Tryd.ntmps22
  go_wp2_with fail
  refine B.out.mono ?_
  rintro e w2 ⟨rfl, f2⟩
  have F2 := Lib.hid (FA.out.trans f2)
  clear f2 B FA
  go_wp2_with fail
  go_ret2
  exact ⟨rfl, F2.out⟩
end Go.Proofs.YtpcpjmbfinpmlaaDoor
