/- OnesCount64, walked. -/
import Derived.Test.YthmlkealefboaaaCnt
namespace Go.Proofs.Ythmlkealefboaaa
open Go.RowKit
set_option linter.unusedVariables false
set_option maxRecDepth 100000
theorem wrap_mod (f : Nat) : wrap64 (f : Int) % 128 = ((f % 128 : Nat) : Int) := by unfold wrap64; omega
theorem oc_fin (x : Nat) (hx : x < 2 ^ 64) (xi a b c d e f : Int) (hxi : (x : Int) = xi) (h1 : IntKind.u64.wrap (bits .and .u64 (xi / 2) 6148914691236517205 + bits .and .u64 xi 6148914691236517205) = a)
    (h2 : IntKind.u64.wrap (bits .and .u64 (a / 4) 3689348814741910323 + bits .and .u64 a 3689348814741910323) = b) (h3 : bits .and .u64 (IntKind.u64.wrap (b / 16 + b)) 1085102592571150095 = c)
    (h4 : IntKind.u64.wrap (c + c / 256) = d) (h5 : IntKind.u64.wrap (d + d / 65536) = e) (h6 : IntKind.u64.wrap (e + e / 4294967296) = f) : bits .and .i64 (wrap64 f) 127 = (oc x : Int) := by
  obtain ⟨a', b', c', d', e', f', ho, fa, fb, fc, fd, fe, ff⟩ := oc_steps x hx
  subst hxi
  obtain rfl : a = (a' : Int) := h1.symm.trans fa
  obtain rfl : b = (b' : Int) := h2.symm.trans fb
  obtain rfl : c = (c' : Int) := h3.symm.trans fc
  obtain rfl : d = (d' : Int) := h4.symm.trans fd
  obtain rfl : e = (e' : Int) := h5.symm.trans fe
  obtain rfl : f = (f' : Int) := h6.symm.trans ff
  rw [and127, ho]
  exact wrap_mod f'
set_option maxHeartbeats 400000 in
theorem oc_ok (x : Nat) (w : World) (hx : x < 2 ^ 64) : Calls Try.prog 26 #[.int .u64 (x : Int)] w fun e w' => e = .returned (.int .i64 (oc x : Int)) ∧ w = w' := by
  have HF := Lib.hid (oc_fin x hx)
  generalize oc x = o at *
  obtain ⟨xi, hxi⟩ : ∃ xi : Int, (x : Int) = xi := ⟨_, rfl⟩
  have HX := Lib.hid hxi
  rw [hxi]
  clear hxi hx
  go_enter Try.func26, Try.ntmps26
  go_upto_region 2 with fail
  generalize h1 : (IntKind.u64.wrap (bits .and .u64 (xi / 2) 6148914691236517205 + bits .and .u64 xi 6148914691236517205)) = a1
  have H1 := Lib.hid h1
  clear h1
  go_upto_region 3 with fail
  generalize h1 : (IntKind.u64.wrap (bits .and .u64 (a1 / 4) 3689348814741910323 + bits .and .u64 a1 3689348814741910323)) = a2
  have H2 := Lib.hid h1
  clear h1
  go_upto_region 4 with fail
  generalize h1 : (bits .and .u64 (IntKind.u64.wrap (a2 / 16 + a2)) 1085102592571150095) = a3
  have H3 := Lib.hid h1
  clear h1
  go_upto_region 5 with fail
  generalize h1 : (IntKind.u64.wrap (a3 + a3 / 256)) = a4
  have H4 := Lib.hid h1
  clear h1
  go_upto_region 6 with fail
  generalize h1 : (IntKind.u64.wrap (a4 + a4 / 65536)) = a5
  have H5 := Lib.hid h1
  clear h1
  go_upto_region 7 with fail
  generalize h1 : (IntKind.u64.wrap (a5 + a5 / 4294967296)) = a6
  have H6 := Lib.hid h1
  clear h1
  go_wp2_with fail
  have fin := HF.out xi a1 a2 a3 a4 a5 a6 HX.out H1.out H2.out H3.out H4.out H5.out H6.out
  clear H1 H2 H3 H4 H5 H6 HF HX
  go_ret
  exact ⟨by rw [← fin]; rfl, rfl⟩
end Go.Proofs.Ythmlkealefboaaa
