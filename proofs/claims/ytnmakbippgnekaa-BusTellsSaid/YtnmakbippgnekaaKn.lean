/- The bus: the examples, walked. -/
import Derived.Test.YtnmakbippgnekaaBk
set_option linter.unusedSimpArgs false
set_option linter.unusedVariables false
set_option linter.unusedSectionVars false
namespace Go.Proofs.Ytnmakbippgnekaa
open Go.RowKit
set_option maxRecDepth 100000

theorem Bw.nil {w0 w : World} {bb gb tb : Nat} {B : BS} (h : Bw w0 w bb gb tb B) : Fr Nil w0 w := h.fr.mono fun k hk hn => (hn hk).elim
theorem at1 : AtLe K1.g 0 := (AtLe.b0 2).wr _ _ _
theorem at2 : AtLe K2.g 0 := at1.set_ _ _ _ _
theorem at3 : AtLe K3.g 0 := at2.set_ _ _ _ _
theorem at4 : AtLe K4.g 0 := at3.set_ _ _ _ _
theorem at5 : AtLe K5.g 0 := at4.lined _
set_option maxHeartbeats 2000000 in
theorem known_ok (w : World) : Calls Try.prog 7 #[] w fun e w' => e = .returned (.bool true) ∧ Fr Nil w w' := by
  go_enter Try.func7, Try.ntmps7
  go_wp2_with fail
  refine (bw_new (w0 := w) (Fr.refl _ w) 2 rfl (by decide) (by decide)).mono ?_
  rintro e w1 ⟨bb, gb, tb, rfl, h1⟩
  have H1 := Lib.hid h1
  clear h1
  go_wp2_with fail
  refine (H1.out.gicp).mono ?_
  rintro e w2 ⟨rfl, h2⟩
  have H2 := Lib.hid h2
  clear h2 H1
  go_wp2_with fail
  refine (H2.out.timp).mono ?_
  rintro e w3 ⟨rfl, h3⟩
  have H3 := Lib.hid h3
  clear h3 H2
  go_wp2_with fail
  refine (H3.out.write 1 134217728 1099511627778 (by decide) (by decide) (by decide) (by decide) k1f (show _ = K1 from rfl)).mono ?_
  rintro e w4 ⟨rfl, h4⟩
  have H4 := Lib.hid h4
  clear h4 H3
  go_wp2_with fail
  refine (H4.out.read 1 134217728 (by decide) (by decide) k1a).mono ?_
  rintro e w5 ⟨rfl, h5⟩
  have H5 := Lib.hid h5
  clear h5 H4
  go_wp2_with fail
  refine (H5.out.read 0 134217728 (by decide) (by decide) k1b).mono ?_
  rintro e w6 ⟨rfl, h6⟩
  have H6 := Lib.hid h6
  clear h6 H5
  go_wp2_with fail
  refine (H6.out.read 0 134219264 (by decide) (by decide) k1c).mono ?_
  rintro e w7 ⟨rfl, h7⟩
  have H7 := Lib.hid h7
  clear h7 H6
  go_wp2_with fail
  refine (H7.out.set_ 0 1 18013 1099595513856 (by decide) (by decide) 0 (by decide) at1 k2v (show _ = K2 from rfl)).mono ?_
  rintro e w8 ⟨rfl, h8⟩
  have H8 := Lib.hid h8
  clear h8 H7
  go_wp2_with fail
  refine (H8.out.set_ 1 0 24346 3 (by decide) (by decide) 0 (by decide) at2 k3v (show _ = K3 from rfl)).mono ?_
  rintro e w9 ⟨rfl, h9⟩
  have H9 := Lib.hid h9
  clear h9 H8
  go_wp2_with fail
  refine (H9.out.set_ 1 0 24345 1 (by decide) (by decide) 0 (by decide) at3 k4v (show _ = K4 from rfl)).mono ?_
  rintro e w10 ⟨rfl, h10⟩
  have H10 := Lib.hid h10
  clear h10 H9
  go_wp2_with fail
  refine (H10.out.tick 3 (show _ = K5 from rfl)).mono ?_
  rintro e w11 ⟨rfl, h11⟩
  have H11 := Lib.hid h11
  clear h11 H10
  go_wp2_with fail
  refine (H11.out.sys 1 0 18016 0 (by decide) at5 k6v (show _ = K6 from rfl)).mono ?_
  rintro e w12 ⟨rfl, h12⟩
  have H12 := Lib.hid h12
  clear h12 H11
  go_wp2_with fail
  refine (H12.out.write 0 150994944 321 (by decide) (by decide) (by decide) (by decide) k7v (show _ = K7 from rfl)).mono ?_
  rintro e w13 ⟨rfl, h13⟩
  have H13 := Lib.hid h13
  clear h13 H12
  go_wp2_with fail
  refine (H13.out.gicp).mono ?_
  rintro e w14 ⟨rfl, h14⟩
  have H14 := Lib.hid h14
  clear h14 H13
  go_wp2_with fail
  refine (H14.out.pend 0 5 k7a).mono ?_
  rintro e w15 ⟨rfl, h15⟩
  have H15 := Lib.hid h15
  clear h15 H14
  go_wp2_with fail
  refine (H15.out.gicp).mono ?_
  rintro e w16 ⟨rfl, h16⟩
  have H16 := Lib.hid h16
  clear h16 H15
  go_wp2_with fail
  refine (H16.out.pend 1 5 k7b).mono ?_
  rintro e w17 ⟨rfl, h17⟩
  have H17 := Lib.hid h17
  clear h17 H16
  go_wp2_with fail
  refine (H17.out.gicp).mono ?_
  rintro e w18 ⟨rfl, h18⟩
  have H18 := Lib.hid h18
  clear h18 H17
  go_wp2_with fail
  refine (H18.out.pend 1 27 k7c).mono ?_
  rintro e w19 ⟨rfl, h19⟩
  have H19 := Lib.hid h19
  clear h19 H18
  go_wp2_with fail
  refine (H19.out.out k7o).mono ?_
  rintro e w20 ⟨rfl, h20⟩
  have H20 := Lib.hid h20
  clear h20 H19
  go_wp2_with fail
  go_ret
  exact ⟨rfl, H20.out.nil⟩
end Go.Proofs.Ytnmakbippgnekaa
