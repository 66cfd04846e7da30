/- RelLaws: the walk. -/
import Derived.Test.YtpcpjmbfinpmlaaDoorOdd
import Derived.Test.YtpcpjmbfinpmlaaDoorRmd
set_option linter.unusedSimpArgs false
set_option linter.unusedVariables false
set_option linter.unusedSectionVars false
namespace Go.Proofs.YtpcpjmbfinpmlaaDoor
open Go.RowKit
set_option maxRecDepth 100000

set_option maxHeartbeats 4000000 in
theorem relLaws_walk (z : Int) (a0 : Option Addr) (l0 c0 : Nat) (P : Nat → Int × Int) (a1 : Option Addr) (l1 c1 : Nat) (Q : Nat → Int × Int) (a2 : Option Addr) (l2 c2 : Nat) (R : Nat → Int × Int) (w : World) (wz : (Lit.int .i64 z).wf = true)
    (hl0 : l0 ≤ c0) (hc0 : c0 ≤ maxLen) (hP : Prs w a0 l0 P) (hl1 : l1 ≤ c1) (hc1 : c1 ≤ maxLen) (hQ : Prs w a1 l1 Q) (hl2 : l2 ≤ c2) (hc2 : c2 ≤ maxLen) (hR : Prs w a2 l2 R) (hT : Tab w) :
    Calls Tryd.prog 5 #[.int .i64 z, .slice a0 l0 c0, .slice a1 l1 c1, .slice a2 l2 c2] w fun e w' => e = .returned (.bool true) ∧ Below w.heap.size w w' := by
  have HT := Lib.hid hT
  have h0 : (l0 : Int) ≤ 9223372036854775807 := by simp only [maxLen] at hc0; omega
  have h1 : (l1 : Int) ≤ 9223372036854775807 := by simp only [maxLen] at hc1; omega
  have h2 : (l2 : Int) ≤ 9223372036854775807 := by simp only [maxLen] at hc2; omega
  have EX := Lib.hid (examples_ok w hT)
  have MD1 := Lib.hid (fun W (hW : Fr Nil w W) => made_ok z a0 l0 c0 P W (hP.fr0 hW) h0)
  have MD2 := Lib.hid (fun W (hW : Fr Nil w W) => made_ok z a1 l1 c1 Q W (hQ.fr0 hW) h1)
  have MD3 := Lib.hid (fun W (hW : Fr Nil w W) => made_ok z a2 l2 c2 R W (hR.fr0 hW) h2)
  clear hT wz hl0 hc0 hP hl1 hc1 hQ hl2 hc2 hR h0 h1 h2
  go_enter Tryd.func5, Tryd.ntmps5
  go_wp2_with fail
  refine EX.out.mono ?_
  rintro e w1 ⟨rfl, f1⟩
  have F := Lib.hid f1
  clear f1 EX
  go_wp2_with fail
  refine (MD1.out w1 F.out).mono ?_
  intro e w2 hm
  rcases hm with ⟨hz, rfl, rfl⟩ | ⟨n, br, bx, rfl, hn, rfl, hr, -, f2, -, -⟩
  · go_wp2_with fail
    refine (MD2.out w1 F.out).mono ?_
    intro e w2 hm
    rcases hm with ⟨-, rfl, rfl⟩ | ⟨n, br, bx, e1, hn, -⟩
    · go_wp2_with fail
      refine (MD3.out w1 F.out).mono ?_
      intro e w2 hm
      rcases hm with ⟨-, rfl, rfl⟩ | ⟨n, br, bx, e1, hn, -⟩
      · clear hz
        go_wp2_with fail
        go_ret
        exact ⟨rfl, F.out.below (Nat.le_refl _) fun _ _ x => x⟩
      · exact absurd hz (by omega)
    · exact absurd hz (by omega)
  have HN := Lib.hid hn
  have A_r := Lib.hid hr
  have F_ := Lib.hid (F.out.trans f2)
  clear F
  have F := F_
  clear F_ hn hr f2 MD1
  generalize mdR n P (min l0 5000) = r at *
  go_wp2_with fail
  refine (MD2.out w2 F.out).mono ?_
  intro e w3 hm
  rcases hm with ⟨hz, -, -⟩ | ⟨n2, bs, bx2, e1, hn, rfl, hs, -, f2, -, -⟩
  · exact absurd hz (by have := HN.out; omega)
  obtain rfl : n = n2 := by omega
  have A_s := Lib.hid hs
  have A_r_ := Lib.hid (A_r.out.fr0 f2)
  clear A_r
  have A_r := A_r_
  have F_ := Lib.hid (F.out.trans f2)
  clear F
  have F := F_
  clear F_ A_r_ hn hs f2 MD2 e1
  generalize mdR n Q (min l1 5000) = s at *
  go_wp2_with fail
  refine (MD3.out w3 F.out).mono ?_
  intro e w4 hm
  rcases hm with ⟨hz, -, -⟩ | ⟨n2, bt, bx3, e1, hn, rfl, ht, -, f2, -, -⟩
  · exact absurd hz (by have := HN.out; omega)
  obtain rfl : n = n2 := by omega
  have A_t := Lib.hid ht
  have A_r_ := Lib.hid (A_r.out.fr0 f2)
  have A_s_ := Lib.hid (A_s.out.fr0 f2)
  clear A_r A_s
  have A_r := A_r_
  have A_s := A_s_
  have F_ := Lib.hid (F.out.trans f2)
  clear F
  have F := F_
  clear F_ A_r_ A_s_ hn ht f2 MD3 e1
  generalize mdR n R (min l2 5000) = t at *
  have OKr := Lib.hid A_r.out.ok

  go_wp2_with fail
  refine (then_ok br bs n r s w4 A_r.out A_s.out (HT.out.fr0 F.out)).mono ?_
  rintro e w5 ⟨b_x, rfl, hh, ff, -⟩
  have A_r_ := Lib.hid (A_r.out.fr0 ff)
  have A_s_ := Lib.hid (A_s.out.fr0 ff)
  have A_t_ := Lib.hid (A_t.out.fr0 ff)
  have F_ := Lib.hid (F.out.trans ff)
  clear F A_r A_s A_t 
  have A_r := A_r_
  have A_s := A_s_
  have A_t := A_t_
  have F := F_
  clear F_ A_r_ A_s_ A_t_ 
  have A_x := Lib.hid hh
  clear hh ff
  go_wp2_with fail
  refine (then_ok b_x bt n (thenR r s) t w5 A_x.out A_t.out (HT.out.fr0 F.out)).mono ?_
  rintro e w6 ⟨b_y, rfl, hh, ff, -⟩
  have A_r_ := Lib.hid (A_r.out.fr0 ff)
  have A_s_ := Lib.hid (A_s.out.fr0 ff)
  have A_t_ := Lib.hid (A_t.out.fr0 ff)
  have A_x_ := Lib.hid (A_x.out.fr0 ff)
  have F_ := Lib.hid (F.out.trans ff)
  clear F A_r A_s A_t A_x 
  have A_r := A_r_
  have A_s := A_s_
  have A_t := A_t_
  have A_x := A_x_
  have F := F_
  clear F_ A_r_ A_s_ A_t_ A_x_ 
  have A_y := Lib.hid hh
  clear hh ff
  clear A_x
  go_wp2_with fail
  refine (then_ok bs bt n s t w6 A_s.out A_t.out (HT.out.fr0 F.out)).mono ?_
  rintro e w7 ⟨b_z, rfl, hh, ff, -⟩
  have A_r_ := Lib.hid (A_r.out.fr0 ff)
  have A_s_ := Lib.hid (A_s.out.fr0 ff)
  have A_t_ := Lib.hid (A_t.out.fr0 ff)
  have A_y_ := Lib.hid (A_y.out.fr0 ff)
  have F_ := Lib.hid (F.out.trans ff)
  clear F A_r A_s A_t A_y 
  have A_r := A_r_
  have A_s := A_s_
  have A_t := A_t_
  have A_y := A_y_
  have F := F_
  clear F_ A_r_ A_s_ A_t_ A_y_ 
  have A_z := Lib.hid hh
  clear hh ff
  clear A_t
  go_wp2_with fail
  have CC := then_ok br b_z n r (thenR s t) w7 A_r.out A_z.out (HT.out.fr0 F.out)
  rw [← thenR_assoc] at CC
  refine CC.mono ?_
  clear CC
  rintro e w8 ⟨b_v, rfl, hh, ff, -⟩
  have A_r_ := Lib.hid (A_r.out.fr0 ff)
  have A_s_ := Lib.hid (A_s.out.fr0 ff)
  have A_y_ := Lib.hid (A_y.out.fr0 ff)
  have A_z_ := Lib.hid (A_z.out.fr0 ff)
  have F_ := Lib.hid (F.out.trans ff)
  clear F A_r A_s A_y A_z 
  have A_r := A_r_
  have A_s := A_s_
  have A_y := A_y_
  have A_z := A_z_
  have F := F_
  clear F_ A_r_ A_s_ A_y_ A_z_ 
  have A_v := Lib.hid hh
  clear hh ff
  clear A_z
  go_wp2_with fail
  refine (union_ok br bs n r s w8 A_r.out A_s.out).mono ?_
  rintro e w9 ⟨b_u, rfl, hh, ff, -⟩
  have A_r_ := Lib.hid (A_r.out.fr0 ff)
  have A_s_ := Lib.hid (A_s.out.fr0 ff)
  have A_y_ := Lib.hid (A_y.out.fr0 ff)
  have A_v_ := Lib.hid (A_v.out.fr0 ff)
  have F_ := Lib.hid (F.out.trans ff)
  clear F A_r A_s A_y A_v 
  have A_r := A_r_
  have A_s := A_s_
  have A_y := A_y_
  have A_v := A_v_
  have F := F_
  clear F_ A_r_ A_s_ A_y_ A_v_ 
  have A_u := Lib.hid hh
  clear hh ff
  go_wp2_with fail
  have CC := turned_ok br n r w9 A_r.out (HT.out.fr0 F.out)
  refine CC.mono ?_
  clear CC
  rintro e w10 ⟨b_tr, rfl, hh, ff, -⟩
  have A_r_ := Lib.hid (A_r.out.fr0 ff)
  have A_s_ := Lib.hid (A_s.out.fr0 ff)
  have A_y_ := Lib.hid (A_y.out.fr0 ff)
  have A_v_ := Lib.hid (A_v.out.fr0 ff)
  have A_u_ := Lib.hid (A_u.out.fr0 ff)
  have F_ := Lib.hid (F.out.trans ff)
  clear F A_r A_s A_y A_v A_u 
  have A_r := A_r_
  have A_s := A_s_
  have A_y := A_y_
  have A_v := A_v_
  have A_u := A_u_
  have F := F_
  clear F_ A_r_ A_s_ A_y_ A_v_ A_u_ 
  have A_tr := Lib.hid hh
  clear hh ff
  go_wp2_with fail
  have CC := turned_ok bs n s w10 A_s.out (HT.out.fr0 F.out)
  refine CC.mono ?_
  clear CC
  rintro e w11 ⟨b_ts, rfl, hh, ff, -⟩
  have A_r_ := Lib.hid (A_r.out.fr0 ff)
  have A_s_ := Lib.hid (A_s.out.fr0 ff)
  have A_y_ := Lib.hid (A_y.out.fr0 ff)
  have A_v_ := Lib.hid (A_v.out.fr0 ff)
  have A_u_ := Lib.hid (A_u.out.fr0 ff)
  have A_tr_ := Lib.hid (A_tr.out.fr0 ff)
  have F_ := Lib.hid (F.out.trans ff)
  clear F A_r A_s A_y A_v A_u A_tr 
  have A_r := A_r_
  have A_s := A_s_
  have A_y := A_y_
  have A_v := A_v_
  have A_u := A_u_
  have A_tr := A_tr_
  have F := F_
  clear F_ A_r_ A_s_ A_y_ A_v_ A_u_ A_tr_ 
  have A_ts := Lib.hid hh
  clear hh ff
  go_wp2_with fail
  refine (union_ok b_tr b_ts n (trn r) (trn s) w11 A_tr.out A_ts.out).mono ?_
  rintro e w12 ⟨b_q, rfl, hh, ff, -⟩
  have A_r_ := Lib.hid (A_r.out.fr0 ff)
  have A_s_ := Lib.hid (A_s.out.fr0 ff)
  have A_y_ := Lib.hid (A_y.out.fr0 ff)
  have A_v_ := Lib.hid (A_v.out.fr0 ff)
  have A_u_ := Lib.hid (A_u.out.fr0 ff)
  have A_tr_ := Lib.hid (A_tr.out.fr0 ff)
  have A_ts_ := Lib.hid (A_ts.out.fr0 ff)
  have F_ := Lib.hid (F.out.trans ff)
  clear F A_r A_s A_y A_v A_u A_tr A_ts 
  have A_r := A_r_
  have A_s := A_s_
  have A_y := A_y_
  have A_v := A_v_
  have A_u := A_u_
  have A_tr := A_tr_
  have A_ts := A_ts_
  have F := F_
  clear F_ A_r_ A_s_ A_y_ A_v_ A_u_ A_tr_ A_ts_ 
  have A_q := Lib.hid hh
  clear hh ff
  clear A_tr
  clear A_ts
  clear A_s
  go_wp2_with fail
  refine (order_ok br n r w12 A_r.out (HT.out.fr0 F.out)).mono ?_
  rintro e w13 ⟨L, hO, ff, hh⟩
  have A_r_ := Lib.hid (A_r.out.fr0 ff)
  have A_y_ := Lib.hid (A_y.out.fr0 ff)
  have A_v_ := Lib.hid (A_v.out.fr0 ff)
  have A_u_ := Lib.hid (A_u.out.fr0 ff)
  have A_q_ := Lib.hid (A_q.out.fr0 ff)
  have F_ := Lib.hid (F.out.trans ff)
  clear F A_r A_y A_v A_u A_q 
  have A_r := A_r_
  have A_y := A_y_
  have A_v := A_v_
  have A_u := A_u_
  have A_q := A_q_
  have F := F_
  clear F_ A_r_ A_y_ A_v_ A_u_ A_q_ 
  clear ff
  have HO := Lib.hid hO
  clear hO
  rcases hh with ⟨hlt, rfl⟩ | ⟨he, la, lc, rfl, hl⟩
  · have HLT := Lib.hid hlt
    clear hlt
    go_wp2_with fail
    refine (loop_ok br n r w13 A_r.out).mono ?_
    rintro e w14 ⟨hh, ff⟩
    have A_r_ := Lib.hid (A_r.out.fr0 ff)
    have A_y_ := Lib.hid (A_y.out.fr0 ff)
    have A_v_ := Lib.hid (A_v.out.fr0 ff)
    have A_u_ := Lib.hid (A_u.out.fr0 ff)
    have A_q_ := Lib.hid (A_q.out.fr0 ff)
    have F_ := Lib.hid (F.out.trans ff)
    clear F A_r A_y A_v A_u A_q 
    have A_r := A_r_
    have A_y := A_y_
    have A_v := A_v_
    have A_u := A_u_
    have A_q := A_q_
    have F := F_
    clear F_ A_r_ A_y_ A_v_ A_u_ A_q_ 
    clear ff
    rcases hh with ⟨la0, h1, h2, -, rfl⟩ | ⟨hno, rfl⟩
    rotate_left
    · obtain ⟨a, h1, h2⟩ := noorder_loop OKr.out HN.out HO.out HLT.out
      rw [hno a h1] at h2
      cases h2
    clear h1 h2
    go_wp2_with fail
    have CC := closed_ok br n r w14 A_r.out
    refine CC.mono ?_
    clear CC
    rintro e w15 ⟨b_c, rfl, hh, ff, -⟩
    have A_r_ := Lib.hid (A_r.out.fr0 ff)
    have A_y_ := Lib.hid (A_y.out.fr0 ff)
    have A_v_ := Lib.hid (A_v.out.fr0 ff)
    have A_u_ := Lib.hid (A_u.out.fr0 ff)
    have A_q_ := Lib.hid (A_q.out.fr0 ff)
    have F_ := Lib.hid (F.out.trans ff)
    clear F A_r A_y A_v A_u A_q 
    have A_r := A_r_
    have A_y := A_y_
    have A_v := A_v_
    have A_u := A_u_
    have A_q := A_q_
    have F := F_
    clear F_ A_r_ A_y_ A_v_ A_u_ A_q_ 
    have A_c := Lib.hid hh
    clear hh ff
    go_wp2_with fail
    have CC := closed_ok b_c n (clo n r) w15 A_c.out
    rw [clo_idem OKr.out] at CC
    refine CC.mono ?_
    clear CC
    rintro e w16 ⟨b_cc, rfl, hh, ff, -⟩
    have A_r_ := Lib.hid (A_r.out.fr0 ff)
    have A_y_ := Lib.hid (A_y.out.fr0 ff)
    have A_v_ := Lib.hid (A_v.out.fr0 ff)
    have A_u_ := Lib.hid (A_u.out.fr0 ff)
    have A_q_ := Lib.hid (A_q.out.fr0 ff)
    have A_c_ := Lib.hid (A_c.out.fr0 ff)
    have F_ := Lib.hid (F.out.trans ff)
    clear F A_r A_y A_v A_u A_q A_c 
    have A_r := A_r_
    have A_y := A_y_
    have A_v := A_v_
    have A_u := A_u_
    have A_q := A_q_
    have A_c := A_c_
    have F := F_
    clear F_ A_r_ A_y_ A_v_ A_u_ A_q_ A_c_ 
    have A_cc := Lib.hid hh
    clear hh ff
    go_wp2_with fail
    refine (pairs_ok b_cc n (clo n r) w16 A_cc.out (HT.out.fr0 F.out)).mono ?_
    rintro e w17 ⟨pap1, pcp1, rfl, hl⟩
    have A_r_ := Lib.hid (A_r.out.fr0 hl.fr)
    have A_y_ := Lib.hid (A_y.out.fr0 hl.fr)
    have A_v_ := Lib.hid (A_v.out.fr0 hl.fr)
    have A_u_ := Lib.hid (A_u.out.fr0 hl.fr)
    have A_q_ := Lib.hid (A_q.out.fr0 hl.fr)
    have A_c_ := Lib.hid (A_c.out.fr0 hl.fr)
    have A_cc_ := Lib.hid (A_cc.out.fr0 hl.fr)
    have F_ := Lib.hid (F.out.trans hl.fr)
    clear F A_r A_y A_v A_u A_q A_c A_cc 
    have A_r := A_r_
    have A_y := A_y_
    have A_v := A_v_
    have A_u := A_u_
    have A_q := A_q_
    have A_c := A_c_
    have A_cc := A_cc_
    have F := F_
    clear F_ A_r_ A_y_ A_v_ A_u_ A_q_ A_c_ A_cc_ 
    have V_p1 := Lib.hid hl.win
    clear hl
    clear A_cc
    go_wp2_with fail
    refine (pairs_ok b_c n (clo n r) w17 A_c.out (HT.out.fr0 F.out)).mono ?_
    rintro e w18 ⟨pap2, pcp2, rfl, hl⟩
    have A_r_ := Lib.hid (A_r.out.fr0 hl.fr)
    have A_y_ := Lib.hid (A_y.out.fr0 hl.fr)
    have A_v_ := Lib.hid (A_v.out.fr0 hl.fr)
    have A_u_ := Lib.hid (A_u.out.fr0 hl.fr)
    have A_q_ := Lib.hid (A_q.out.fr0 hl.fr)
    have A_c_ := Lib.hid (A_c.out.fr0 hl.fr)
    have V_p1_ := Lib.hid (V_p1.out.fr hl.fr fun _ _ => id)
    have F_ := Lib.hid (F.out.trans hl.fr)
    clear F A_r A_y A_v A_u A_q A_c V_p1
    have A_r := A_r_
    have A_y := A_y_
    have A_v := A_v_
    have A_u := A_u_
    have A_q := A_q_
    have A_c := A_c_
    have V_p1 := V_p1_
    have F := F_
    clear F_ A_r_ A_y_ A_v_ A_u_ A_q_ A_c_ V_p1_
    have V_p2 := Lib.hid hl.win
    clear hl
    clear A_c
    go_wp2_with fail
    refine (same_ok (prs (clo n r)) pap1 pap2 pcp1 pcp2 w18 V_p1.out V_p2.out (prsK_len (clo n r) 64)).mono ?_
    rintro e w19 ⟨rfl, ff⟩
    have A_r_ := Lib.hid (A_r.out.fr0 ff)
    have A_y_ := Lib.hid (A_y.out.fr0 ff)
    have A_v_ := Lib.hid (A_v.out.fr0 ff)
    have A_u_ := Lib.hid (A_u.out.fr0 ff)
    have A_q_ := Lib.hid (A_q.out.fr0 ff)
    have V_p1_ := Lib.hid (V_p1.out.fr ff fun _ _ => id)
    have V_p2_ := Lib.hid (V_p2.out.fr ff fun _ _ => id)
    have F_ := Lib.hid (F.out.trans ff)
    clear F A_r A_y A_v A_u A_q V_p1 V_p2
    have A_r := A_r_
    have A_y := A_y_
    have A_v := A_v_
    have A_u := A_u_
    have A_q := A_q_
    have V_p1 := V_p1_
    have V_p2 := V_p2_
    have F := F_
    clear F_ A_r_ A_y_ A_v_ A_u_ A_q_ V_p1_ V_p2_
    clear ff
    clear V_p1
    clear V_p2
    go_wp2_with fail
    refine (pairs_ok b_y n (thenR (thenR r s) t) w19 A_y.out (HT.out.fr0 F.out)).mono ?_
    rintro e w20 ⟨pap3, pcp3, rfl, hl⟩
    have A_r_ := Lib.hid (A_r.out.fr0 hl.fr)
    have A_y_ := Lib.hid (A_y.out.fr0 hl.fr)
    have A_v_ := Lib.hid (A_v.out.fr0 hl.fr)
    have A_u_ := Lib.hid (A_u.out.fr0 hl.fr)
    have A_q_ := Lib.hid (A_q.out.fr0 hl.fr)
    have F_ := Lib.hid (F.out.trans hl.fr)
    clear F A_r A_y A_v A_u A_q 
    have A_r := A_r_
    have A_y := A_y_
    have A_v := A_v_
    have A_u := A_u_
    have A_q := A_q_
    have F := F_
    clear F_ A_r_ A_y_ A_v_ A_u_ A_q_ 
    have V_p3 := Lib.hid hl.win
    clear hl
    clear A_y
    go_wp2_with fail
    refine (pairs_ok b_v n (thenR (thenR r s) t) w20 A_v.out (HT.out.fr0 F.out)).mono ?_
    rintro e w21 ⟨pap4, pcp4, rfl, hl⟩
    have A_r_ := Lib.hid (A_r.out.fr0 hl.fr)
    have A_v_ := Lib.hid (A_v.out.fr0 hl.fr)
    have A_u_ := Lib.hid (A_u.out.fr0 hl.fr)
    have A_q_ := Lib.hid (A_q.out.fr0 hl.fr)
    have V_p3_ := Lib.hid (V_p3.out.fr hl.fr fun _ _ => id)
    have F_ := Lib.hid (F.out.trans hl.fr)
    clear F A_r A_v A_u A_q V_p3
    have A_r := A_r_
    have A_v := A_v_
    have A_u := A_u_
    have A_q := A_q_
    have V_p3 := V_p3_
    have F := F_
    clear F_ A_r_ A_v_ A_u_ A_q_ V_p3_
    have V_p4 := Lib.hid hl.win
    clear hl
    clear A_v
    go_wp2_with fail
    refine (same_ok (prs (thenR (thenR r s) t)) pap3 pap4 pcp3 pcp4 w21 V_p3.out V_p4.out (prsK_len (thenR (thenR r s) t) 64)).mono ?_
    rintro e w22 ⟨rfl, ff⟩
    have A_r_ := Lib.hid (A_r.out.fr0 ff)
    have A_u_ := Lib.hid (A_u.out.fr0 ff)
    have A_q_ := Lib.hid (A_q.out.fr0 ff)
    have V_p3_ := Lib.hid (V_p3.out.fr ff fun _ _ => id)
    have V_p4_ := Lib.hid (V_p4.out.fr ff fun _ _ => id)
    have F_ := Lib.hid (F.out.trans ff)
    clear F A_r A_u A_q V_p3 V_p4
    have A_r := A_r_
    have A_u := A_u_
    have A_q := A_q_
    have V_p3 := V_p3_
    have V_p4 := V_p4_
    have F := F_
    clear F_ A_r_ A_u_ A_q_ V_p3_ V_p4_
    clear ff
    clear V_p3
    clear V_p4
    go_wp2_with fail
    have CC := turned_ok br n r w22 A_r.out (HT.out.fr0 F.out)
    refine CC.mono ?_
    clear CC
    rintro e w23 ⟨b_a, rfl, hh, ff, -⟩
    have A_r_ := Lib.hid (A_r.out.fr0 ff)
    have A_u_ := Lib.hid (A_u.out.fr0 ff)
    have A_q_ := Lib.hid (A_q.out.fr0 ff)
    have F_ := Lib.hid (F.out.trans ff)
    clear F A_r A_u A_q 
    have A_r := A_r_
    have A_u := A_u_
    have A_q := A_q_
    have F := F_
    clear F_ A_r_ A_u_ A_q_ 
    have A_a := Lib.hid hh
    clear hh ff
    go_wp2_with fail
    have CC := turned_ok b_a n (trn r) w23 A_a.out (HT.out.fr0 F.out)
    change Calls _ _ _ _ (ClosedTo w23 n r) at CC
    refine CC.mono ?_
    clear CC
    rintro e w24 ⟨b_aa, rfl, hh, ff, -⟩
    have A_r_ := Lib.hid (A_r.out.fr0 ff)
    have A_u_ := Lib.hid (A_u.out.fr0 ff)
    have A_q_ := Lib.hid (A_q.out.fr0 ff)
    have A_a_ := Lib.hid (A_a.out.fr0 ff)
    have F_ := Lib.hid (F.out.trans ff)
    clear F A_r A_u A_q A_a 
    have A_r := A_r_
    have A_u := A_u_
    have A_q := A_q_
    have A_a := A_a_
    have F := F_
    clear F_ A_r_ A_u_ A_q_ A_a_ 
    have A_aa := Lib.hid hh
    clear hh ff
    clear A_a
    go_wp2_with fail
    refine (pairs_ok b_aa n r w24 A_aa.out (HT.out.fr0 F.out)).mono ?_
    rintro e w25 ⟨pap5, pcp5, rfl, hl⟩
    have A_r_ := Lib.hid (A_r.out.fr0 hl.fr)
    have A_u_ := Lib.hid (A_u.out.fr0 hl.fr)
    have A_q_ := Lib.hid (A_q.out.fr0 hl.fr)
    have A_aa_ := Lib.hid (A_aa.out.fr0 hl.fr)
    have F_ := Lib.hid (F.out.trans hl.fr)
    clear F A_r A_u A_q A_aa 
    have A_r := A_r_
    have A_u := A_u_
    have A_q := A_q_
    have A_aa := A_aa_
    have F := F_
    clear F_ A_r_ A_u_ A_q_ A_aa_ 
    have V_p5 := Lib.hid hl.win
    clear hl
    clear A_aa
    go_wp2_with fail
    refine (pairs_ok br n r w25 A_r.out (HT.out.fr0 F.out)).mono ?_
    rintro e w26 ⟨pap6, pcp6, rfl, hl⟩
    have A_r_ := Lib.hid (A_r.out.fr0 hl.fr)
    have A_u_ := Lib.hid (A_u.out.fr0 hl.fr)
    have A_q_ := Lib.hid (A_q.out.fr0 hl.fr)
    have V_p5_ := Lib.hid (V_p5.out.fr hl.fr fun _ _ => id)
    have F_ := Lib.hid (F.out.trans hl.fr)
    clear F A_r A_u A_q V_p5
    have A_r := A_r_
    have A_u := A_u_
    have A_q := A_q_
    have V_p5 := V_p5_
    have F := F_
    clear F_ A_r_ A_u_ A_q_ V_p5_
    have V_p6 := Lib.hid hl.win
    clear hl
    go_wp2_with fail
    refine (same_ok (prs r) pap5 pap6 pcp5 pcp6 w26 V_p5.out V_p6.out (prsK_len r 64)).mono ?_
    rintro e w27 ⟨rfl, ff⟩
    have A_r_ := Lib.hid (A_r.out.fr0 ff)
    have A_u_ := Lib.hid (A_u.out.fr0 ff)
    have A_q_ := Lib.hid (A_q.out.fr0 ff)
    have V_p5_ := Lib.hid (V_p5.out.fr ff fun _ _ => id)
    have V_p6_ := Lib.hid (V_p6.out.fr ff fun _ _ => id)
    have F_ := Lib.hid (F.out.trans ff)
    clear F A_r A_u A_q V_p5 V_p6
    have A_r := A_r_
    have A_u := A_u_
    have A_q := A_q_
    have V_p5 := V_p5_
    have V_p6 := V_p6_
    have F := F_
    clear F_ A_r_ A_u_ A_q_ V_p5_ V_p6_
    clear ff
    clear V_p5
    clear V_p6
    go_wp2_with fail
    have CC := turned_ok b_u n (uniR r s) w27 A_u.out (HT.out.fr0 F.out)
    change Calls _ _ _ _ (ClosedTo w27 n (uniR (trn r) (trn s))) at CC
    refine CC.mono ?_
    clear CC
    rintro e w28 ⟨b_tu, rfl, hh, ff, -⟩
    have A_r_ := Lib.hid (A_r.out.fr0 ff)
    have A_u_ := Lib.hid (A_u.out.fr0 ff)
    have A_q_ := Lib.hid (A_q.out.fr0 ff)
    have F_ := Lib.hid (F.out.trans ff)
    clear F A_r A_u A_q 
    have A_r := A_r_
    have A_u := A_u_
    have A_q := A_q_
    have F := F_
    clear F_ A_r_ A_u_ A_q_ 
    have A_tu := Lib.hid hh
    clear hh ff
    clear A_u
    go_wp2_with fail
    refine (pairs_ok b_tu n (uniR (trn r) (trn s)) w28 A_tu.out (HT.out.fr0 F.out)).mono ?_
    rintro e w29 ⟨pap7, pcp7, rfl, hl⟩
    have A_r_ := Lib.hid (A_r.out.fr0 hl.fr)
    have A_q_ := Lib.hid (A_q.out.fr0 hl.fr)
    have A_tu_ := Lib.hid (A_tu.out.fr0 hl.fr)
    have F_ := Lib.hid (F.out.trans hl.fr)
    clear F A_r A_q A_tu 
    have A_r := A_r_
    have A_q := A_q_
    have A_tu := A_tu_
    have F := F_
    clear F_ A_r_ A_q_ A_tu_ 
    have V_p7 := Lib.hid hl.win
    clear hl
    clear A_tu
    go_wp2_with fail
    refine (pairs_ok b_q n (uniR (trn r) (trn s)) w29 A_q.out (HT.out.fr0 F.out)).mono ?_
    rintro e w30 ⟨pap8, pcp8, rfl, hl⟩
    have A_r_ := Lib.hid (A_r.out.fr0 hl.fr)
    have A_q_ := Lib.hid (A_q.out.fr0 hl.fr)
    have V_p7_ := Lib.hid (V_p7.out.fr hl.fr fun _ _ => id)
    have F_ := Lib.hid (F.out.trans hl.fr)
    clear F A_r A_q V_p7
    have A_r := A_r_
    have A_q := A_q_
    have V_p7 := V_p7_
    have F := F_
    clear F_ A_r_ A_q_ V_p7_
    have V_p8 := Lib.hid hl.win
    clear hl
    clear A_q
    go_wp2_with fail
    refine (same_ok (prs (uniR (trn r) (trn s))) pap7 pap8 pcp7 pcp8 w30 V_p7.out V_p8.out (prsK_len (uniR (trn r) (trn s)) 64)).mono ?_
    rintro e w31 ⟨rfl, ff⟩
    have A_r_ := Lib.hid (A_r.out.fr0 ff)
    have V_p7_ := Lib.hid (V_p7.out.fr ff fun _ _ => id)
    have V_p8_ := Lib.hid (V_p8.out.fr ff fun _ _ => id)
    have F_ := Lib.hid (F.out.trans ff)
    clear F A_r V_p7 V_p8
    have A_r := A_r_
    have V_p7 := V_p7_
    have V_p8 := V_p8_
    have F := F_
    clear F_ A_r_ V_p7_ V_p8_
    clear ff
    clear V_p7
    clear V_p8
    go_wp2_with fail
    refine (ordered_no br n r w31 A_r.out (by have := HLT.out; omega)).mono ?_
    rintro e w32 ⟨rfl, rfl⟩
    go_wp2_with fail
    go_ret
    exact ⟨rfl, F.out.below (Nat.le_refl _) fun _ _ x => x⟩
  · have HE := Lib.hid he
    have V_L := Lib.hid hl.win
    clear he hl
    go_wp2_with fail
    refine (loop_ok br n r w13 A_r.out).mono ?_
    rintro e w14 ⟨hh, ff⟩
    have A_r_ := Lib.hid (A_r.out.fr0 ff)
    have A_y_ := Lib.hid (A_y.out.fr0 ff)
    have A_v_ := Lib.hid (A_v.out.fr0 ff)
    have A_u_ := Lib.hid (A_u.out.fr0 ff)
    have A_q_ := Lib.hid (A_q.out.fr0 ff)
    have V_L_ := Lib.hid (V_L.out.fr ff fun _ _ => id)
    have F_ := Lib.hid (F.out.trans ff)
    clear F A_r A_y A_v A_u A_q V_L
    have A_r := A_r_
    have A_y := A_y_
    have A_v := A_v_
    have A_u := A_u_
    have A_q := A_q_
    have V_L := V_L_
    have F := F_
    clear F_ A_r_ A_y_ A_v_ A_u_ A_q_ V_L_
    clear ff
    rcases hh with ⟨la0, h1, h2, -, rfl⟩ | ⟨hno, rfl⟩
    · rw [order_noloop OKr.out HN.out HO.out.1 HE.out] at h2
      cases h2
    clear hno
    go_wp2_with fail
    have CC := closed_ok br n r w14 A_r.out
    refine CC.mono ?_
    clear CC
    rintro e w15 ⟨b_c, rfl, hh, ff, -⟩
    have A_r_ := Lib.hid (A_r.out.fr0 ff)
    have A_y_ := Lib.hid (A_y.out.fr0 ff)
    have A_v_ := Lib.hid (A_v.out.fr0 ff)
    have A_u_ := Lib.hid (A_u.out.fr0 ff)
    have A_q_ := Lib.hid (A_q.out.fr0 ff)
    have V_L_ := Lib.hid (V_L.out.fr ff fun _ _ => id)
    have F_ := Lib.hid (F.out.trans ff)
    clear F A_r A_y A_v A_u A_q V_L
    have A_r := A_r_
    have A_y := A_y_
    have A_v := A_v_
    have A_u := A_u_
    have A_q := A_q_
    have V_L := V_L_
    have F := F_
    clear F_ A_r_ A_y_ A_v_ A_u_ A_q_ V_L_
    have A_c := Lib.hid hh
    clear hh ff
    go_wp2_with fail
    have CC := closed_ok b_c n (clo n r) w15 A_c.out
    rw [clo_idem OKr.out] at CC
    refine CC.mono ?_
    clear CC
    rintro e w16 ⟨b_cc, rfl, hh, ff, -⟩
    have A_r_ := Lib.hid (A_r.out.fr0 ff)
    have A_y_ := Lib.hid (A_y.out.fr0 ff)
    have A_v_ := Lib.hid (A_v.out.fr0 ff)
    have A_u_ := Lib.hid (A_u.out.fr0 ff)
    have A_q_ := Lib.hid (A_q.out.fr0 ff)
    have A_c_ := Lib.hid (A_c.out.fr0 ff)
    have V_L_ := Lib.hid (V_L.out.fr ff fun _ _ => id)
    have F_ := Lib.hid (F.out.trans ff)
    clear F A_r A_y A_v A_u A_q A_c V_L
    have A_r := A_r_
    have A_y := A_y_
    have A_v := A_v_
    have A_u := A_u_
    have A_q := A_q_
    have A_c := A_c_
    have V_L := V_L_
    have F := F_
    clear F_ A_r_ A_y_ A_v_ A_u_ A_q_ A_c_ V_L_
    have A_cc := Lib.hid hh
    clear hh ff
    go_wp2_with fail
    refine (pairs_ok b_cc n (clo n r) w16 A_cc.out (HT.out.fr0 F.out)).mono ?_
    rintro e w17 ⟨pap1, pcp1, rfl, hl⟩
    have A_r_ := Lib.hid (A_r.out.fr0 hl.fr)
    have A_y_ := Lib.hid (A_y.out.fr0 hl.fr)
    have A_v_ := Lib.hid (A_v.out.fr0 hl.fr)
    have A_u_ := Lib.hid (A_u.out.fr0 hl.fr)
    have A_q_ := Lib.hid (A_q.out.fr0 hl.fr)
    have A_c_ := Lib.hid (A_c.out.fr0 hl.fr)
    have A_cc_ := Lib.hid (A_cc.out.fr0 hl.fr)
    have V_L_ := Lib.hid (V_L.out.fr hl.fr fun _ _ => id)
    have F_ := Lib.hid (F.out.trans hl.fr)
    clear F A_r A_y A_v A_u A_q A_c A_cc V_L
    have A_r := A_r_
    have A_y := A_y_
    have A_v := A_v_
    have A_u := A_u_
    have A_q := A_q_
    have A_c := A_c_
    have A_cc := A_cc_
    have V_L := V_L_
    have F := F_
    clear F_ A_r_ A_y_ A_v_ A_u_ A_q_ A_c_ A_cc_ V_L_
    have V_p1 := Lib.hid hl.win
    clear hl
    clear A_cc
    go_wp2_with fail
    refine (pairs_ok b_c n (clo n r) w17 A_c.out (HT.out.fr0 F.out)).mono ?_
    rintro e w18 ⟨pap2, pcp2, rfl, hl⟩
    have A_r_ := Lib.hid (A_r.out.fr0 hl.fr)
    have A_y_ := Lib.hid (A_y.out.fr0 hl.fr)
    have A_v_ := Lib.hid (A_v.out.fr0 hl.fr)
    have A_u_ := Lib.hid (A_u.out.fr0 hl.fr)
    have A_q_ := Lib.hid (A_q.out.fr0 hl.fr)
    have A_c_ := Lib.hid (A_c.out.fr0 hl.fr)
    have V_L_ := Lib.hid (V_L.out.fr hl.fr fun _ _ => id)
    have V_p1_ := Lib.hid (V_p1.out.fr hl.fr fun _ _ => id)
    have F_ := Lib.hid (F.out.trans hl.fr)
    clear F A_r A_y A_v A_u A_q A_c V_L V_p1
    have A_r := A_r_
    have A_y := A_y_
    have A_v := A_v_
    have A_u := A_u_
    have A_q := A_q_
    have A_c := A_c_
    have V_L := V_L_
    have V_p1 := V_p1_
    have F := F_
    clear F_ A_r_ A_y_ A_v_ A_u_ A_q_ A_c_ V_L_ V_p1_
    have V_p2 := Lib.hid hl.win
    clear hl
    clear A_c
    go_wp2_with fail
    refine (same_ok (prs (clo n r)) pap1 pap2 pcp1 pcp2 w18 V_p1.out V_p2.out (prsK_len (clo n r) 64)).mono ?_
    rintro e w19 ⟨rfl, ff⟩
    have A_r_ := Lib.hid (A_r.out.fr0 ff)
    have A_y_ := Lib.hid (A_y.out.fr0 ff)
    have A_v_ := Lib.hid (A_v.out.fr0 ff)
    have A_u_ := Lib.hid (A_u.out.fr0 ff)
    have A_q_ := Lib.hid (A_q.out.fr0 ff)
    have V_L_ := Lib.hid (V_L.out.fr ff fun _ _ => id)
    have V_p1_ := Lib.hid (V_p1.out.fr ff fun _ _ => id)
    have V_p2_ := Lib.hid (V_p2.out.fr ff fun _ _ => id)
    have F_ := Lib.hid (F.out.trans ff)
    clear F A_r A_y A_v A_u A_q V_L V_p1 V_p2
    have A_r := A_r_
    have A_y := A_y_
    have A_v := A_v_
    have A_u := A_u_
    have A_q := A_q_
    have V_L := V_L_
    have V_p1 := V_p1_
    have V_p2 := V_p2_
    have F := F_
    clear F_ A_r_ A_y_ A_v_ A_u_ A_q_ V_L_ V_p1_ V_p2_
    clear ff
    clear V_p1
    clear V_p2
    go_wp2_with fail
    refine (pairs_ok b_y n (thenR (thenR r s) t) w19 A_y.out (HT.out.fr0 F.out)).mono ?_
    rintro e w20 ⟨pap3, pcp3, rfl, hl⟩
    have A_r_ := Lib.hid (A_r.out.fr0 hl.fr)
    have A_y_ := Lib.hid (A_y.out.fr0 hl.fr)
    have A_v_ := Lib.hid (A_v.out.fr0 hl.fr)
    have A_u_ := Lib.hid (A_u.out.fr0 hl.fr)
    have A_q_ := Lib.hid (A_q.out.fr0 hl.fr)
    have V_L_ := Lib.hid (V_L.out.fr hl.fr fun _ _ => id)
    have F_ := Lib.hid (F.out.trans hl.fr)
    clear F A_r A_y A_v A_u A_q V_L
    have A_r := A_r_
    have A_y := A_y_
    have A_v := A_v_
    have A_u := A_u_
    have A_q := A_q_
    have V_L := V_L_
    have F := F_
    clear F_ A_r_ A_y_ A_v_ A_u_ A_q_ V_L_
    have V_p3 := Lib.hid hl.win
    clear hl
    clear A_y
    go_wp2_with fail
    refine (pairs_ok b_v n (thenR (thenR r s) t) w20 A_v.out (HT.out.fr0 F.out)).mono ?_
    rintro e w21 ⟨pap4, pcp4, rfl, hl⟩
    have A_r_ := Lib.hid (A_r.out.fr0 hl.fr)
    have A_v_ := Lib.hid (A_v.out.fr0 hl.fr)
    have A_u_ := Lib.hid (A_u.out.fr0 hl.fr)
    have A_q_ := Lib.hid (A_q.out.fr0 hl.fr)
    have V_L_ := Lib.hid (V_L.out.fr hl.fr fun _ _ => id)
    have V_p3_ := Lib.hid (V_p3.out.fr hl.fr fun _ _ => id)
    have F_ := Lib.hid (F.out.trans hl.fr)
    clear F A_r A_v A_u A_q V_L V_p3
    have A_r := A_r_
    have A_v := A_v_
    have A_u := A_u_
    have A_q := A_q_
    have V_L := V_L_
    have V_p3 := V_p3_
    have F := F_
    clear F_ A_r_ A_v_ A_u_ A_q_ V_L_ V_p3_
    have V_p4 := Lib.hid hl.win
    clear hl
    clear A_v
    go_wp2_with fail
    refine (same_ok (prs (thenR (thenR r s) t)) pap3 pap4 pcp3 pcp4 w21 V_p3.out V_p4.out (prsK_len (thenR (thenR r s) t) 64)).mono ?_
    rintro e w22 ⟨rfl, ff⟩
    have A_r_ := Lib.hid (A_r.out.fr0 ff)
    have A_u_ := Lib.hid (A_u.out.fr0 ff)
    have A_q_ := Lib.hid (A_q.out.fr0 ff)
    have V_L_ := Lib.hid (V_L.out.fr ff fun _ _ => id)
    have V_p3_ := Lib.hid (V_p3.out.fr ff fun _ _ => id)
    have V_p4_ := Lib.hid (V_p4.out.fr ff fun _ _ => id)
    have F_ := Lib.hid (F.out.trans ff)
    clear F A_r A_u A_q V_L V_p3 V_p4
    have A_r := A_r_
    have A_u := A_u_
    have A_q := A_q_
    have V_L := V_L_
    have V_p3 := V_p3_
    have V_p4 := V_p4_
    have F := F_
    clear F_ A_r_ A_u_ A_q_ V_L_ V_p3_ V_p4_
    clear ff
    clear V_p3
    clear V_p4
    go_wp2_with fail
    have CC := turned_ok br n r w22 A_r.out (HT.out.fr0 F.out)
    refine CC.mono ?_
    clear CC
    rintro e w23 ⟨b_a, rfl, hh, ff, -⟩
    have A_r_ := Lib.hid (A_r.out.fr0 ff)
    have A_u_ := Lib.hid (A_u.out.fr0 ff)
    have A_q_ := Lib.hid (A_q.out.fr0 ff)
    have V_L_ := Lib.hid (V_L.out.fr ff fun _ _ => id)
    have F_ := Lib.hid (F.out.trans ff)
    clear F A_r A_u A_q V_L
    have A_r := A_r_
    have A_u := A_u_
    have A_q := A_q_
    have V_L := V_L_
    have F := F_
    clear F_ A_r_ A_u_ A_q_ V_L_
    have A_a := Lib.hid hh
    clear hh ff
    go_wp2_with fail
    have CC := turned_ok b_a n (trn r) w23 A_a.out (HT.out.fr0 F.out)
    change Calls _ _ _ _ (ClosedTo w23 n r) at CC
    refine CC.mono ?_
    clear CC
    rintro e w24 ⟨b_aa, rfl, hh, ff, -⟩
    have A_r_ := Lib.hid (A_r.out.fr0 ff)
    have A_u_ := Lib.hid (A_u.out.fr0 ff)
    have A_q_ := Lib.hid (A_q.out.fr0 ff)
    have A_a_ := Lib.hid (A_a.out.fr0 ff)
    have V_L_ := Lib.hid (V_L.out.fr ff fun _ _ => id)
    have F_ := Lib.hid (F.out.trans ff)
    clear F A_r A_u A_q A_a V_L
    have A_r := A_r_
    have A_u := A_u_
    have A_q := A_q_
    have A_a := A_a_
    have V_L := V_L_
    have F := F_
    clear F_ A_r_ A_u_ A_q_ A_a_ V_L_
    have A_aa := Lib.hid hh
    clear hh ff
    clear A_a
    go_wp2_with fail
    refine (pairs_ok b_aa n r w24 A_aa.out (HT.out.fr0 F.out)).mono ?_
    rintro e w25 ⟨pap5, pcp5, rfl, hl⟩
    have A_r_ := Lib.hid (A_r.out.fr0 hl.fr)
    have A_u_ := Lib.hid (A_u.out.fr0 hl.fr)
    have A_q_ := Lib.hid (A_q.out.fr0 hl.fr)
    have A_aa_ := Lib.hid (A_aa.out.fr0 hl.fr)
    have V_L_ := Lib.hid (V_L.out.fr hl.fr fun _ _ => id)
    have F_ := Lib.hid (F.out.trans hl.fr)
    clear F A_r A_u A_q A_aa V_L
    have A_r := A_r_
    have A_u := A_u_
    have A_q := A_q_
    have A_aa := A_aa_
    have V_L := V_L_
    have F := F_
    clear F_ A_r_ A_u_ A_q_ A_aa_ V_L_
    have V_p5 := Lib.hid hl.win
    clear hl
    clear A_aa
    go_wp2_with fail
    refine (pairs_ok br n r w25 A_r.out (HT.out.fr0 F.out)).mono ?_
    rintro e w26 ⟨pap6, pcp6, rfl, hl⟩
    have A_r_ := Lib.hid (A_r.out.fr0 hl.fr)
    have A_u_ := Lib.hid (A_u.out.fr0 hl.fr)
    have A_q_ := Lib.hid (A_q.out.fr0 hl.fr)
    have V_L_ := Lib.hid (V_L.out.fr hl.fr fun _ _ => id)
    have V_p5_ := Lib.hid (V_p5.out.fr hl.fr fun _ _ => id)
    have F_ := Lib.hid (F.out.trans hl.fr)
    clear F A_r A_u A_q V_L V_p5
    have A_r := A_r_
    have A_u := A_u_
    have A_q := A_q_
    have V_L := V_L_
    have V_p5 := V_p5_
    have F := F_
    clear F_ A_r_ A_u_ A_q_ V_L_ V_p5_
    have V_p6 := Lib.hid hl.win
    clear hl
    go_wp2_with fail
    refine (same_ok (prs r) pap5 pap6 pcp5 pcp6 w26 V_p5.out V_p6.out (prsK_len r 64)).mono ?_
    rintro e w27 ⟨rfl, ff⟩
    have A_r_ := Lib.hid (A_r.out.fr0 ff)
    have A_u_ := Lib.hid (A_u.out.fr0 ff)
    have A_q_ := Lib.hid (A_q.out.fr0 ff)
    have V_L_ := Lib.hid (V_L.out.fr ff fun _ _ => id)
    have V_p5_ := Lib.hid (V_p5.out.fr ff fun _ _ => id)
    have V_p6_ := Lib.hid (V_p6.out.fr ff fun _ _ => id)
    have F_ := Lib.hid (F.out.trans ff)
    clear F A_r A_u A_q V_L V_p5 V_p6
    have A_r := A_r_
    have A_u := A_u_
    have A_q := A_q_
    have V_L := V_L_
    have V_p5 := V_p5_
    have V_p6 := V_p6_
    have F := F_
    clear F_ A_r_ A_u_ A_q_ V_L_ V_p5_ V_p6_
    clear ff
    clear V_p5
    clear V_p6
    go_wp2_with fail
    have CC := turned_ok b_u n (uniR r s) w27 A_u.out (HT.out.fr0 F.out)
    change Calls _ _ _ _ (ClosedTo w27 n (uniR (trn r) (trn s))) at CC
    refine CC.mono ?_
    clear CC
    rintro e w28 ⟨b_tu, rfl, hh, ff, -⟩
    have A_r_ := Lib.hid (A_r.out.fr0 ff)
    have A_u_ := Lib.hid (A_u.out.fr0 ff)
    have A_q_ := Lib.hid (A_q.out.fr0 ff)
    have V_L_ := Lib.hid (V_L.out.fr ff fun _ _ => id)
    have F_ := Lib.hid (F.out.trans ff)
    clear F A_r A_u A_q V_L
    have A_r := A_r_
    have A_u := A_u_
    have A_q := A_q_
    have V_L := V_L_
    have F := F_
    clear F_ A_r_ A_u_ A_q_ V_L_
    have A_tu := Lib.hid hh
    clear hh ff
    clear A_u
    go_wp2_with fail
    refine (pairs_ok b_tu n (uniR (trn r) (trn s)) w28 A_tu.out (HT.out.fr0 F.out)).mono ?_
    rintro e w29 ⟨pap7, pcp7, rfl, hl⟩
    have A_r_ := Lib.hid (A_r.out.fr0 hl.fr)
    have A_q_ := Lib.hid (A_q.out.fr0 hl.fr)
    have A_tu_ := Lib.hid (A_tu.out.fr0 hl.fr)
    have V_L_ := Lib.hid (V_L.out.fr hl.fr fun _ _ => id)
    have F_ := Lib.hid (F.out.trans hl.fr)
    clear F A_r A_q A_tu V_L
    have A_r := A_r_
    have A_q := A_q_
    have A_tu := A_tu_
    have V_L := V_L_
    have F := F_
    clear F_ A_r_ A_q_ A_tu_ V_L_
    have V_p7 := Lib.hid hl.win
    clear hl
    clear A_tu
    go_wp2_with fail
    refine (pairs_ok b_q n (uniR (trn r) (trn s)) w29 A_q.out (HT.out.fr0 F.out)).mono ?_
    rintro e w30 ⟨pap8, pcp8, rfl, hl⟩
    have A_r_ := Lib.hid (A_r.out.fr0 hl.fr)
    have A_q_ := Lib.hid (A_q.out.fr0 hl.fr)
    have V_L_ := Lib.hid (V_L.out.fr hl.fr fun _ _ => id)
    have V_p7_ := Lib.hid (V_p7.out.fr hl.fr fun _ _ => id)
    have F_ := Lib.hid (F.out.trans hl.fr)
    clear F A_r A_q V_L V_p7
    have A_r := A_r_
    have A_q := A_q_
    have V_L := V_L_
    have V_p7 := V_p7_
    have F := F_
    clear F_ A_r_ A_q_ V_L_ V_p7_
    have V_p8 := Lib.hid hl.win
    clear hl
    clear A_q
    go_wp2_with fail
    refine (same_ok (prs (uniR (trn r) (trn s))) pap7 pap8 pcp7 pcp8 w30 V_p7.out V_p8.out (prsK_len (uniR (trn r) (trn s)) 64)).mono ?_
    rintro e w31 ⟨rfl, ff⟩
    have A_r_ := Lib.hid (A_r.out.fr0 ff)
    have V_L_ := Lib.hid (V_L.out.fr ff fun _ _ => id)
    have V_p7_ := Lib.hid (V_p7.out.fr ff fun _ _ => id)
    have V_p8_ := Lib.hid (V_p8.out.fr ff fun _ _ => id)
    have F_ := Lib.hid (F.out.trans ff)
    clear F A_r V_L V_p7 V_p8
    have A_r := A_r_
    have V_L := V_L_
    have V_p7 := V_p7_
    have V_p8 := V_p8_
    have F := F_
    clear F_ A_r_ V_L_ V_p7_ V_p8_
    clear ff
    clear V_p7
    clear V_p8
    go_wp2_with fail
    refine (ordered_ok br n r la lc L w31 A_r.out (HT.out.fr0 F.out) V_L.out HO.out.1 HE.out).mono ?_
    rintro e w32 ⟨rfl, ff⟩
    have A_r_ := Lib.hid (A_r.out.fr0 ff)
    have V_L_ := Lib.hid (V_L.out.fr ff fun _ _ => id)
    have F_ := Lib.hid (F.out.trans ff)
    clear F A_r V_L
    have A_r := A_r_
    have V_L := V_L_
    have F := F_
    clear F_ A_r_ V_L_
    clear ff
    go_wp2_with fail
    go_ret
    exact ⟨rfl, F.out.below (Nat.le_refl _) fun _ _ x => x⟩
end Go.Proofs.YtpcpjmbfinpmlaaDoor
