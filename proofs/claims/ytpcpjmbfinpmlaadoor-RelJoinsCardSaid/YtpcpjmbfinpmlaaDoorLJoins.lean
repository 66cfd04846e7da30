/- RelJoins: the walk. -/
import Derived.Test.YtpcpjmbfinpmlaaDoorBno
import Derived.Test.YtpcpjmbfinpmlaaDoorRmd
import Derived.Test.YtpcpjmbfinpmlaaDoorIsx
import Derived.Test.YtpcpjmbfinpmlaaDoorRex
import Derived.Test.YtpcpjmbfinpmlaaDoorRju
import Derived.Test.YtpcpjmbfinpmlaaDoorRji
import Derived.Test.YtpcpjmbfinpmlaaDoorRjm
import Derived.Test.YtpcpjmbfinpmlaaDoorRjt
import Derived.Test.YtpcpjmbfinpmlaaDoorRjk
set_option linter.unusedSimpArgs false
set_option linter.unusedVariables false
set_option linter.unusedSectionVars false
namespace Go.Proofs.YtpcpjmbfinpmlaaDoor
open Go.RowKit
set_option maxRecDepth 100000

theorem SlInts.fr0 {w wr : World} {a : Option Addr} {len : Nat} {V : Nat → Int} (h : SlInts .i64 w a len V) (hf : Fr Nil w wr) : SlInts .i64 wr a len V := fun k hk => by
  obtain ⟨b, off, e, hb, hc, hw⟩ := h k hk
  exact ⟨b, off, e, Nat.lt_of_lt_of_le hb hf.size, (hf.cell (p := ⟨b, off + k, none⟩) hb id).trans hc, hw⟩

set_option maxHeartbeats 4000000 in
theorem relJoins_ne (z y : Int) (a0 : Option Addr) (l0 c0 : Nat) (P : Nat → Int × Int) (a1 : Option Addr) (l1 c1 : Nat) (Q : Nat → Int × Int) (a2 : Option Addr) (l2 c2 : Nat) (V : Nat → Int) (a3 : Option Addr) (l3 c3 : Nat) (U : Nat → Int) (w : World) (hzy : z ≠ y) (hl0 : l0 ≤ c0) (hc0 : c0 ≤ maxLen) (hP : Prs w a0 l0 P) (hl1 : l1 ≤ c1) (hc1 : c1 ≤ maxLen) (hQ : Prs w a1 l1 Q) (hl2 : l2 ≤ c2) (hc2 : c2 ≤ maxLen) (hV : SlInts .i64 w a2 l2 V) (hl3 : l3 ≤ c3) (hc3 : c3 ≤ maxLen) (hU : SlInts .i64 w a3 l3 U) (hT : Tab w) :
    Calls Tryd.prog 6 #[.int .i64 z, .int .i64 y, .slice a0 l0 c0, .slice a1 l1 c1, .slice a2 l2 c2, .slice a3 l3 c3] w fun e w' => e = .returned (.bool true) ∧ Below w.heap.size w w' := by
  have q0 : (z != y) = true := by simpa using hzy
  have q1 : (z == y) = false := by simpa using hzy
  have ZY := Lib.hid hzy
  clear hzy
  have HT := Lib.hid hT
  have h0 : (l0 : Int) ≤ 9223372036854775807 := by simp only [maxLen] at hc0; omega
  have h1 : (l1 : Int) ≤ 9223372036854775807 := by simp only [maxLen] at hc1; omega
  have H2 := Lib.hid (show (l2 : Int) ≤ 9223372036854775807 by simp only [maxLen] at hc2; omega)
  have H3 := Lib.hid (show (l3 : Int) ≤ 9223372036854775807 by simp only [maxLen] at hc3; omega)
  have HV := Lib.hid hV
  have HU := Lib.hid hU
  have EX := Lib.hid (examples_ok w hT)
  have MD1 := Lib.hid (fun W (hW : Fr Nil w W) => made_ok z a0 l0 c0 P W (hP.fr0 hW) h0)
  have MD2 := Lib.hid (fun W (hW : Fr Nil w W) => made_ok y a1 l1 c1 Q W (hQ.fr0 hW) h1)
  clear hT hl0 hc0 hP hl1 hc1 hQ hl2 hc2 hV hl3 hc3 hU h0 h1
  go_enter Tryd.func6, Tryd.ntmps6
  go_wp2_with fail
  refine EX.out.mono ?_
  rintro e w1 ⟨rfl, f1⟩
  have F := Lib.hid f1
  clear f1 EX
  go_wp2_with fail
  refine (MD1.out w1 F.out).mono ?_
  intro e w2 hm
  rcases hm with ⟨-, rfl, rfl⟩ | ⟨n, br, bx, hzn, hn, rfl, hr, -, f2, -, -⟩
  · go_wp2_with fail
    refine (MD2.out w1 F.out).mono ?_
    intro e w3 hm
    rcases hm with ⟨-, rfl, rfl⟩ | ⟨n, bs, by', hyn, hn, rfl, hs, -, f2, -, -⟩
    · go_wp2_with fail
      go_ret
      exact ⟨rfl, F.out.below (Nat.le_refl _) fun _ _ x => x⟩
    · have F2 := Lib.hid (F.out.trans f2)
      clear hyn hs f2 F
      go_wp2_with fail
      go_ret
      exact ⟨rfl, F2.out.below (Nat.le_refl _) fun _ _ x => x⟩
  have A_r := Lib.hid hr
  have ZN := Lib.hid hzn
  have F_ := Lib.hid (F.out.trans f2)
  clear F
  have F := F_
  clear F_ hn hr f2 MD1 hzn
  generalize mdR n P (min l0 5000) = r at *
  go_wp2_with fail
  refine (MD2.out w2 F.out).mono ?_
  intro e w3 hm
  rcases hm with ⟨-, rfl, rfl⟩ | ⟨m, bs, by', hyn, hn, rfl, hs, -, f2, -, -⟩
  · go_wp2_with fail
    go_ret
    exact ⟨rfl, F.out.below (Nat.le_refl _) fun _ _ x => x⟩
  have A_s := Lib.hid hs
  have A_r_ := Lib.hid (A_r.out.fr0 f2)
  have F_ := Lib.hid (F.out.trans f2)
  have NM := Lib.hid (show n ≠ m by have := ZY.out; have := ZN.out; omega)
  clear F A_r
  have F := F_
  have A_r := A_r_
  clear F_ A_r_ hn hs f2 MD2 hyn ZN ZY
  generalize mdR m Q (min l1 5000) = s at *
  go_wp2_with fail
  refine (union_no br bs n m r s w3 A_r.out A_s.out NM.out).mono ?_
  rintro e w4 ⟨rfl, ff⟩
  have A_r_ := Lib.hid (A_r.out.fr0 ff)
  have A_s_ := Lib.hid (A_s.out.fr0 ff)
  have F_ := Lib.hid (F.out.trans ff)
  clear F A_r A_s
  have A_r := A_r_
  have A_s := A_s_
  have F := F_
  clear F_ A_r_ A_s_
  clear ff
  go_wp2_with fail
  refine (inter_no br bs n m r s w4 A_r.out A_s.out NM.out).mono ?_
  rintro e w5 ⟨rfl, ff⟩
  have A_r_ := Lib.hid (A_r.out.fr0 ff)
  have A_s_ := Lib.hid (A_s.out.fr0 ff)
  have F_ := Lib.hid (F.out.trans ff)
  clear F A_r A_s
  have A_r := A_r_
  have A_s := A_s_
  have F := F_
  clear F_ A_r_ A_s_
  clear ff
  go_wp2_with fail
  refine (minus_no br bs n m r s w5 A_r.out A_s.out NM.out).mono ?_
  rintro e w6 ⟨rfl, ff⟩
  have A_r_ := Lib.hid (A_r.out.fr0 ff)
  have A_s_ := Lib.hid (A_s.out.fr0 ff)
  have F_ := Lib.hid (F.out.trans ff)
  clear F A_r A_s
  have A_r := A_r_
  have A_s := A_s_
  have F := F_
  clear F_ A_r_ A_s_
  clear ff
  go_wp2_with fail
  refine (then_no br bs n m r s w6 A_r.out A_s.out NM.out).mono ?_
  rintro e w7 ⟨rfl, ff⟩
  have A_r_ := Lib.hid (A_r.out.fr0 ff)
  have A_s_ := Lib.hid (A_s.out.fr0 ff)
  have F_ := Lib.hid (F.out.trans ff)
  clear F A_r A_s
  have A_r := A_r_
  have A_s := A_s_
  have F := F_
  clear F_ A_r_ A_s_
  clear ff
  go_wp2_with fail
  go_ret
  exact ⟨rfl, F.out.below (Nat.le_refl _) fun _ _ x => x⟩
set_option maxHeartbeats 16000000 in
theorem relJoins_eq (z : Int) (a0 : Option Addr) (l0 c0 : Nat) (P : Nat → Int × Int) (a1 : Option Addr) (l1 c1 : Nat) (Q : Nat → Int × Int) (a2 : Option Addr) (l2 c2 : Nat) (V : Nat → Int) (a3 : Option Addr) (l3 c3 : Nat) (U : Nat → Int) (w : World) (hl0 : l0 ≤ c0) (hc0 : c0 ≤ maxLen) (hP : Prs w a0 l0 P) (hl1 : l1 ≤ c1) (hc1 : c1 ≤ maxLen) (hQ : Prs w a1 l1 Q) (hl2 : l2 ≤ c2) (hc2 : c2 ≤ maxLen) (hV : SlInts .i64 w a2 l2 V) (hl3 : l3 ≤ c3) (hc3 : c3 ≤ maxLen) (hU : SlInts .i64 w a3 l3 U) (hT : Tab w) :
    Calls Tryd.prog 6 #[.int .i64 z, .int .i64 z, .slice a0 l0 c0, .slice a1 l1 c1, .slice a2 l2 c2, .slice a3 l3 c3] w fun e w' => e = .returned (.bool true) ∧ Below w.heap.size w w' := by
  have HT := Lib.hid hT
  have h0 : (l0 : Int) ≤ 9223372036854775807 := by simp only [maxLen] at hc0; omega
  have h1 : (l1 : Int) ≤ 9223372036854775807 := by simp only [maxLen] at hc1; omega
  have H2 := Lib.hid (show (l2 : Int) ≤ 9223372036854775807 by simp only [maxLen] at hc2; omega)
  have H3 := Lib.hid (show (l3 : Int) ≤ 9223372036854775807 by simp only [maxLen] at hc3; omega)
  have HV := Lib.hid hV
  have HU := Lib.hid hU
  have EX := Lib.hid (examples_ok w hT)
  have MD1 := Lib.hid (fun W (hW : Fr Nil w W) => made_ok z a0 l0 c0 P W (hP.fr0 hW) h0)
  have MD2 := Lib.hid (fun W (hW : Fr Nil w W) => made_ok z a1 l1 c1 Q W (hQ.fr0 hW) h1)
  clear hT hl0 hc0 hP hl1 hc1 hQ hl2 hc2 hV hl3 hc3 hU h0 h1
  go_enter Tryd.func6, Tryd.ntmps6
  go_wp2_with fail
  refine EX.out.mono ?_
  rintro e w1 ⟨rfl, f1⟩
  have F := Lib.hid f1
  clear f1 EX
  go_wp2_with fail
  refine (MD1.out w1 F.out).mono ?_
  intro e w2 hm
  rcases hm with ⟨hz, rfl, rfl⟩ | ⟨n, br, bx, rfl, hn, rfl, hr, hx, f2, -, -⟩
  · go_wp2_with fail
    refine (MD2.out w1 F.out).mono ?_
    intro e w3 hm
    rcases hm with ⟨-, rfl, rfl⟩ | ⟨n, bs, by', hyn, hn, -⟩
    · clear hz
      go_wp2_with fail
      go_ret
      exact ⟨rfl, F.out.below (Nat.le_refl _) fun _ _ x => x⟩
    · exact absurd hz (by omega)
  have HN := Lib.hid hn
  have A_r := Lib.hid hr
  have X_r := Lib.hid hx
  have F_ := Lib.hid (F.out.trans f2)
  clear F
  have F := F_
  clear F_ hn hr hx f2 MD1
  generalize mdR n P (min l0 5000) = r at *
  go_wp2_with fail
  refine (MD2.out w2 F.out).mono ?_
  intro e w3 hm
  rcases hm with ⟨hz, -, -⟩ | ⟨m, bs, bq, hyn, hn, rfl, hs, hq, f2, -, -⟩
  · exact absurd hz (by have := HN.out; omega)
  obtain rfl : n = m := by omega
  have A_s := Lib.hid hs
  have X_s := Lib.hid hq
  have A_r_ := Lib.hid (A_r.out.fr0 f2)
  have X_r_ := Lib.hid (X_r.out.fr0 f2)
  have F_ := Lib.hid (F.out.trans f2)
  clear F A_r X_r
  have F := F_
  have A_r := A_r_
  have X_r := X_r_
  clear F_ A_r_ X_r_ hn hs hq f2 MD2 hyn
  generalize mdR n Q (min l1 5000) = s at *
  have OKr := Lib.hid A_r.out.ok
  have OKs := Lib.hid A_s.out.ok
  go_wp2_with fail
  refine (union_ok br bs n r s w3 A_r.out A_s.out).mono ?_
  rintro e w4 ⟨b_u, rfl, hh, ff, -⟩
  have A_r_ := Lib.hid (A_r.out.fr0 ff)
  have A_s_ := Lib.hid (A_s.out.fr0 ff)
  have X_r_ := Lib.hid (X_r.out.fr0 ff)
  have X_s_ := Lib.hid (X_s.out.fr0 ff)
  have F_ := Lib.hid (F.out.trans ff)
  clear F A_r A_s X_r X_s
  have A_r := A_r_
  have A_s := A_s_
  have X_r := X_r_
  have X_s := X_s_
  have F := F_
  clear F_ A_r_ A_s_ X_r_ X_s_
  have A_u := Lib.hid hh
  clear ff hh
  go_wp2_with fail
  refine (inter_ok br bs n r s w4 A_r.out A_s.out).mono ?_
  rintro e w5 ⟨b_i, rfl, hh, ff, -⟩
  have A_r_ := Lib.hid (A_r.out.fr0 ff)
  have A_s_ := Lib.hid (A_s.out.fr0 ff)
  have A_u_ := Lib.hid (A_u.out.fr0 ff)
  have X_r_ := Lib.hid (X_r.out.fr0 ff)
  have X_s_ := Lib.hid (X_s.out.fr0 ff)
  have F_ := Lib.hid (F.out.trans ff)
  clear F A_r A_s A_u X_r X_s
  have A_r := A_r_
  have A_s := A_s_
  have A_u := A_u_
  have X_r := X_r_
  have X_s := X_s_
  have F := F_
  clear F_ A_r_ A_s_ A_u_ X_r_ X_s_
  have A_i := Lib.hid hh
  clear ff hh
  go_wp2_with fail
  refine (minus_ok br bs n r s w5 A_r.out A_s.out).mono ?_
  rintro e w6 ⟨b_d, rfl, hh, ff, -⟩
  have A_r_ := Lib.hid (A_r.out.fr0 ff)
  have A_s_ := Lib.hid (A_s.out.fr0 ff)
  have A_u_ := Lib.hid (A_u.out.fr0 ff)
  have A_i_ := Lib.hid (A_i.out.fr0 ff)
  have X_r_ := Lib.hid (X_r.out.fr0 ff)
  have X_s_ := Lib.hid (X_s.out.fr0 ff)
  have F_ := Lib.hid (F.out.trans ff)
  clear F A_r A_s A_u A_i X_r X_s
  have A_r := A_r_
  have A_s := A_s_
  have A_u := A_u_
  have A_i := A_i_
  have X_r := X_r_
  have X_s := X_s_
  have F := F_
  clear F_ A_r_ A_s_ A_u_ A_i_ X_r_ X_s_
  have A_d := Lib.hid hh
  clear ff hh
  go_wp2_with fail
  refine (then_ok br bs n r s w6 A_r.out A_s.out (HT.out.fr0 F.out)).mono ?_
  rintro e w7 ⟨b_t, rfl, hh, ff, -⟩
  have A_r_ := Lib.hid (A_r.out.fr0 ff)
  have A_s_ := Lib.hid (A_s.out.fr0 ff)
  have A_u_ := Lib.hid (A_u.out.fr0 ff)
  have A_i_ := Lib.hid (A_i.out.fr0 ff)
  have A_d_ := Lib.hid (A_d.out.fr0 ff)
  have X_r_ := Lib.hid (X_r.out.fr0 ff)
  have X_s_ := Lib.hid (X_s.out.fr0 ff)
  have F_ := Lib.hid (F.out.trans ff)
  clear F A_r A_s A_u A_i A_d X_r X_s
  have A_r := A_r_
  have A_s := A_s_
  have A_u := A_u_
  have A_i := A_i_
  have A_d := A_d_
  have X_r := X_r_
  have X_s := X_s_
  have F := F_
  clear F_ A_r_ A_s_ A_u_ A_i_ A_d_ X_r_ X_s_
  have A_t := Lib.hid hh
  clear ff hh
  go_wp2_with fail
  refine (runion_ok bx bq n r s w7 X_r.out X_s.out OKr.out OKs.out).mono ?_
  rintro e w8 ⟨x_u, rfl, hh, ff, -⟩
  have A_r_ := Lib.hid (A_r.out.fr0 ff)
  have A_s_ := Lib.hid (A_s.out.fr0 ff)
  have A_u_ := Lib.hid (A_u.out.fr0 ff)
  have A_i_ := Lib.hid (A_i.out.fr0 ff)
  have A_d_ := Lib.hid (A_d.out.fr0 ff)
  have A_t_ := Lib.hid (A_t.out.fr0 ff)
  have X_r_ := Lib.hid (X_r.out.fr0 ff)
  have X_s_ := Lib.hid (X_s.out.fr0 ff)
  have F_ := Lib.hid (F.out.trans ff)
  clear F A_r A_s A_u A_i A_d A_t X_r X_s
  have A_r := A_r_
  have A_s := A_s_
  have A_u := A_u_
  have A_i := A_i_
  have A_d := A_d_
  have A_t := A_t_
  have X_r := X_r_
  have X_s := X_s_
  have F := F_
  clear F_ A_r_ A_s_ A_u_ A_i_ A_d_ A_t_ X_r_ X_s_
  have X_u := Lib.hid hh
  clear ff hh
  go_wp2_with fail
  refine (isr_ok b_u x_u n (uniR r s) w8 A_u.out X_u.out (HT.out.fr0 F.out)).mono ?_
  rintro e w9 ⟨rfl, ff⟩
  have A_r_ := Lib.hid (A_r.out.fr0 ff)
  have A_s_ := Lib.hid (A_s.out.fr0 ff)
  have A_u_ := Lib.hid (A_u.out.fr0 ff)
  have A_i_ := Lib.hid (A_i.out.fr0 ff)
  have A_d_ := Lib.hid (A_d.out.fr0 ff)
  have A_t_ := Lib.hid (A_t.out.fr0 ff)
  have X_r_ := Lib.hid (X_r.out.fr0 ff)
  have X_s_ := Lib.hid (X_s.out.fr0 ff)
  have X_u_ := Lib.hid (X_u.out.fr0 ff)
  have F_ := Lib.hid (F.out.trans ff)
  clear F A_r A_s A_u A_i A_d A_t X_r X_s X_u
  have A_r := A_r_
  have A_s := A_s_
  have A_u := A_u_
  have A_i := A_i_
  have A_d := A_d_
  have A_t := A_t_
  have X_r := X_r_
  have X_s := X_s_
  have X_u := X_u_
  have F := F_
  clear F_ A_r_ A_s_ A_u_ A_i_ A_d_ A_t_ X_r_ X_s_ X_u_
  clear ff
  clear A_u
  clear X_u
  go_wp2_with fail
  refine (rinter_ok bx bq n r s w9 X_r.out X_s.out OKr.out OKs.out).mono ?_
  rintro e w10 ⟨x_i, rfl, hh, ff, -⟩
  have A_r_ := Lib.hid (A_r.out.fr0 ff)
  have A_s_ := Lib.hid (A_s.out.fr0 ff)
  have A_i_ := Lib.hid (A_i.out.fr0 ff)
  have A_d_ := Lib.hid (A_d.out.fr0 ff)
  have A_t_ := Lib.hid (A_t.out.fr0 ff)
  have X_r_ := Lib.hid (X_r.out.fr0 ff)
  have X_s_ := Lib.hid (X_s.out.fr0 ff)
  have F_ := Lib.hid (F.out.trans ff)
  clear F A_r A_s A_i A_d A_t X_r X_s
  have A_r := A_r_
  have A_s := A_s_
  have A_i := A_i_
  have A_d := A_d_
  have A_t := A_t_
  have X_r := X_r_
  have X_s := X_s_
  have F := F_
  clear F_ A_r_ A_s_ A_i_ A_d_ A_t_ X_r_ X_s_
  have X_i := Lib.hid hh
  clear ff hh
  go_wp2_with fail
  refine (isr_ok b_i x_i n (intR r s) w10 A_i.out X_i.out (HT.out.fr0 F.out)).mono ?_
  rintro e w11 ⟨rfl, ff⟩
  have A_r_ := Lib.hid (A_r.out.fr0 ff)
  have A_s_ := Lib.hid (A_s.out.fr0 ff)
  have A_i_ := Lib.hid (A_i.out.fr0 ff)
  have A_d_ := Lib.hid (A_d.out.fr0 ff)
  have A_t_ := Lib.hid (A_t.out.fr0 ff)
  have X_r_ := Lib.hid (X_r.out.fr0 ff)
  have X_s_ := Lib.hid (X_s.out.fr0 ff)
  have X_i_ := Lib.hid (X_i.out.fr0 ff)
  have F_ := Lib.hid (F.out.trans ff)
  clear F A_r A_s A_i A_d A_t X_r X_s X_i
  have A_r := A_r_
  have A_s := A_s_
  have A_i := A_i_
  have A_d := A_d_
  have A_t := A_t_
  have X_r := X_r_
  have X_s := X_s_
  have X_i := X_i_
  have F := F_
  clear F_ A_r_ A_s_ A_i_ A_d_ A_t_ X_r_ X_s_ X_i_
  clear ff
  clear A_i
  clear X_i
  go_wp2_with fail
  refine (rminus_ok bx bq n r s w11 X_r.out X_s.out OKr.out OKs.out).mono ?_
  rintro e w12 ⟨x_d, rfl, hh, ff, -⟩
  have A_r_ := Lib.hid (A_r.out.fr0 ff)
  have A_s_ := Lib.hid (A_s.out.fr0 ff)
  have A_d_ := Lib.hid (A_d.out.fr0 ff)
  have A_t_ := Lib.hid (A_t.out.fr0 ff)
  have X_r_ := Lib.hid (X_r.out.fr0 ff)
  have X_s_ := Lib.hid (X_s.out.fr0 ff)
  have F_ := Lib.hid (F.out.trans ff)
  clear F A_r A_s A_d A_t X_r X_s
  have A_r := A_r_
  have A_s := A_s_
  have A_d := A_d_
  have A_t := A_t_
  have X_r := X_r_
  have X_s := X_s_
  have F := F_
  clear F_ A_r_ A_s_ A_d_ A_t_ X_r_ X_s_
  have X_d := Lib.hid hh
  clear ff hh
  go_wp2_with fail
  refine (isr_ok b_d x_d n (minR r s) w12 A_d.out X_d.out (HT.out.fr0 F.out)).mono ?_
  rintro e w13 ⟨rfl, ff⟩
  have A_r_ := Lib.hid (A_r.out.fr0 ff)
  have A_s_ := Lib.hid (A_s.out.fr0 ff)
  have A_d_ := Lib.hid (A_d.out.fr0 ff)
  have A_t_ := Lib.hid (A_t.out.fr0 ff)
  have X_r_ := Lib.hid (X_r.out.fr0 ff)
  have X_s_ := Lib.hid (X_s.out.fr0 ff)
  have X_d_ := Lib.hid (X_d.out.fr0 ff)
  have F_ := Lib.hid (F.out.trans ff)
  clear F A_r A_s A_d A_t X_r X_s X_d
  have A_r := A_r_
  have A_s := A_s_
  have A_d := A_d_
  have A_t := A_t_
  have X_r := X_r_
  have X_s := X_s_
  have X_d := X_d_
  have F := F_
  clear F_ A_r_ A_s_ A_d_ A_t_ X_r_ X_s_ X_d_
  clear ff
  clear A_d
  clear X_d
  go_wp2_with fail
  refine (rthen_ok bx bq n r s w13 X_r.out X_s.out OKr.out OKs.out).mono ?_
  rintro e w14 ⟨x_t, rfl, hh, ff, -⟩
  have A_r_ := Lib.hid (A_r.out.fr0 ff)
  have A_s_ := Lib.hid (A_s.out.fr0 ff)
  have A_t_ := Lib.hid (A_t.out.fr0 ff)
  have X_r_ := Lib.hid (X_r.out.fr0 ff)
  have X_s_ := Lib.hid (X_s.out.fr0 ff)
  have F_ := Lib.hid (F.out.trans ff)
  clear F A_r A_s A_t X_r X_s
  have A_r := A_r_
  have A_s := A_s_
  have A_t := A_t_
  have X_r := X_r_
  have X_s := X_s_
  have F := F_
  clear F_ A_r_ A_s_ A_t_ X_r_ X_s_
  have X_t := Lib.hid hh
  clear ff hh
  go_wp2_with fail
  refine (isr_ok b_t x_t n (thenR r s) w14 A_t.out X_t.out (HT.out.fr0 F.out)).mono ?_
  rintro e w15 ⟨rfl, ff⟩
  have A_r_ := Lib.hid (A_r.out.fr0 ff)
  have A_s_ := Lib.hid (A_s.out.fr0 ff)
  have A_t_ := Lib.hid (A_t.out.fr0 ff)
  have X_r_ := Lib.hid (X_r.out.fr0 ff)
  have X_s_ := Lib.hid (X_s.out.fr0 ff)
  have X_t_ := Lib.hid (X_t.out.fr0 ff)
  have F_ := Lib.hid (F.out.trans ff)
  clear F A_r A_s A_t X_r X_s X_t
  have A_r := A_r_
  have A_s := A_s_
  have A_t := A_t_
  have X_r := X_r_
  have X_s := X_s_
  have X_t := X_t_
  have F := F_
  clear F_ A_r_ A_s_ A_t_ X_r_ X_s_ X_t_
  clear ff
  clear A_t
  clear X_t
  go_wp2_with fail
  refine (isr_ok br bx n r w15 A_r.out X_r.out (HT.out.fr0 F.out)).mono ?_
  rintro e w16 ⟨rfl, ff⟩
  have A_r_ := Lib.hid (A_r.out.fr0 ff)
  have A_s_ := Lib.hid (A_s.out.fr0 ff)
  have X_r_ := Lib.hid (X_r.out.fr0 ff)
  have X_s_ := Lib.hid (X_s.out.fr0 ff)
  have F_ := Lib.hid (F.out.trans ff)
  clear F A_r A_s X_r X_s
  have A_r := A_r_
  have A_s := A_s_
  have X_r := X_r_
  have X_s := X_s_
  have F := F_
  clear F_ A_r_ A_s_ X_r_ X_s_
  clear ff
  go_wp2_with fail
  refine (isr_ok bs bq n s w16 A_s.out X_s.out (HT.out.fr0 F.out)).mono ?_
  rintro e w17 ⟨rfl, ff⟩
  have A_r_ := Lib.hid (A_r.out.fr0 ff)
  have A_s_ := Lib.hid (A_s.out.fr0 ff)
  have X_r_ := Lib.hid (X_r.out.fr0 ff)
  have X_s_ := Lib.hid (X_s.out.fr0 ff)
  have F_ := Lib.hid (F.out.trans ff)
  clear F A_r A_s X_r X_s
  have A_r := A_r_
  have A_s := A_s_
  have X_r := X_r_
  have X_s := X_s_
  have F := F_
  clear F_ A_r_ A_s_ X_r_ X_s_
  clear ff
  clear A_s
  clear X_s
  go_wp2_with fail
  refine (marks_ok n a2 l2 c2 V w17 HN.out (HV.out.fr0 F.out) H2.out).mono ?_
  rintro e w18 ⟨g_S, rfl, hh, ff, -⟩
  have A_r_ := Lib.hid (A_r.out.fr0 ff)
  have X_r_ := Lib.hid (X_r.out.fr0 ff)
  have F_ := Lib.hid (F.out.trans ff)
  clear F A_r X_r
  have A_r := A_r_
  have X_r := X_r_
  have F := F_
  clear F_ A_r_ X_r_
  have D_S := Lib.hid hh
  clear ff hh
  generalize mkS V l2 = S at *
  have hh := Lib.hid (Blk.new w18 28 #[.slice (some ⟨g_S, 0, none⟩) n n])
  have ff := Lib.hid ((Fr.refl Nil w18).alloc (.cells #[.slice (some ⟨g_S, 0, none⟩) n n] 28))
  go_upto_region 23 with fail
  generalize (w18.alloc (.cells #[.slice (some ⟨g_S, 0, none⟩) n n] 28)) = w19 at *
  generalize w18.heap.size = bx_S at *
  have D_S_ := Lib.hid (D_S.out.fr0 ff.out)
  clear D_S
  have D_S := D_S_
  clear D_S_
  have A_r_ := Lib.hid (A_r.out.fr0 ff.out)
  have X_r_ := Lib.hid (X_r.out.fr0 ff.out)
  have F_ := Lib.hid (F.out.trans ff.out)
  clear F A_r X_r
  have A_r := A_r_
  have X_r := X_r_
  have F := F_
  clear F_ A_r_ X_r_
  have E_S := hh
  clear ff hh
  go_wp2_with fail
  refine (marks_ok n a3 l3 c3 U w19 HN.out (HU.out.fr0 F.out) H3.out).mono ?_
  rintro e w20 ⟨g_T, rfl, hh, ff, -⟩
  have A_r_ := Lib.hid (A_r.out.fr0 ff)
  have X_r_ := Lib.hid (X_r.out.fr0 ff)
  have D_S_ := Lib.hid (D_S.out.fr0 ff)
  have E_S_ := Lib.hid (E_S.out.fr0 ff)
  have F_ := Lib.hid (F.out.trans ff)
  clear F A_r X_r D_S E_S
  have A_r := A_r_
  have X_r := X_r_
  have D_S := D_S_
  have E_S := E_S_
  have F := F_
  clear F_ A_r_ X_r_ D_S_ E_S_
  have D_T := Lib.hid hh
  clear ff hh
  generalize mkS U l3 = T at *
  have hh := Lib.hid (Blk.new w20 28 #[.slice (some ⟨g_T, 0, none⟩) n n])
  have ff := Lib.hid ((Fr.refl Nil w20).alloc (.cells #[.slice (some ⟨g_T, 0, none⟩) n n] 28))
  go_upto_region 24 with fail
  generalize (w20.alloc (.cells #[.slice (some ⟨g_T, 0, none⟩) n n] 28)) = w21 at *
  generalize w20.heap.size = bx_T at *
  have D_T_ := Lib.hid (D_T.out.fr0 ff.out)
  clear D_T
  have D_T := D_T_
  clear D_T_
  have A_r_ := Lib.hid (A_r.out.fr0 ff.out)
  have X_r_ := Lib.hid (X_r.out.fr0 ff.out)
  have D_S_ := Lib.hid (D_S.out.fr0 ff.out)
  have E_S_ := Lib.hid (E_S.out.fr0 ff.out)
  have F_ := Lib.hid (F.out.trans ff.out)
  clear F A_r X_r D_S E_S
  have A_r := A_r_
  have X_r := X_r_
  have D_S := D_S_
  have E_S := E_S_
  have F := F_
  clear F_ A_r_ X_r_ D_S_ E_S_
  have E_T := hh
  clear ff hh
  go_wp2_with fail
  refine (kept_ok br n bx_S g_S bx_T g_T r S T w21 A_r.out (E_S.out.cellv (i := 0) rfl) D_S.out (E_T.out.cellv (i := 0) rfl) D_T.out).mono ?_
  rintro e w22 ⟨b_k, rfl, hh, ff, -⟩
  have A_r_ := Lib.hid (A_r.out.fr0 ff)
  have X_r_ := Lib.hid (X_r.out.fr0 ff)
  have D_S_ := Lib.hid (D_S.out.fr0 ff)
  have E_S_ := Lib.hid (E_S.out.fr0 ff)
  have D_T_ := Lib.hid (D_T.out.fr0 ff)
  have E_T_ := Lib.hid (E_T.out.fr0 ff)
  have F_ := Lib.hid (F.out.trans ff)
  clear F A_r X_r D_S D_T E_S E_T
  have A_r := A_r_
  have X_r := X_r_
  have D_S := D_S_
  have D_T := D_T_
  have E_S := E_S_
  have E_T := E_T_
  have F := F_
  clear F_ A_r_ X_r_ D_S_ D_T_ E_S_ E_T_
  have A_k := Lib.hid hh
  clear ff hh
  have cS := E_S.out.cellv (i := 0) rfl
  have cT := E_T.out.cellv (i := 0) rfl
  go_wp2_with fail
  refine (rkept_ok bx n g_S g_T r S T w22 X_r.out D_S.out D_T.out OKr.out).mono ?_
  rintro e w23 ⟨x_k, rfl, hh, ff, -⟩
  have A_r_ := Lib.hid (A_r.out.fr0 ff)
  have A_k_ := Lib.hid (A_k.out.fr0 ff)
  have X_r_ := Lib.hid (X_r.out.fr0 ff)
  have D_S_ := Lib.hid (D_S.out.fr0 ff)
  have E_S_ := Lib.hid (E_S.out.fr0 ff)
  have D_T_ := Lib.hid (D_T.out.fr0 ff)
  have E_T_ := Lib.hid (E_T.out.fr0 ff)
  have F_ := Lib.hid (F.out.trans ff)
  clear F A_r A_k X_r D_S D_T E_S E_T
  have A_r := A_r_
  have A_k := A_k_
  have X_r := X_r_
  have D_S := D_S_
  have D_T := D_T_
  have E_S := E_S_
  have E_T := E_T_
  have F := F_
  clear F_ A_r_ A_k_ X_r_ D_S_ D_T_ E_S_ E_T_
  have X_k := Lib.hid hh
  clear ff hh
  clear cS cT
  go_wp2_with fail
  refine (isr_ok b_k x_k n (kepR r S T) w23 A_k.out X_k.out (HT.out.fr0 F.out)).mono ?_
  rintro e w24 ⟨rfl, ff⟩
  have A_r_ := Lib.hid (A_r.out.fr0 ff)
  have A_k_ := Lib.hid (A_k.out.fr0 ff)
  have X_r_ := Lib.hid (X_r.out.fr0 ff)
  have X_k_ := Lib.hid (X_k.out.fr0 ff)
  have D_S_ := Lib.hid (D_S.out.fr0 ff)
  have E_S_ := Lib.hid (E_S.out.fr0 ff)
  have D_T_ := Lib.hid (D_T.out.fr0 ff)
  have E_T_ := Lib.hid (E_T.out.fr0 ff)
  have F_ := Lib.hid (F.out.trans ff)
  clear F A_r A_k X_r X_k D_S D_T E_S E_T
  have A_r := A_r_
  have A_k := A_k_
  have X_r := X_r_
  have X_k := X_k_
  have D_S := D_S_
  have D_T := D_T_
  have E_S := E_S_
  have E_T := E_T_
  have F := F_
  clear F_ A_r_ A_k_ X_r_ X_k_ D_S_ D_T_ E_S_ E_T_
  clear ff
  clear A_k
  clear X_k
  have KA := Lib.hid (fun W (hW : Fr Nil w24 W) => keptnil_ok br n bx_T g_T r T W (A_r.out.fr0 hW) ((E_T.out.fr0 hW).cellv (i := 0) rfl) (D_T.out.fr0 hW))
  have KB := Lib.hid (fun W (hW : Fr Nil w24 W) => rkeptnil_ok bx n g_T r T W (X_r.out.fr0 hW) (D_T.out.fr0 hW) OKr.out)
  have HKK : Hid (∀ W, Fr Nil w24 W → W.cell? ⟨bx_T, 0, none⟩ = some (.slice (some ⟨g_T, 0, none⟩) n n) ∧ Fr Nil w24 W) := Lib.hid fun W hW => ⟨(E_T.out.fr0 hW).cellv (i := 0) rfl, hW⟩
  have IS := Lib.hid (fun b x W (hW : Fr Nil w24 W) (h1 : RelAt W b n (kepR r allS T)) (h2 : RefAt W x n (kepR r allS T)) => isr_ok b x n (kepR r allS T) W h1 h2 (HT.out.fr0 (F.out.trans hW)))
  clear A_r X_r D_S D_T E_S E_T HT
  go_upto_region 26 with fail
  go_region_held3 (fun w' => w'.cell? ⟨bx_T, 0, none⟩ = some (.slice (some ⟨g_T, 0, none⟩) n n) ∧ Fr Nil w24 w') (first | exact HKK.out _ (Fr.refl Nil _).drew | exact HKK.out _ FC | exact HKK.out _ (FA.trans fB) | exact HKK.out _ (FB.trans fA) | exact HKK.out _ FA | exact HKK.out _ FB) (first | (go_at_call 34; first | (refine (KA.out _ FB).mono ?_; rintro e wA ⟨bA, rfl, hA, fA, -⟩; have FC0 := FB.trans fA) | (refine (KA.out _ (Fr.refl Nil _).drew).mono ?_; rintro e wA ⟨bA, rfl, hA, fA, -⟩; have FA := ((Fr.refl Nil w24).drew).trans fA)) | (go_at_call 37; first | (refine (KB.out _ FA).mono ?_; rintro e wB ⟨bB, rfl, hB, fB, -⟩; have FC0 := FA.trans fB) | (refine (KB.out _ (Fr.refl Nil _).drew).mono ?_; rintro e wB ⟨bB, rfl, hB, fB, -⟩; have FB := ((Fr.refl Nil w24).drew).trans fB)) | (go_at_call 13; (first | refine (IS.out bA bB _ FC0 (hA.fr0 fB) hB).mono ?_ | refine (IS.out bA bB _ FC0 hA (hB.fr0 fA)).mono ?_); rintro e wC ⟨rfl, fC⟩; have FC := FC0.trans fC) | fail)
  all_goals
    have F2 := Lib.hid (F.out.trans FC)
    clear F
    go_wp2_with fail
    go_ret
    exact ⟨rfl, F2.out.below (Nat.le_refl _) fun _ _ x => x⟩
theorem relJoins_walk (z y : Int) (a0 : Option Addr) (l0 c0 : Nat) (P : Nat → Int × Int) (a1 : Option Addr) (l1 c1 : Nat) (Q : Nat → Int × Int) (a2 : Option Addr) (l2 c2 : Nat) (V : Nat → Int) (a3 : Option Addr) (l3 c3 : Nat) (U : Nat → Int) (w : World) (wz : (Lit.int .i64 z).wf = true) (wy : (Lit.int .i64 y).wf = true) (hl0 : l0 ≤ c0) (hc0 : c0 ≤ maxLen) (hP : Prs w a0 l0 P) (hl1 : l1 ≤ c1) (hc1 : c1 ≤ maxLen) (hQ : Prs w a1 l1 Q) (hl2 : l2 ≤ c2) (hc2 : c2 ≤ maxLen) (hV : SlInts .i64 w a2 l2 V) (hl3 : l3 ≤ c3) (hc3 : c3 ≤ maxLen) (hU : SlInts .i64 w a3 l3 U) (hT : Tab w) :
    Calls Tryd.prog 6 #[.int .i64 z, .int .i64 y, .slice a0 l0 c0, .slice a1 l1 c1, .slice a2 l2 c2, .slice a3 l3 c3] w fun e w' => e = .returned (.bool true) ∧ Below w.heap.size w w' := by
  by_cases h : z = y
  · subst h
    exact relJoins_eq z a0 l0 c0 P a1 l1 c1 Q a2 l2 c2 V a3 l3 c3 U w hl0 hc0 hP hl1 hc1 hQ hl2 hc2 hV hl3 hc3 hU hT
  · exact relJoins_ne z y a0 l0 c0 P a1 l1 c1 Q a2 l2 c2 V a3 l3 c3 U w h hl0 hc0 hP hl1 hc1 hQ hl2 hc2 hV hl3 hc3 hU hT
end Go.Proofs.YtpcpjmbfinpmlaaDoor
