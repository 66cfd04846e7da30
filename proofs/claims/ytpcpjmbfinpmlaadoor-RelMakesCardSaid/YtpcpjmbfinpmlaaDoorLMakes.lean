/- RelMakes: the walk. -/
import Derived.Test.YtpcpjmbfinpmlaaDoorCpy
import Derived.Test.YtpcpjmbfinpmlaaDoorRmd
import Derived.Test.YtpcpjmbfinpmlaaDoorIsx
import Derived.Test.YtpcpjmbfinpmlaaDoorRex
import Derived.Test.YtpcpjmbfinpmlaaDoorRcd
import Derived.Test.YtpcpjmbfinpmlaaDoorRlo
import Derived.Test.YtpcpjmbfinpmlaaDoorRrod
import Derived.Test.YtpcpjmbfinpmlaaDoorRtu
set_option linter.unusedSimpArgs false
set_option linter.unusedVariables false
set_option linter.unusedSectionVars false
namespace Go.Proofs.YtpcpjmbfinpmlaaDoor
open Go.RowKit
set_option maxRecDepth 100000

/-- What Loop tells is one thing. -/
theorem loop_one (n : Nat) (s : Rn) : ∃ (q : Int) (f : Bool), ∀ w e w', LoopTo w n s e w' → e = .returned (.tuple #[.int .i64 q, .bool f]) ∧ Fr Nil w w' := by
  by_cases h : ∃ a, a < n ∧ s a a = true
  · obtain ⟨a, ha, hs, hl⟩ := low_ex (fun a => s a a) n h
    refine ⟨(a : Int), true, fun w e w' hL => ⟨?_, hL.2⟩⟩
    rcases hL.1 with ⟨b, hb, h1, h2, rfl⟩ | ⟨h1, rfl⟩
    · have : b = a := by
        rcases Nat.lt_trichotomy a b with h3 | h3 | h3
        · have := h2 a h3
          have h4 : s a a = true := hs
          rw [this] at h4
          cases h4
        · exact h3.symm
        · have := hl b h3
          have h4 : s b b = false := this
          rw [h1] at h4
          cases h4
      rw [this]
    · have := h1 a ha
      have h4 : s a a = true := hs
      rw [this] at h4
      cases h4
  · refine ⟨0, false, fun w e w' hL => ⟨?_, hL.2⟩⟩
    rcases hL.1 with ⟨b, hb, h1, h2, rfl⟩ | ⟨h1, rfl⟩
    · exact absurd ⟨b, hb, h1⟩ h
    · rfl
theorem idl_at (L : List Nat) {k : Nat} (h : k < L.length) : ∃ x : Nat, (idl L)[k]? = some (.int .i64 (x : Int)) := ⟨L[k], by unfold idl; rw [List.getElem?_map, List.getElem?_eq_getElem h]; rfl⟩
def OrdV (w : World) (xs : List Nat) (f : Bool) (e : Ending) (w' : World) : Prop := ∃ aa cap, e = .returned (.tuple #[.slice aa xs.length cap, .bool f]) ∧ Win w' 3 1 (.slice aa xs.length cap) xs.length (idl xs) ∧ Fr Nil w w'
/-- What Order tells is one thing. -/
theorem order_one (n : Nat) (r : Rn) (h64 : n ≤ 64) {L : List Nat} (hL : OrdF r n L) : ∃ (xs : List Nat) (f : Bool), xs.length ≤ 64 ∧ ∀ w e w', OrderTo w r n e w' → OrdV w xs f e w' := by
  have hle := hL.1.len
  by_cases h : L.length < n
  · refine ⟨[], false, by simp, fun w e w' ho => ?_⟩
    obtain ⟨L', h1, f, hc⟩ := ho
    have := hL.unique h1
    subst this
    rcases hc with ⟨_, rfl⟩ | ⟨h2, _⟩
    · exact ⟨none, 0, rfl, Win.nil _ _ _, f⟩
    · omega
  · refine ⟨L, true, by omega, fun w e w' ho => ?_⟩
    obtain ⟨L', h1, f, hc⟩ := ho
    have := hL.unique h1
    subst this
    rcases hc with ⟨h2, rfl⟩ | ⟨h2, aa, cap, rfl, hl⟩
    · omega
    · exact ⟨aa, cap, rfl, hl.win, f⟩

set_option maxHeartbeats 32000000 in
theorem relMakes_walk (z : Int) (a0 : Option Addr) (l0 c0 : Nat) (P : Nat → Int × Int) (a b : Int) (w : World) (wz : (Lit.int .i64 z).wf = true) (hl0 : l0 ≤ c0) (hc0 : c0 ≤ maxLen) (hP : Prs w a0 l0 P) (hz0 : l0 * 16 ≤ 140737488351232) (wa : (Lit.int .i64 a).wf = true) (wb : (Lit.int .i64 b).wf = true) (hT : Tab w) :
    Calls Tryd.prog 4 #[.int .i64 z, .slice a0 l0 c0, .int .i64 a, .int .i64 b] w fun e w' => e = .returned (.bool true) ∧ Below w.heap.size w w' := by
  have HT := Lib.hid hT
  have h0 : (l0 : Int) ≤ 9223372036854775807 := by omega
  have H0 := Lib.hid h0
  have HZ := Lib.hid (show l0 * 16 ≤ 140737488355328 by omega)
  have HP := Lib.hid hP
  have EX := Lib.hid (examples_ok w hT)
  have MD := Lib.hid (fun W (hW : Fr Nil w W) => made_ok z a0 l0 c0 P W (hP.fr0 hW) h0)
  clear hT hl0 hc0 hP hz0 wz wa wb h0
  go_enter Tryd.func4, Tryd.ntmps4
  go_wp2_with fail
  refine EX.out.mono ?_
  rintro e w1 ⟨rfl, f1⟩
  have F := Lib.hid f1
  clear f1 EX
  go_wp2_with fail
  refine (MD.out w1 F.out).mono ?_
  intro e w2 hm
  rcases hm with ⟨hz, rfl, rfl⟩ | ⟨n, br, bx, rfl, hn, rfl, hr, hx, f2, -, -⟩
  · have P1 := Lib.hid (HP.out.fr0 F.out)
    go_wp2_with (at_builtin; refine wpList_copy rfl (.tmp 42) rfl a0 l0 c0 P rfl P1.out HZ.out ?_; intro ao cc w3 p3 f3)
    have F3 := Lib.hid (F.out.trans f3)
    have P3 := Lib.hid p3
    clear p3 f3
    refine (rof_bad z a0 l0 c0 w3 hz H0.out).mono ?_
    rintro e w4 ⟨rfl, rfl⟩
    have OB := Lib.hid (of_bad z ao l0 cc P w3 hz P3.out H0.out)
    have C := Lib.hid (show (if z < 0 then (1 : Int) else 5) = 1 ∨ (if z < 0 then (1 : Int) else 5) = 5 by split; exact .inl rfl; exact .inr rfl)
    generalize (if z < 0 then (1 : Int) else 5) = ec at *
    have q0 : (ec == 0) = false := by rcases C.out with e | e <;> subst e <;> rfl
    have q1 : (ec != 0) = true := by rcases C.out with e | e <;> subst e <;> rfl
    clear C hz
    go_wp2_with fail
    refine OB.out.mono ?_
    rintro e w5 ⟨rfl, f5⟩
    have F5 := Lib.hid (F3.out.trans f5)
    clear f5 OB
    go_wp2_with fail
    go_ret
    exact ⟨rfl, F5.out.below (Nat.le_refl _) fun _ _ x => x⟩
  have HN := Lib.hid hn
  have A_r := Lib.hid hr
  have X_r := Lib.hid hx
  have F_ := Lib.hid (F.out.trans f2)
  have P2 := Lib.hid (HP.out.fr0 F_.out)
  clear F
  have F := F_
  clear F_ hn hr hx f2 MD
  generalize mdR n P (min l0 5000) = r at *
  go_wp2_with (at_builtin; refine wpList_copy rfl (.tmp 42) rfl a0 l0 c0 P rfl P2.out HZ.out ?_; intro ao cc w3 p3 ff)
  have P3 := Lib.hid p3
  have OKr := Lib.hid A_r.out.ok
  have A_r_ := Lib.hid (A_r.out.fr0 ff)
  have X_r_ := Lib.hid (X_r.out.fr0 ff)
  have F_ := Lib.hid (F.out.trans ff)
  clear F A_r X_r
  have A_r := A_r_
  have X_r := X_r_
  have F := F_
  clear F_ A_r_ X_r_
  clear p3 ff
  obtain ⟨lq, lf, hlo⟩ := loop_one n (clo n r)
  have LO := Lib.hid hlo
  clear hlo
  refine (rof_ok n a0 l0 c0 P w3 HN.out (HP.out.fr0 F.out) H0.out).mono ?_
  intro e w4 hof
  have P3_ := Lib.hid (P3.out.fr0 hof.2)
  clear P3
  have P3 := P3_
  clear P3_
  obtain ⟨hc, ff⟩ := hof
  have A_r_ := Lib.hid (A_r.out.fr0 ff)
  have X_r_ := Lib.hid (X_r.out.fr0 ff)
  have F_ := Lib.hid (F.out.trans ff)
  clear F A_r X_r
  have A_r := A_r_
  have X_r := X_r_
  have F := F_
  clear F_ A_r_ X_r_
  clear ff
  have OF := Lib.hid (of_ok n ao l0 cc P w4 HN.out P3.out H0.out)
  generalize ofS n P l0 = sv at *
  obtain ⟨q, fl⟩ := sv
  clear P3 HP H0 HZ
  cases fl
  · have hc2 : e = .returned (.tuple #[.pointer none, .int .i64 1]) := hc
    subst hc2; clear hc
    go_wp2_with fail
    refine OF.out.mono ?_
    rintro e w5 ⟨hc, ff⟩
    have hc2 : e = .returned (.tuple #[.pointer none, .int .i64 1]) := hc
    subst hc2; clear hc OF
    have A_r_ := Lib.hid (A_r.out.fr0 ff)
    have X_r_ := Lib.hid (X_r.out.fr0 ff)
    have F_ := Lib.hid (F.out.trans ff)
    clear F A_r X_r
    have A_r := A_r_
    have X_r := X_r_
    have F := F_
    clear F_ A_r_ X_r_
    clear ff
    have IA := Lib.hid (in_ok bx n r a w5 X_r.out)
    have IB := Lib.hid (in_ok bx n r b w5 X_r.out)
    have HAS : Hid (∀ q, has n r a b = q → ∀ W, RelAt W br n r → Calls Tryd.prog 9 #[.pointer (some ⟨br, 0, none⟩), .int .i64 a, .int .i64 b] W fun e w' => e = .returned (.bool q) ∧ W = w') := Lib.hid fun q hq W hW => by rw [← hq]; exact has_ok br n r a b W hW
    go_wp2_with fail
    refine IA.out.mono ?_
    rintro e w9 ⟨rfl, rfl⟩
    cases hia : inB n a
    · have HS := Lib.hid (HAS.out false (by unfold has; rw [hia]; rfl))
      clear hia IA IB HAS
      go_wp2_with fail
      refine (isr_ok br bx n r w5 A_r.out X_r.out (HT.out.fr0 F.out)).mono ?_
      rintro e w6 ⟨rfl, ff⟩
      have A_r_ := Lib.hid (A_r.out.fr0 ff)
      have X_r_ := Lib.hid (X_r.out.fr0 ff)
      have F_ := Lib.hid (F.out.trans ff)
      clear F A_r X_r
      have A_r := A_r_
      have X_r := X_r_
      have F := F_
      clear F_ A_r_ X_r_
      clear ff
      go_wp2_with fail
      refine (turned_ok br n r w6 A_r.out (HT.out.fr0 F.out)).mono ?_
      rintro e w7 ⟨bt, rfl, hh, ff, -⟩
      have A_r_ := Lib.hid (A_r.out.fr0 ff)
      have X_r_ := Lib.hid (X_r.out.fr0 ff)
      have F_ := Lib.hid (F.out.trans ff)
      clear F A_r X_r
      have A_r := A_r_
      have X_r := X_r_
      have F := F_
      clear F_ A_r_ X_r_
      have A_t := Lib.hid hh
      clear ff hh
      go_wp2_with fail
      refine (rturned_ok bx n r w7 X_r.out OKr.out).mono ?_
      rintro e w8 ⟨xt, rfl, hh, ff, -⟩
      have A_r_ := Lib.hid (A_r.out.fr0 ff)
      have A_t_ := Lib.hid (A_t.out.fr0 ff)
      have X_r_ := Lib.hid (X_r.out.fr0 ff)
      have F_ := Lib.hid (F.out.trans ff)
      clear F A_r A_t X_r
      have A_r := A_r_
      have A_t := A_t_
      have X_r := X_r_
      have F := F_
      clear F_ A_r_ A_t_ X_r_
      have X_t := Lib.hid hh
      clear ff hh
      go_wp2_with fail
      refine (isr_ok bt xt n (trn r) w8 A_t.out X_t.out (HT.out.fr0 F.out)).mono ?_
      rintro e w9 ⟨rfl, ff⟩
      have A_r_ := Lib.hid (A_r.out.fr0 ff)
      have A_t_ := Lib.hid (A_t.out.fr0 ff)
      have X_r_ := Lib.hid (X_r.out.fr0 ff)
      have X_t_ := Lib.hid (X_t.out.fr0 ff)
      have F_ := Lib.hid (F.out.trans ff)
      clear F A_r A_t X_r X_t
      have A_r := A_r_
      have A_t := A_t_
      have X_r := X_r_
      have X_t := X_t_
      have F := F_
      clear F_ A_r_ A_t_ X_r_ X_t_
      clear ff
      clear A_t
      clear X_t
      go_wp2_with fail
      refine (closed_ok br n r w9 A_r.out).mono ?_
      rintro e w10 ⟨bc, rfl, hh, ff, -⟩
      have A_r_ := Lib.hid (A_r.out.fr0 ff)
      have X_r_ := Lib.hid (X_r.out.fr0 ff)
      have F_ := Lib.hid (F.out.trans ff)
      clear F A_r X_r
      have A_r := A_r_
      have X_r := X_r_
      have F := F_
      clear F_ A_r_ X_r_
      have A_c := Lib.hid hh
      clear ff hh
      go_wp2_with fail
      refine (rclosed_ok bx n r w10 X_r.out OKr.out).mono ?_
      rintro e w11 ⟨xc, rfl, hh, ff, -⟩
      have A_r_ := Lib.hid (A_r.out.fr0 ff)
      have A_c_ := Lib.hid (A_c.out.fr0 ff)
      have X_r_ := Lib.hid (X_r.out.fr0 ff)
      have F_ := Lib.hid (F.out.trans ff)
      clear F A_r A_c X_r
      have A_r := A_r_
      have A_c := A_c_
      have X_r := X_r_
      have F := F_
      clear F_ A_r_ A_c_ X_r_
      have X_c := Lib.hid hh
      clear ff hh
      go_wp2_with fail
      refine (isr_ok bc xc n (clo n r) w11 A_c.out X_c.out (HT.out.fr0 F.out)).mono ?_
      rintro e w12 ⟨rfl, ff⟩
      have A_r_ := Lib.hid (A_r.out.fr0 ff)
      have A_c_ := Lib.hid (A_c.out.fr0 ff)
      have X_r_ := Lib.hid (X_r.out.fr0 ff)
      have X_c_ := Lib.hid (X_c.out.fr0 ff)
      have F_ := Lib.hid (F.out.trans ff)
      clear F A_r A_c X_r X_c
      have A_r := A_r_
      have A_c := A_c_
      have X_r := X_r_
      have X_c := X_c_
      have F := F_
      clear F_ A_r_ A_c_ X_r_ X_c_
      clear ff
      clear A_c
      clear X_c
      go_wp2_with fail
      refine (((loop_ok br n r w12 A_r.out).mono (LO.out _))).mono ?_
      rintro e w13 ⟨rfl, ff⟩
      have A_r_ := Lib.hid (A_r.out.fr0 ff)
      have X_r_ := Lib.hid (X_r.out.fr0 ff)
      have F_ := Lib.hid (F.out.trans ff)
      clear F A_r X_r
      have A_r := A_r_
      have X_r := X_r_
      have F := F_
      clear F_ A_r_ X_r_
      clear ff
      have RL := Lib.hid ((rloop_of bx n r (clo n r) w13 X_r.out (Lib.hid (rclosed_ok bx n r w13 X_r.out OKr.out))).mono (LO.out _))
      go_wp2_with fail
      refine (RL.out).mono ?_
      rintro e w14 ⟨rfl, ff⟩
      have A_r_ := Lib.hid (A_r.out.fr0 ff)
      have X_r_ := Lib.hid (X_r.out.fr0 ff)
      have F_ := Lib.hid (F.out.trans ff)
      clear F A_r X_r
      have A_r := A_r_
      have X_r := X_r_
      have F := F_
      clear F_ A_r_ X_r_
      clear ff
      clear RL LO
      go_wp2_with fail
      refine (order_ok br n r w14 A_r.out (HT.out.fr0 F.out)).mono ?_
      intro e w15 ho
      obtain ⟨xs, of, hxl, hone⟩ := order_one n r HN.out ho.choose_spec.1
      obtain ⟨aa, acp, rfl, hv1, ff⟩ := hone _ _ _ ho
      have ON := Lib.hid hone
      have XL := Lib.hid hxl
      have V_o := Lib.hid hv1
      have A_r_ := Lib.hid (A_r.out.fr0 ff)
      have X_r_ := Lib.hid (X_r.out.fr0 ff)
      have F_ := Lib.hid (F.out.trans ff)
      clear F A_r X_r
      have A_r := A_r_
      have X_r := X_r_
      have F := F_
      clear F_ A_r_ X_r_
      clear ff hone hv1 ho hxl
      have RO := Lib.hid ((rorder_ok bx n r w15 X_r.out OKr.out).mono (ON.out _))
      go_wp2_with fail
      refine (RO.out).mono ?_
      rintro e w16 ⟨ab, bcp, rfl, hh, ff⟩
      have A_r_ := Lib.hid (A_r.out.fr0 ff)
      have X_r_ := Lib.hid (X_r.out.fr0 ff)
      have V_o_ := Lib.hid (V_o.out.fr ff fun _ _ => id)
      have F_ := Lib.hid (F.out.trans ff)
      clear F A_r X_r V_o
      have A_r := A_r_
      have X_r := X_r_
      have V_o := V_o_
      have F := F_
      clear F_ A_r_ X_r_ V_o_
      have V_q := Lib.hid hh
      clear ff hh
      clear RO ON
      clear X_r
      have xl : (xs.length : Int) ≤ 64 := by have := XL.out; omega
      go_wp2_with fail
      go_loopw [31] (fun i wr => ∃ k : Nat, k ≤ xs.length ∧ i = .int .i64 (k : Int) ∧ Fr Nil w16 wr) (fun i _ => xs.length - (intOf i).toNat)
      case atStart => exact ⟨0, Nat.zero_le _, rfl, Fr.refl _ _⟩
      case round =>
        obtain ⟨k, hk, rfl, hf⟩ := hrel
        have HF := Lib.hid hf
        by_cases hlt : k < xs.length
        · have HK := Lib.hid hlt
          have kn : (k : Int) < (xs.length : Int) := by omega
          have P1 := V_o.out.fr hf fun _ _ => id
          have P2 := V_q.out.fr hf fun _ _ => id
          obtain ⟨g1, o1, cap1, ev1, -, -, -, -, -⟩ := P1.form (by omega)
          obtain ⟨g2, o2, cap2, ev2, -, -, -, -, -⟩ := P2.form (by omega)
          cases ev1
          cases ev2
          obtain ⟨xk, pg⟩ := idl_at xs hlt
          have d0 := P1.cellAt pg
          have d1 := P2.cellAt pg
          clear P1 P2 pg hf
          clear hk hlt
          go_upto_region 31 with fail
          go_quiet (fail)
          go_wp2_with fail
          go_roundw
          case rel => exact ⟨k + 1, HK.out, by go_num, HF.out.drewN _⟩
          case measure => have := HK.out; simp [intOf]; omega
        · obtain rfl : k = xs.length := by omega
          have l1 : decide (xs.length < xs.length) = false := by simp
          clear hk hlt hf
          have HC := HS.out wr (A_r.out.fr0 HF.out)
          have F2 := Lib.hid (F.out.trans HF.out)
          go_wp2_with (go_at_call 9; refine HC.mono ?_; rintro e w99 ⟨rfl, rfl⟩)
          go_ret
          exact ⟨rfl, F2.out.below (Nat.le_refl _) fun _ _ x => x⟩
    · cases hib : inB n b
      · rw [hib] at IB
        have HS := Lib.hid (HAS.out false (by unfold has; rw [hia, hib]; rfl))
        clear hia hib IA HAS
        go_wp2_with fail
        refine IB.out.mono ?_
        rintro e w9 ⟨rfl, rfl⟩
        clear IB
        go_wp2_with fail
        refine (isr_ok br bx n r w5 A_r.out X_r.out (HT.out.fr0 F.out)).mono ?_
        rintro e w6 ⟨rfl, ff⟩
        have A_r_ := Lib.hid (A_r.out.fr0 ff)
        have X_r_ := Lib.hid (X_r.out.fr0 ff)
        have F_ := Lib.hid (F.out.trans ff)
        clear F A_r X_r
        have A_r := A_r_
        have X_r := X_r_
        have F := F_
        clear F_ A_r_ X_r_
        clear ff
        go_wp2_with fail
        refine (turned_ok br n r w6 A_r.out (HT.out.fr0 F.out)).mono ?_
        rintro e w7 ⟨bt, rfl, hh, ff, -⟩
        have A_r_ := Lib.hid (A_r.out.fr0 ff)
        have X_r_ := Lib.hid (X_r.out.fr0 ff)
        have F_ := Lib.hid (F.out.trans ff)
        clear F A_r X_r
        have A_r := A_r_
        have X_r := X_r_
        have F := F_
        clear F_ A_r_ X_r_
        have A_t := Lib.hid hh
        clear ff hh
        go_wp2_with fail
        refine (rturned_ok bx n r w7 X_r.out OKr.out).mono ?_
        rintro e w8 ⟨xt, rfl, hh, ff, -⟩
        have A_r_ := Lib.hid (A_r.out.fr0 ff)
        have A_t_ := Lib.hid (A_t.out.fr0 ff)
        have X_r_ := Lib.hid (X_r.out.fr0 ff)
        have F_ := Lib.hid (F.out.trans ff)
        clear F A_r A_t X_r
        have A_r := A_r_
        have A_t := A_t_
        have X_r := X_r_
        have F := F_
        clear F_ A_r_ A_t_ X_r_
        have X_t := Lib.hid hh
        clear ff hh
        go_wp2_with fail
        refine (isr_ok bt xt n (trn r) w8 A_t.out X_t.out (HT.out.fr0 F.out)).mono ?_
        rintro e w9 ⟨rfl, ff⟩
        have A_r_ := Lib.hid (A_r.out.fr0 ff)
        have A_t_ := Lib.hid (A_t.out.fr0 ff)
        have X_r_ := Lib.hid (X_r.out.fr0 ff)
        have X_t_ := Lib.hid (X_t.out.fr0 ff)
        have F_ := Lib.hid (F.out.trans ff)
        clear F A_r A_t X_r X_t
        have A_r := A_r_
        have A_t := A_t_
        have X_r := X_r_
        have X_t := X_t_
        have F := F_
        clear F_ A_r_ A_t_ X_r_ X_t_
        clear ff
        clear A_t
        clear X_t
        go_wp2_with fail
        refine (closed_ok br n r w9 A_r.out).mono ?_
        rintro e w10 ⟨bc, rfl, hh, ff, -⟩
        have A_r_ := Lib.hid (A_r.out.fr0 ff)
        have X_r_ := Lib.hid (X_r.out.fr0 ff)
        have F_ := Lib.hid (F.out.trans ff)
        clear F A_r X_r
        have A_r := A_r_
        have X_r := X_r_
        have F := F_
        clear F_ A_r_ X_r_
        have A_c := Lib.hid hh
        clear ff hh
        go_wp2_with fail
        refine (rclosed_ok bx n r w10 X_r.out OKr.out).mono ?_
        rintro e w11 ⟨xc, rfl, hh, ff, -⟩
        have A_r_ := Lib.hid (A_r.out.fr0 ff)
        have A_c_ := Lib.hid (A_c.out.fr0 ff)
        have X_r_ := Lib.hid (X_r.out.fr0 ff)
        have F_ := Lib.hid (F.out.trans ff)
        clear F A_r A_c X_r
        have A_r := A_r_
        have A_c := A_c_
        have X_r := X_r_
        have F := F_
        clear F_ A_r_ A_c_ X_r_
        have X_c := Lib.hid hh
        clear ff hh
        go_wp2_with fail
        refine (isr_ok bc xc n (clo n r) w11 A_c.out X_c.out (HT.out.fr0 F.out)).mono ?_
        rintro e w12 ⟨rfl, ff⟩
        have A_r_ := Lib.hid (A_r.out.fr0 ff)
        have A_c_ := Lib.hid (A_c.out.fr0 ff)
        have X_r_ := Lib.hid (X_r.out.fr0 ff)
        have X_c_ := Lib.hid (X_c.out.fr0 ff)
        have F_ := Lib.hid (F.out.trans ff)
        clear F A_r A_c X_r X_c
        have A_r := A_r_
        have A_c := A_c_
        have X_r := X_r_
        have X_c := X_c_
        have F := F_
        clear F_ A_r_ A_c_ X_r_ X_c_
        clear ff
        clear A_c
        clear X_c
        go_wp2_with fail
        refine (((loop_ok br n r w12 A_r.out).mono (LO.out _))).mono ?_
        rintro e w13 ⟨rfl, ff⟩
        have A_r_ := Lib.hid (A_r.out.fr0 ff)
        have X_r_ := Lib.hid (X_r.out.fr0 ff)
        have F_ := Lib.hid (F.out.trans ff)
        clear F A_r X_r
        have A_r := A_r_
        have X_r := X_r_
        have F := F_
        clear F_ A_r_ X_r_
        clear ff
        have RL := Lib.hid ((rloop_of bx n r (clo n r) w13 X_r.out (Lib.hid (rclosed_ok bx n r w13 X_r.out OKr.out))).mono (LO.out _))
        go_wp2_with fail
        refine (RL.out).mono ?_
        rintro e w14 ⟨rfl, ff⟩
        have A_r_ := Lib.hid (A_r.out.fr0 ff)
        have X_r_ := Lib.hid (X_r.out.fr0 ff)
        have F_ := Lib.hid (F.out.trans ff)
        clear F A_r X_r
        have A_r := A_r_
        have X_r := X_r_
        have F := F_
        clear F_ A_r_ X_r_
        clear ff
        clear RL LO
        go_wp2_with fail
        refine (order_ok br n r w14 A_r.out (HT.out.fr0 F.out)).mono ?_
        intro e w15 ho
        obtain ⟨xs, of, hxl, hone⟩ := order_one n r HN.out ho.choose_spec.1
        obtain ⟨aa, acp, rfl, hv1, ff⟩ := hone _ _ _ ho
        have ON := Lib.hid hone
        have XL := Lib.hid hxl
        have V_o := Lib.hid hv1
        have A_r_ := Lib.hid (A_r.out.fr0 ff)
        have X_r_ := Lib.hid (X_r.out.fr0 ff)
        have F_ := Lib.hid (F.out.trans ff)
        clear F A_r X_r
        have A_r := A_r_
        have X_r := X_r_
        have F := F_
        clear F_ A_r_ X_r_
        clear ff hone hv1 ho hxl
        have RO := Lib.hid ((rorder_ok bx n r w15 X_r.out OKr.out).mono (ON.out _))
        go_wp2_with fail
        refine (RO.out).mono ?_
        rintro e w16 ⟨ab, bcp, rfl, hh, ff⟩
        have A_r_ := Lib.hid (A_r.out.fr0 ff)
        have X_r_ := Lib.hid (X_r.out.fr0 ff)
        have V_o_ := Lib.hid (V_o.out.fr ff fun _ _ => id)
        have F_ := Lib.hid (F.out.trans ff)
        clear F A_r X_r V_o
        have A_r := A_r_
        have X_r := X_r_
        have V_o := V_o_
        have F := F_
        clear F_ A_r_ X_r_ V_o_
        have V_q := Lib.hid hh
        clear ff hh
        clear RO ON
        clear X_r
        have xl : (xs.length : Int) ≤ 64 := by have := XL.out; omega
        go_wp2_with fail
        go_loopw [31] (fun i wr => ∃ k : Nat, k ≤ xs.length ∧ i = .int .i64 (k : Int) ∧ Fr Nil w16 wr) (fun i _ => xs.length - (intOf i).toNat)
        case atStart => exact ⟨0, Nat.zero_le _, rfl, Fr.refl _ _⟩
        case round =>
          obtain ⟨k, hk, rfl, hf⟩ := hrel
          have HF := Lib.hid hf
          by_cases hlt : k < xs.length
          · have HK := Lib.hid hlt
            have kn : (k : Int) < (xs.length : Int) := by omega
            have P1 := V_o.out.fr hf fun _ _ => id
            have P2 := V_q.out.fr hf fun _ _ => id
            obtain ⟨g1, o1, cap1, ev1, -, -, -, -, -⟩ := P1.form (by omega)
            obtain ⟨g2, o2, cap2, ev2, -, -, -, -, -⟩ := P2.form (by omega)
            cases ev1
            cases ev2
            obtain ⟨xk, pg⟩ := idl_at xs hlt
            have d0 := P1.cellAt pg
            have d1 := P2.cellAt pg
            clear P1 P2 pg hf
            clear hk hlt
            go_upto_region 31 with fail
            go_quiet (fail)
            go_wp2_with fail
            go_roundw
            case rel => exact ⟨k + 1, HK.out, by go_num, HF.out.drewN _⟩
            case measure => have := HK.out; simp [intOf]; omega
          · obtain rfl : k = xs.length := by omega
            have l1 : decide (xs.length < xs.length) = false := by simp
            clear hk hlt hf
            have HC := HS.out wr (A_r.out.fr0 HF.out)
            have F2 := Lib.hid (F.out.trans HF.out)
            go_wp2_with (go_at_call 9; refine HC.mono ?_; rintro e w99 ⟨rfl, rfl⟩)
            go_ret
            exact ⟨rfl, F2.out.below (Nat.le_refl _) fun _ _ x => x⟩
      · rw [hib] at IB
        obtain ⟨i, rfl, hi⟩ := inB_nat hia
        obtain ⟨j, rfl, hj⟩ := inB_nat hib
        have HS := Lib.hid (HAS.out (r i j) (has_nat OKr.out i j))
        have i64 : (i : Int) < 64 := by have := HN.out; omega
        have j64 : (j : Int) < 64 := by have := HN.out; omega
        have ch := X_r.out.c_c (a := i) (c := j) (by have := HN.out; omega) (by have := HN.out; omega)
        clear hia hib IA HAS hi hj
        generalize r i j = hv at *
        go_wp2_with fail
        refine IB.out.mono ?_
        rintro e w9 ⟨rfl, rfl⟩
        clear IB
        go_wp2_with fail
        clear ch
        refine (isr_ok br bx n r w5 A_r.out X_r.out (HT.out.fr0 F.out)).mono ?_
        rintro e w6 ⟨rfl, ff⟩
        have A_r_ := Lib.hid (A_r.out.fr0 ff)
        have X_r_ := Lib.hid (X_r.out.fr0 ff)
        have F_ := Lib.hid (F.out.trans ff)
        clear F A_r X_r
        have A_r := A_r_
        have X_r := X_r_
        have F := F_
        clear F_ A_r_ X_r_
        clear ff
        go_wp2_with fail
        refine (turned_ok br n r w6 A_r.out (HT.out.fr0 F.out)).mono ?_
        rintro e w7 ⟨bt, rfl, hh, ff, -⟩
        have A_r_ := Lib.hid (A_r.out.fr0 ff)
        have X_r_ := Lib.hid (X_r.out.fr0 ff)
        have F_ := Lib.hid (F.out.trans ff)
        clear F A_r X_r
        have A_r := A_r_
        have X_r := X_r_
        have F := F_
        clear F_ A_r_ X_r_
        have A_t := Lib.hid hh
        clear ff hh
        go_wp2_with fail
        refine (rturned_ok bx n r w7 X_r.out OKr.out).mono ?_
        rintro e w8 ⟨xt, rfl, hh, ff, -⟩
        have A_r_ := Lib.hid (A_r.out.fr0 ff)
        have A_t_ := Lib.hid (A_t.out.fr0 ff)
        have X_r_ := Lib.hid (X_r.out.fr0 ff)
        have F_ := Lib.hid (F.out.trans ff)
        clear F A_r A_t X_r
        have A_r := A_r_
        have A_t := A_t_
        have X_r := X_r_
        have F := F_
        clear F_ A_r_ A_t_ X_r_
        have X_t := Lib.hid hh
        clear ff hh
        go_wp2_with fail
        refine (isr_ok bt xt n (trn r) w8 A_t.out X_t.out (HT.out.fr0 F.out)).mono ?_
        rintro e w9 ⟨rfl, ff⟩
        have A_r_ := Lib.hid (A_r.out.fr0 ff)
        have A_t_ := Lib.hid (A_t.out.fr0 ff)
        have X_r_ := Lib.hid (X_r.out.fr0 ff)
        have X_t_ := Lib.hid (X_t.out.fr0 ff)
        have F_ := Lib.hid (F.out.trans ff)
        clear F A_r A_t X_r X_t
        have A_r := A_r_
        have A_t := A_t_
        have X_r := X_r_
        have X_t := X_t_
        have F := F_
        clear F_ A_r_ A_t_ X_r_ X_t_
        clear ff
        clear A_t
        clear X_t
        go_wp2_with fail
        refine (closed_ok br n r w9 A_r.out).mono ?_
        rintro e w10 ⟨bc, rfl, hh, ff, -⟩
        have A_r_ := Lib.hid (A_r.out.fr0 ff)
        have X_r_ := Lib.hid (X_r.out.fr0 ff)
        have F_ := Lib.hid (F.out.trans ff)
        clear F A_r X_r
        have A_r := A_r_
        have X_r := X_r_
        have F := F_
        clear F_ A_r_ X_r_
        have A_c := Lib.hid hh
        clear ff hh
        go_wp2_with fail
        refine (rclosed_ok bx n r w10 X_r.out OKr.out).mono ?_
        rintro e w11 ⟨xc, rfl, hh, ff, -⟩
        have A_r_ := Lib.hid (A_r.out.fr0 ff)
        have A_c_ := Lib.hid (A_c.out.fr0 ff)
        have X_r_ := Lib.hid (X_r.out.fr0 ff)
        have F_ := Lib.hid (F.out.trans ff)
        clear F A_r A_c X_r
        have A_r := A_r_
        have A_c := A_c_
        have X_r := X_r_
        have F := F_
        clear F_ A_r_ A_c_ X_r_
        have X_c := Lib.hid hh
        clear ff hh
        go_wp2_with fail
        refine (isr_ok bc xc n (clo n r) w11 A_c.out X_c.out (HT.out.fr0 F.out)).mono ?_
        rintro e w12 ⟨rfl, ff⟩
        have A_r_ := Lib.hid (A_r.out.fr0 ff)
        have A_c_ := Lib.hid (A_c.out.fr0 ff)
        have X_r_ := Lib.hid (X_r.out.fr0 ff)
        have X_c_ := Lib.hid (X_c.out.fr0 ff)
        have F_ := Lib.hid (F.out.trans ff)
        clear F A_r A_c X_r X_c
        have A_r := A_r_
        have A_c := A_c_
        have X_r := X_r_
        have X_c := X_c_
        have F := F_
        clear F_ A_r_ A_c_ X_r_ X_c_
        clear ff
        clear A_c
        clear X_c
        go_wp2_with fail
        refine (((loop_ok br n r w12 A_r.out).mono (LO.out _))).mono ?_
        rintro e w13 ⟨rfl, ff⟩
        have A_r_ := Lib.hid (A_r.out.fr0 ff)
        have X_r_ := Lib.hid (X_r.out.fr0 ff)
        have F_ := Lib.hid (F.out.trans ff)
        clear F A_r X_r
        have A_r := A_r_
        have X_r := X_r_
        have F := F_
        clear F_ A_r_ X_r_
        clear ff
        have RL := Lib.hid ((rloop_of bx n r (clo n r) w13 X_r.out (Lib.hid (rclosed_ok bx n r w13 X_r.out OKr.out))).mono (LO.out _))
        go_wp2_with fail
        refine (RL.out).mono ?_
        rintro e w14 ⟨rfl, ff⟩
        have A_r_ := Lib.hid (A_r.out.fr0 ff)
        have X_r_ := Lib.hid (X_r.out.fr0 ff)
        have F_ := Lib.hid (F.out.trans ff)
        clear F A_r X_r
        have A_r := A_r_
        have X_r := X_r_
        have F := F_
        clear F_ A_r_ X_r_
        clear ff
        clear RL LO
        go_wp2_with fail
        refine (order_ok br n r w14 A_r.out (HT.out.fr0 F.out)).mono ?_
        intro e w15 ho
        obtain ⟨xs, of, hxl, hone⟩ := order_one n r HN.out ho.choose_spec.1
        obtain ⟨aa, acp, rfl, hv1, ff⟩ := hone _ _ _ ho
        have ON := Lib.hid hone
        have XL := Lib.hid hxl
        have V_o := Lib.hid hv1
        have A_r_ := Lib.hid (A_r.out.fr0 ff)
        have X_r_ := Lib.hid (X_r.out.fr0 ff)
        have F_ := Lib.hid (F.out.trans ff)
        clear F A_r X_r
        have A_r := A_r_
        have X_r := X_r_
        have F := F_
        clear F_ A_r_ X_r_
        clear ff hone hv1 ho hxl
        have RO := Lib.hid ((rorder_ok bx n r w15 X_r.out OKr.out).mono (ON.out _))
        go_wp2_with fail
        refine (RO.out).mono ?_
        rintro e w16 ⟨ab, bcp, rfl, hh, ff⟩
        have A_r_ := Lib.hid (A_r.out.fr0 ff)
        have X_r_ := Lib.hid (X_r.out.fr0 ff)
        have V_o_ := Lib.hid (V_o.out.fr ff fun _ _ => id)
        have F_ := Lib.hid (F.out.trans ff)
        clear F A_r X_r V_o
        have A_r := A_r_
        have X_r := X_r_
        have V_o := V_o_
        have F := F_
        clear F_ A_r_ X_r_ V_o_
        have V_q := Lib.hid hh
        clear ff hh
        clear RO ON
        clear X_r
        have xl : (xs.length : Int) ≤ 64 := by have := XL.out; omega
        go_wp2_with fail
        go_loopw [31] (fun i wr => ∃ k : Nat, k ≤ xs.length ∧ i = .int .i64 (k : Int) ∧ Fr Nil w16 wr) (fun i _ => xs.length - (intOf i).toNat)
        case atStart => exact ⟨0, Nat.zero_le _, rfl, Fr.refl _ _⟩
        case round =>
          obtain ⟨k, hk, rfl, hf⟩ := hrel
          have HF := Lib.hid hf
          by_cases hlt : k < xs.length
          · have HK := Lib.hid hlt
            have kn : (k : Int) < (xs.length : Int) := by omega
            have P1 := V_o.out.fr hf fun _ _ => id
            have P2 := V_q.out.fr hf fun _ _ => id
            obtain ⟨g1, o1, cap1, ev1, -, -, -, -, -⟩ := P1.form (by omega)
            obtain ⟨g2, o2, cap2, ev2, -, -, -, -, -⟩ := P2.form (by omega)
            cases ev1
            cases ev2
            obtain ⟨xk, pg⟩ := idl_at xs hlt
            have d0 := P1.cellAt pg
            have d1 := P2.cellAt pg
            clear P1 P2 pg hf
            clear hk hlt
            go_upto_region 31 with fail
            go_quiet (fail)
            go_wp2_with fail
            go_roundw
            case rel => exact ⟨k + 1, HK.out, by go_num, HF.out.drewN _⟩
            case measure => have := HK.out; simp [intOf]; omega
          · obtain rfl : k = xs.length := by omega
            have l1 : decide (xs.length < xs.length) = false := by simp
            clear hk hlt hf
            have HC := HS.out wr (A_r.out.fr0 HF.out)
            have F2 := Lib.hid (F.out.trans HF.out)
            go_wp2_with (go_at_call 9; refine HC.mono ?_; rintro e w99 ⟨rfl, rfl⟩)
            go_ret
            exact ⟨rfl, F2.out.below (Nat.le_refl _) fun _ _ x => x⟩
  · have hc2 : ∃ b, e = .returned (.tuple #[.pointer (some ⟨b, 0, none⟩), .int .i64 0]) ∧ RefAt w4 b n q ∧ w3.heap.size ≤ b := hc
    obtain ⟨y, rfl, hy, -⟩ := hc2
    have X_y := Lib.hid hy
    clear hc hy
    go_wp2_with fail
    refine OF.out.mono ?_
    rintro e w5 ⟨hc, ff⟩
    have hc2 : ∃ b, e = .returned (.tuple #[.pointer (some ⟨b, 0, none⟩), .int .i64 0]) ∧ RelAt w5 b n q ∧ w4.heap.size ≤ b := hc
    obtain ⟨s, rfl, hs, -⟩ := hc2
    have A_r_ := Lib.hid (A_r.out.fr0 ff)
    have X_r_ := Lib.hid (X_r.out.fr0 ff)
    have X_y_ := Lib.hid (X_y.out.fr0 ff)
    have F_ := Lib.hid (F.out.trans ff)
    clear F A_r X_r X_y
    have A_r := A_r_
    have X_r := X_r_
    have X_y := X_y_
    have F := F_
    clear F_ A_r_ X_r_ X_y_
    have A_s := Lib.hid hs
    clear hc hs ff OF
    go_wp2_with fail
    refine (isr_ok s y n q w5 A_s.out X_y.out (HT.out.fr0 F.out)).mono ?_
    rintro e w6 ⟨rfl, ff⟩
    have A_r_ := Lib.hid (A_r.out.fr0 ff)
    have A_s_ := Lib.hid (A_s.out.fr0 ff)
    have X_r_ := Lib.hid (X_r.out.fr0 ff)
    have X_y_ := Lib.hid (X_y.out.fr0 ff)
    have F_ := Lib.hid (F.out.trans ff)
    clear F A_r A_s X_r X_y
    have A_r := A_r_
    have A_s := A_s_
    have X_r := X_r_
    have X_y := X_y_
    have F := F_
    clear F_ A_r_ A_s_ X_r_ X_y_
    clear ff
    clear A_s
    clear X_y
    have IA := Lib.hid (in_ok bx n r a w6 X_r.out)
    have IB := Lib.hid (in_ok bx n r b w6 X_r.out)
    have HAS : Hid (∀ q, has n r a b = q → ∀ W, RelAt W br n r → Calls Tryd.prog 9 #[.pointer (some ⟨br, 0, none⟩), .int .i64 a, .int .i64 b] W fun e w' => e = .returned (.bool q) ∧ W = w') := Lib.hid fun q hq W hW => by rw [← hq]; exact has_ok br n r a b W hW
    go_wp2_with fail
    refine IA.out.mono ?_
    rintro e w9 ⟨rfl, rfl⟩
    cases hia : inB n a
    · have HS := Lib.hid (HAS.out false (by unfold has; rw [hia]; rfl))
      clear hia IA IB HAS
      go_wp2_with fail
      refine (isr_ok br bx n r w6 A_r.out X_r.out (HT.out.fr0 F.out)).mono ?_
      rintro e w7 ⟨rfl, ff⟩
      have A_r_ := Lib.hid (A_r.out.fr0 ff)
      have X_r_ := Lib.hid (X_r.out.fr0 ff)
      have F_ := Lib.hid (F.out.trans ff)
      clear F A_r X_r
      have A_r := A_r_
      have X_r := X_r_
      have F := F_
      clear F_ A_r_ X_r_
      clear ff
      go_wp2_with fail
      refine (turned_ok br n r w7 A_r.out (HT.out.fr0 F.out)).mono ?_
      rintro e w8 ⟨bt, rfl, hh, ff, -⟩
      have A_r_ := Lib.hid (A_r.out.fr0 ff)
      have X_r_ := Lib.hid (X_r.out.fr0 ff)
      have F_ := Lib.hid (F.out.trans ff)
      clear F A_r X_r
      have A_r := A_r_
      have X_r := X_r_
      have F := F_
      clear F_ A_r_ X_r_
      have A_t := Lib.hid hh
      clear ff hh
      go_wp2_with fail
      refine (rturned_ok bx n r w8 X_r.out OKr.out).mono ?_
      rintro e w9 ⟨xt, rfl, hh, ff, -⟩
      have A_r_ := Lib.hid (A_r.out.fr0 ff)
      have A_t_ := Lib.hid (A_t.out.fr0 ff)
      have X_r_ := Lib.hid (X_r.out.fr0 ff)
      have F_ := Lib.hid (F.out.trans ff)
      clear F A_r A_t X_r
      have A_r := A_r_
      have A_t := A_t_
      have X_r := X_r_
      have F := F_
      clear F_ A_r_ A_t_ X_r_
      have X_t := Lib.hid hh
      clear ff hh
      go_wp2_with fail
      refine (isr_ok bt xt n (trn r) w9 A_t.out X_t.out (HT.out.fr0 F.out)).mono ?_
      rintro e w10 ⟨rfl, ff⟩
      have A_r_ := Lib.hid (A_r.out.fr0 ff)
      have A_t_ := Lib.hid (A_t.out.fr0 ff)
      have X_r_ := Lib.hid (X_r.out.fr0 ff)
      have X_t_ := Lib.hid (X_t.out.fr0 ff)
      have F_ := Lib.hid (F.out.trans ff)
      clear F A_r A_t X_r X_t
      have A_r := A_r_
      have A_t := A_t_
      have X_r := X_r_
      have X_t := X_t_
      have F := F_
      clear F_ A_r_ A_t_ X_r_ X_t_
      clear ff
      clear A_t
      clear X_t
      go_wp2_with fail
      refine (closed_ok br n r w10 A_r.out).mono ?_
      rintro e w11 ⟨bc, rfl, hh, ff, -⟩
      have A_r_ := Lib.hid (A_r.out.fr0 ff)
      have X_r_ := Lib.hid (X_r.out.fr0 ff)
      have F_ := Lib.hid (F.out.trans ff)
      clear F A_r X_r
      have A_r := A_r_
      have X_r := X_r_
      have F := F_
      clear F_ A_r_ X_r_
      have A_c := Lib.hid hh
      clear ff hh
      go_wp2_with fail
      refine (rclosed_ok bx n r w11 X_r.out OKr.out).mono ?_
      rintro e w12 ⟨xc, rfl, hh, ff, -⟩
      have A_r_ := Lib.hid (A_r.out.fr0 ff)
      have A_c_ := Lib.hid (A_c.out.fr0 ff)
      have X_r_ := Lib.hid (X_r.out.fr0 ff)
      have F_ := Lib.hid (F.out.trans ff)
      clear F A_r A_c X_r
      have A_r := A_r_
      have A_c := A_c_
      have X_r := X_r_
      have F := F_
      clear F_ A_r_ A_c_ X_r_
      have X_c := Lib.hid hh
      clear ff hh
      go_wp2_with fail
      refine (isr_ok bc xc n (clo n r) w12 A_c.out X_c.out (HT.out.fr0 F.out)).mono ?_
      rintro e w13 ⟨rfl, ff⟩
      have A_r_ := Lib.hid (A_r.out.fr0 ff)
      have A_c_ := Lib.hid (A_c.out.fr0 ff)
      have X_r_ := Lib.hid (X_r.out.fr0 ff)
      have X_c_ := Lib.hid (X_c.out.fr0 ff)
      have F_ := Lib.hid (F.out.trans ff)
      clear F A_r A_c X_r X_c
      have A_r := A_r_
      have A_c := A_c_
      have X_r := X_r_
      have X_c := X_c_
      have F := F_
      clear F_ A_r_ A_c_ X_r_ X_c_
      clear ff
      clear A_c
      clear X_c
      go_wp2_with fail
      refine (((loop_ok br n r w13 A_r.out).mono (LO.out _))).mono ?_
      rintro e w14 ⟨rfl, ff⟩
      have A_r_ := Lib.hid (A_r.out.fr0 ff)
      have X_r_ := Lib.hid (X_r.out.fr0 ff)
      have F_ := Lib.hid (F.out.trans ff)
      clear F A_r X_r
      have A_r := A_r_
      have X_r := X_r_
      have F := F_
      clear F_ A_r_ X_r_
      clear ff
      have RL := Lib.hid ((rloop_of bx n r (clo n r) w14 X_r.out (Lib.hid (rclosed_ok bx n r w14 X_r.out OKr.out))).mono (LO.out _))
      go_wp2_with fail
      refine (RL.out).mono ?_
      rintro e w15 ⟨rfl, ff⟩
      have A_r_ := Lib.hid (A_r.out.fr0 ff)
      have X_r_ := Lib.hid (X_r.out.fr0 ff)
      have F_ := Lib.hid (F.out.trans ff)
      clear F A_r X_r
      have A_r := A_r_
      have X_r := X_r_
      have F := F_
      clear F_ A_r_ X_r_
      clear ff
      clear RL LO
      go_wp2_with fail
      refine (order_ok br n r w15 A_r.out (HT.out.fr0 F.out)).mono ?_
      intro e w16 ho
      obtain ⟨xs, of, hxl, hone⟩ := order_one n r HN.out ho.choose_spec.1
      obtain ⟨aa, acp, rfl, hv1, ff⟩ := hone _ _ _ ho
      have ON := Lib.hid hone
      have XL := Lib.hid hxl
      have V_o := Lib.hid hv1
      have A_r_ := Lib.hid (A_r.out.fr0 ff)
      have X_r_ := Lib.hid (X_r.out.fr0 ff)
      have F_ := Lib.hid (F.out.trans ff)
      clear F A_r X_r
      have A_r := A_r_
      have X_r := X_r_
      have F := F_
      clear F_ A_r_ X_r_
      clear ff hone hv1 ho hxl
      have RO := Lib.hid ((rorder_ok bx n r w16 X_r.out OKr.out).mono (ON.out _))
      go_wp2_with fail
      refine (RO.out).mono ?_
      rintro e w17 ⟨ab, bcp, rfl, hh, ff⟩
      have A_r_ := Lib.hid (A_r.out.fr0 ff)
      have X_r_ := Lib.hid (X_r.out.fr0 ff)
      have V_o_ := Lib.hid (V_o.out.fr ff fun _ _ => id)
      have F_ := Lib.hid (F.out.trans ff)
      clear F A_r X_r V_o
      have A_r := A_r_
      have X_r := X_r_
      have V_o := V_o_
      have F := F_
      clear F_ A_r_ X_r_ V_o_
      have V_q := Lib.hid hh
      clear ff hh
      clear RO ON
      clear X_r
      have xl : (xs.length : Int) ≤ 64 := by have := XL.out; omega
      go_wp2_with fail
      go_loopw [31] (fun i wr => ∃ k : Nat, k ≤ xs.length ∧ i = .int .i64 (k : Int) ∧ Fr Nil w17 wr) (fun i _ => xs.length - (intOf i).toNat)
      case atStart => exact ⟨0, Nat.zero_le _, rfl, Fr.refl _ _⟩
      case round =>
        obtain ⟨k, hk, rfl, hf⟩ := hrel
        have HF := Lib.hid hf
        by_cases hlt : k < xs.length
        · have HK := Lib.hid hlt
          have kn : (k : Int) < (xs.length : Int) := by omega
          have P1 := V_o.out.fr hf fun _ _ => id
          have P2 := V_q.out.fr hf fun _ _ => id
          obtain ⟨g1, o1, cap1, ev1, -, -, -, -, -⟩ := P1.form (by omega)
          obtain ⟨g2, o2, cap2, ev2, -, -, -, -, -⟩ := P2.form (by omega)
          cases ev1
          cases ev2
          obtain ⟨xk, pg⟩ := idl_at xs hlt
          have d0 := P1.cellAt pg
          have d1 := P2.cellAt pg
          clear P1 P2 pg hf
          clear hk hlt
          go_upto_region 31 with fail
          go_quiet (fail)
          go_wp2_with fail
          go_roundw
          case rel => exact ⟨k + 1, HK.out, by go_num, HF.out.drewN _⟩
          case measure => have := HK.out; simp [intOf]; omega
        · obtain rfl : k = xs.length := by omega
          have l1 : decide (xs.length < xs.length) = false := by simp
          clear hk hlt hf
          have HC := HS.out wr (A_r.out.fr0 HF.out)
          have F2 := Lib.hid (F.out.trans HF.out)
          go_wp2_with (go_at_call 9; refine HC.mono ?_; rintro e w99 ⟨rfl, rfl⟩)
          go_ret
          exact ⟨rfl, F2.out.below (Nat.le_refl _) fun _ _ x => x⟩
    · cases hib : inB n b
      · rw [hib] at IB
        have HS := Lib.hid (HAS.out false (by unfold has; rw [hia, hib]; rfl))
        clear hia hib IA HAS
        go_wp2_with fail
        refine IB.out.mono ?_
        rintro e w9 ⟨rfl, rfl⟩
        clear IB
        go_wp2_with fail
        refine (isr_ok br bx n r w6 A_r.out X_r.out (HT.out.fr0 F.out)).mono ?_
        rintro e w7 ⟨rfl, ff⟩
        have A_r_ := Lib.hid (A_r.out.fr0 ff)
        have X_r_ := Lib.hid (X_r.out.fr0 ff)
        have F_ := Lib.hid (F.out.trans ff)
        clear F A_r X_r
        have A_r := A_r_
        have X_r := X_r_
        have F := F_
        clear F_ A_r_ X_r_
        clear ff
        go_wp2_with fail
        refine (turned_ok br n r w7 A_r.out (HT.out.fr0 F.out)).mono ?_
        rintro e w8 ⟨bt, rfl, hh, ff, -⟩
        have A_r_ := Lib.hid (A_r.out.fr0 ff)
        have X_r_ := Lib.hid (X_r.out.fr0 ff)
        have F_ := Lib.hid (F.out.trans ff)
        clear F A_r X_r
        have A_r := A_r_
        have X_r := X_r_
        have F := F_
        clear F_ A_r_ X_r_
        have A_t := Lib.hid hh
        clear ff hh
        go_wp2_with fail
        refine (rturned_ok bx n r w8 X_r.out OKr.out).mono ?_
        rintro e w9 ⟨xt, rfl, hh, ff, -⟩
        have A_r_ := Lib.hid (A_r.out.fr0 ff)
        have A_t_ := Lib.hid (A_t.out.fr0 ff)
        have X_r_ := Lib.hid (X_r.out.fr0 ff)
        have F_ := Lib.hid (F.out.trans ff)
        clear F A_r A_t X_r
        have A_r := A_r_
        have A_t := A_t_
        have X_r := X_r_
        have F := F_
        clear F_ A_r_ A_t_ X_r_
        have X_t := Lib.hid hh
        clear ff hh
        go_wp2_with fail
        refine (isr_ok bt xt n (trn r) w9 A_t.out X_t.out (HT.out.fr0 F.out)).mono ?_
        rintro e w10 ⟨rfl, ff⟩
        have A_r_ := Lib.hid (A_r.out.fr0 ff)
        have A_t_ := Lib.hid (A_t.out.fr0 ff)
        have X_r_ := Lib.hid (X_r.out.fr0 ff)
        have X_t_ := Lib.hid (X_t.out.fr0 ff)
        have F_ := Lib.hid (F.out.trans ff)
        clear F A_r A_t X_r X_t
        have A_r := A_r_
        have A_t := A_t_
        have X_r := X_r_
        have X_t := X_t_
        have F := F_
        clear F_ A_r_ A_t_ X_r_ X_t_
        clear ff
        clear A_t
        clear X_t
        go_wp2_with fail
        refine (closed_ok br n r w10 A_r.out).mono ?_
        rintro e w11 ⟨bc, rfl, hh, ff, -⟩
        have A_r_ := Lib.hid (A_r.out.fr0 ff)
        have X_r_ := Lib.hid (X_r.out.fr0 ff)
        have F_ := Lib.hid (F.out.trans ff)
        clear F A_r X_r
        have A_r := A_r_
        have X_r := X_r_
        have F := F_
        clear F_ A_r_ X_r_
        have A_c := Lib.hid hh
        clear ff hh
        go_wp2_with fail
        refine (rclosed_ok bx n r w11 X_r.out OKr.out).mono ?_
        rintro e w12 ⟨xc, rfl, hh, ff, -⟩
        have A_r_ := Lib.hid (A_r.out.fr0 ff)
        have A_c_ := Lib.hid (A_c.out.fr0 ff)
        have X_r_ := Lib.hid (X_r.out.fr0 ff)
        have F_ := Lib.hid (F.out.trans ff)
        clear F A_r A_c X_r
        have A_r := A_r_
        have A_c := A_c_
        have X_r := X_r_
        have F := F_
        clear F_ A_r_ A_c_ X_r_
        have X_c := Lib.hid hh
        clear ff hh
        go_wp2_with fail
        refine (isr_ok bc xc n (clo n r) w12 A_c.out X_c.out (HT.out.fr0 F.out)).mono ?_
        rintro e w13 ⟨rfl, ff⟩
        have A_r_ := Lib.hid (A_r.out.fr0 ff)
        have A_c_ := Lib.hid (A_c.out.fr0 ff)
        have X_r_ := Lib.hid (X_r.out.fr0 ff)
        have X_c_ := Lib.hid (X_c.out.fr0 ff)
        have F_ := Lib.hid (F.out.trans ff)
        clear F A_r A_c X_r X_c
        have A_r := A_r_
        have A_c := A_c_
        have X_r := X_r_
        have X_c := X_c_
        have F := F_
        clear F_ A_r_ A_c_ X_r_ X_c_
        clear ff
        clear A_c
        clear X_c
        go_wp2_with fail
        refine (((loop_ok br n r w13 A_r.out).mono (LO.out _))).mono ?_
        rintro e w14 ⟨rfl, ff⟩
        have A_r_ := Lib.hid (A_r.out.fr0 ff)
        have X_r_ := Lib.hid (X_r.out.fr0 ff)
        have F_ := Lib.hid (F.out.trans ff)
        clear F A_r X_r
        have A_r := A_r_
        have X_r := X_r_
        have F := F_
        clear F_ A_r_ X_r_
        clear ff
        have RL := Lib.hid ((rloop_of bx n r (clo n r) w14 X_r.out (Lib.hid (rclosed_ok bx n r w14 X_r.out OKr.out))).mono (LO.out _))
        go_wp2_with fail
        refine (RL.out).mono ?_
        rintro e w15 ⟨rfl, ff⟩
        have A_r_ := Lib.hid (A_r.out.fr0 ff)
        have X_r_ := Lib.hid (X_r.out.fr0 ff)
        have F_ := Lib.hid (F.out.trans ff)
        clear F A_r X_r
        have A_r := A_r_
        have X_r := X_r_
        have F := F_
        clear F_ A_r_ X_r_
        clear ff
        clear RL LO
        go_wp2_with fail
        refine (order_ok br n r w15 A_r.out (HT.out.fr0 F.out)).mono ?_
        intro e w16 ho
        obtain ⟨xs, of, hxl, hone⟩ := order_one n r HN.out ho.choose_spec.1
        obtain ⟨aa, acp, rfl, hv1, ff⟩ := hone _ _ _ ho
        have ON := Lib.hid hone
        have XL := Lib.hid hxl
        have V_o := Lib.hid hv1
        have A_r_ := Lib.hid (A_r.out.fr0 ff)
        have X_r_ := Lib.hid (X_r.out.fr0 ff)
        have F_ := Lib.hid (F.out.trans ff)
        clear F A_r X_r
        have A_r := A_r_
        have X_r := X_r_
        have F := F_
        clear F_ A_r_ X_r_
        clear ff hone hv1 ho hxl
        have RO := Lib.hid ((rorder_ok bx n r w16 X_r.out OKr.out).mono (ON.out _))
        go_wp2_with fail
        refine (RO.out).mono ?_
        rintro e w17 ⟨ab, bcp, rfl, hh, ff⟩
        have A_r_ := Lib.hid (A_r.out.fr0 ff)
        have X_r_ := Lib.hid (X_r.out.fr0 ff)
        have V_o_ := Lib.hid (V_o.out.fr ff fun _ _ => id)
        have F_ := Lib.hid (F.out.trans ff)
        clear F A_r X_r V_o
        have A_r := A_r_
        have X_r := X_r_
        have V_o := V_o_
        have F := F_
        clear F_ A_r_ X_r_ V_o_
        have V_q := Lib.hid hh
        clear ff hh
        clear RO ON
        clear X_r
        have xl : (xs.length : Int) ≤ 64 := by have := XL.out; omega
        go_wp2_with fail
        go_loopw [31] (fun i wr => ∃ k : Nat, k ≤ xs.length ∧ i = .int .i64 (k : Int) ∧ Fr Nil w17 wr) (fun i _ => xs.length - (intOf i).toNat)
        case atStart => exact ⟨0, Nat.zero_le _, rfl, Fr.refl _ _⟩
        case round =>
          obtain ⟨k, hk, rfl, hf⟩ := hrel
          have HF := Lib.hid hf
          by_cases hlt : k < xs.length
          · have HK := Lib.hid hlt
            have kn : (k : Int) < (xs.length : Int) := by omega
            have P1 := V_o.out.fr hf fun _ _ => id
            have P2 := V_q.out.fr hf fun _ _ => id
            obtain ⟨g1, o1, cap1, ev1, -, -, -, -, -⟩ := P1.form (by omega)
            obtain ⟨g2, o2, cap2, ev2, -, -, -, -, -⟩ := P2.form (by omega)
            cases ev1
            cases ev2
            obtain ⟨xk, pg⟩ := idl_at xs hlt
            have d0 := P1.cellAt pg
            have d1 := P2.cellAt pg
            clear P1 P2 pg hf
            clear hk hlt
            go_upto_region 31 with fail
            go_quiet (fail)
            go_wp2_with fail
            go_roundw
            case rel => exact ⟨k + 1, HK.out, by go_num, HF.out.drewN _⟩
            case measure => have := HK.out; simp [intOf]; omega
          · obtain rfl : k = xs.length := by omega
            have l1 : decide (xs.length < xs.length) = false := by simp
            clear hk hlt hf
            have HC := HS.out wr (A_r.out.fr0 HF.out)
            have F2 := Lib.hid (F.out.trans HF.out)
            go_wp2_with (go_at_call 9; refine HC.mono ?_; rintro e w99 ⟨rfl, rfl⟩)
            go_ret
            exact ⟨rfl, F2.out.below (Nat.le_refl _) fun _ _ x => x⟩
      · rw [hib] at IB
        obtain ⟨i, rfl, hi⟩ := inB_nat hia
        obtain ⟨j, rfl, hj⟩ := inB_nat hib
        have HS := Lib.hid (HAS.out (r i j) (has_nat OKr.out i j))
        have i64 : (i : Int) < 64 := by have := HN.out; omega
        have j64 : (j : Int) < 64 := by have := HN.out; omega
        have ch := X_r.out.c_c (a := i) (c := j) (by have := HN.out; omega) (by have := HN.out; omega)
        clear hia hib IA HAS hi hj
        generalize r i j = hv at *
        go_wp2_with fail
        refine IB.out.mono ?_
        rintro e w9 ⟨rfl, rfl⟩
        clear IB
        go_wp2_with fail
        clear ch
        refine (isr_ok br bx n r w6 A_r.out X_r.out (HT.out.fr0 F.out)).mono ?_
        rintro e w7 ⟨rfl, ff⟩
        have A_r_ := Lib.hid (A_r.out.fr0 ff)
        have X_r_ := Lib.hid (X_r.out.fr0 ff)
        have F_ := Lib.hid (F.out.trans ff)
        clear F A_r X_r
        have A_r := A_r_
        have X_r := X_r_
        have F := F_
        clear F_ A_r_ X_r_
        clear ff
        go_wp2_with fail
        refine (turned_ok br n r w7 A_r.out (HT.out.fr0 F.out)).mono ?_
        rintro e w8 ⟨bt, rfl, hh, ff, -⟩
        have A_r_ := Lib.hid (A_r.out.fr0 ff)
        have X_r_ := Lib.hid (X_r.out.fr0 ff)
        have F_ := Lib.hid (F.out.trans ff)
        clear F A_r X_r
        have A_r := A_r_
        have X_r := X_r_
        have F := F_
        clear F_ A_r_ X_r_
        have A_t := Lib.hid hh
        clear ff hh
        go_wp2_with fail
        refine (rturned_ok bx n r w8 X_r.out OKr.out).mono ?_
        rintro e w9 ⟨xt, rfl, hh, ff, -⟩
        have A_r_ := Lib.hid (A_r.out.fr0 ff)
        have A_t_ := Lib.hid (A_t.out.fr0 ff)
        have X_r_ := Lib.hid (X_r.out.fr0 ff)
        have F_ := Lib.hid (F.out.trans ff)
        clear F A_r A_t X_r
        have A_r := A_r_
        have A_t := A_t_
        have X_r := X_r_
        have F := F_
        clear F_ A_r_ A_t_ X_r_
        have X_t := Lib.hid hh
        clear ff hh
        go_wp2_with fail
        refine (isr_ok bt xt n (trn r) w9 A_t.out X_t.out (HT.out.fr0 F.out)).mono ?_
        rintro e w10 ⟨rfl, ff⟩
        have A_r_ := Lib.hid (A_r.out.fr0 ff)
        have A_t_ := Lib.hid (A_t.out.fr0 ff)
        have X_r_ := Lib.hid (X_r.out.fr0 ff)
        have X_t_ := Lib.hid (X_t.out.fr0 ff)
        have F_ := Lib.hid (F.out.trans ff)
        clear F A_r A_t X_r X_t
        have A_r := A_r_
        have A_t := A_t_
        have X_r := X_r_
        have X_t := X_t_
        have F := F_
        clear F_ A_r_ A_t_ X_r_ X_t_
        clear ff
        clear A_t
        clear X_t
        go_wp2_with fail
        refine (closed_ok br n r w10 A_r.out).mono ?_
        rintro e w11 ⟨bc, rfl, hh, ff, -⟩
        have A_r_ := Lib.hid (A_r.out.fr0 ff)
        have X_r_ := Lib.hid (X_r.out.fr0 ff)
        have F_ := Lib.hid (F.out.trans ff)
        clear F A_r X_r
        have A_r := A_r_
        have X_r := X_r_
        have F := F_
        clear F_ A_r_ X_r_
        have A_c := Lib.hid hh
        clear ff hh
        go_wp2_with fail
        refine (rclosed_ok bx n r w11 X_r.out OKr.out).mono ?_
        rintro e w12 ⟨xc, rfl, hh, ff, -⟩
        have A_r_ := Lib.hid (A_r.out.fr0 ff)
        have A_c_ := Lib.hid (A_c.out.fr0 ff)
        have X_r_ := Lib.hid (X_r.out.fr0 ff)
        have F_ := Lib.hid (F.out.trans ff)
        clear F A_r A_c X_r
        have A_r := A_r_
        have A_c := A_c_
        have X_r := X_r_
        have F := F_
        clear F_ A_r_ A_c_ X_r_
        have X_c := Lib.hid hh
        clear ff hh
        go_wp2_with fail
        refine (isr_ok bc xc n (clo n r) w12 A_c.out X_c.out (HT.out.fr0 F.out)).mono ?_
        rintro e w13 ⟨rfl, ff⟩
        have A_r_ := Lib.hid (A_r.out.fr0 ff)
        have A_c_ := Lib.hid (A_c.out.fr0 ff)
        have X_r_ := Lib.hid (X_r.out.fr0 ff)
        have X_c_ := Lib.hid (X_c.out.fr0 ff)
        have F_ := Lib.hid (F.out.trans ff)
        clear F A_r A_c X_r X_c
        have A_r := A_r_
        have A_c := A_c_
        have X_r := X_r_
        have X_c := X_c_
        have F := F_
        clear F_ A_r_ A_c_ X_r_ X_c_
        clear ff
        clear A_c
        clear X_c
        go_wp2_with fail
        refine (((loop_ok br n r w13 A_r.out).mono (LO.out _))).mono ?_
        rintro e w14 ⟨rfl, ff⟩
        have A_r_ := Lib.hid (A_r.out.fr0 ff)
        have X_r_ := Lib.hid (X_r.out.fr0 ff)
        have F_ := Lib.hid (F.out.trans ff)
        clear F A_r X_r
        have A_r := A_r_
        have X_r := X_r_
        have F := F_
        clear F_ A_r_ X_r_
        clear ff
        have RL := Lib.hid ((rloop_of bx n r (clo n r) w14 X_r.out (Lib.hid (rclosed_ok bx n r w14 X_r.out OKr.out))).mono (LO.out _))
        go_wp2_with fail
        refine (RL.out).mono ?_
        rintro e w15 ⟨rfl, ff⟩
        have A_r_ := Lib.hid (A_r.out.fr0 ff)
        have X_r_ := Lib.hid (X_r.out.fr0 ff)
        have F_ := Lib.hid (F.out.trans ff)
        clear F A_r X_r
        have A_r := A_r_
        have X_r := X_r_
        have F := F_
        clear F_ A_r_ X_r_
        clear ff
        clear RL LO
        go_wp2_with fail
        refine (order_ok br n r w15 A_r.out (HT.out.fr0 F.out)).mono ?_
        intro e w16 ho
        obtain ⟨xs, of, hxl, hone⟩ := order_one n r HN.out ho.choose_spec.1
        obtain ⟨aa, acp, rfl, hv1, ff⟩ := hone _ _ _ ho
        have ON := Lib.hid hone
        have XL := Lib.hid hxl
        have V_o := Lib.hid hv1
        have A_r_ := Lib.hid (A_r.out.fr0 ff)
        have X_r_ := Lib.hid (X_r.out.fr0 ff)
        have F_ := Lib.hid (F.out.trans ff)
        clear F A_r X_r
        have A_r := A_r_
        have X_r := X_r_
        have F := F_
        clear F_ A_r_ X_r_
        clear ff hone hv1 ho hxl
        have RO := Lib.hid ((rorder_ok bx n r w16 X_r.out OKr.out).mono (ON.out _))
        go_wp2_with fail
        refine (RO.out).mono ?_
        rintro e w17 ⟨ab, bcp, rfl, hh, ff⟩
        have A_r_ := Lib.hid (A_r.out.fr0 ff)
        have X_r_ := Lib.hid (X_r.out.fr0 ff)
        have V_o_ := Lib.hid (V_o.out.fr ff fun _ _ => id)
        have F_ := Lib.hid (F.out.trans ff)
        clear F A_r X_r V_o
        have A_r := A_r_
        have X_r := X_r_
        have V_o := V_o_
        have F := F_
        clear F_ A_r_ X_r_ V_o_
        have V_q := Lib.hid hh
        clear ff hh
        clear RO ON
        clear X_r
        have xl : (xs.length : Int) ≤ 64 := by have := XL.out; omega
        go_wp2_with fail
        go_loopw [31] (fun i wr => ∃ k : Nat, k ≤ xs.length ∧ i = .int .i64 (k : Int) ∧ Fr Nil w17 wr) (fun i _ => xs.length - (intOf i).toNat)
        case atStart => exact ⟨0, Nat.zero_le _, rfl, Fr.refl _ _⟩
        case round =>
          obtain ⟨k, hk, rfl, hf⟩ := hrel
          have HF := Lib.hid hf
          by_cases hlt : k < xs.length
          · have HK := Lib.hid hlt
            have kn : (k : Int) < (xs.length : Int) := by omega
            have P1 := V_o.out.fr hf fun _ _ => id
            have P2 := V_q.out.fr hf fun _ _ => id
            obtain ⟨g1, o1, cap1, ev1, -, -, -, -, -⟩ := P1.form (by omega)
            obtain ⟨g2, o2, cap2, ev2, -, -, -, -, -⟩ := P2.form (by omega)
            cases ev1
            cases ev2
            obtain ⟨xk, pg⟩ := idl_at xs hlt
            have d0 := P1.cellAt pg
            have d1 := P2.cellAt pg
            clear P1 P2 pg hf
            clear hk hlt
            go_upto_region 31 with fail
            go_quiet (fail)
            go_wp2_with fail
            go_roundw
            case rel => exact ⟨k + 1, HK.out, by go_num, HF.out.drewN _⟩
            case measure => have := HK.out; simp [intOf]; omega
          · obtain rfl : k = xs.length := by omega
            have l1 : decide (xs.length < xs.length) = false := by simp
            clear hk hlt hf
            have HC := HS.out wr (A_r.out.fr0 HF.out)
            have F2 := Lib.hid (F.out.trans HF.out)
            go_wp2_with (go_at_call 9; refine HC.mono ?_; rintro e w99 ⟨rfl, rfl⟩)
            go_ret
            exact ⟨rfl, F2.out.below (Nat.le_refl _) fun _ _ x => x⟩
end Go.Proofs.YtpcpjmbfinpmlaaDoor
