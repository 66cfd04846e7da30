/- MemOwn, walked. -/
import Derived.Test.YtjbdbmahbcaniaaPlay
namespace Go.Proofs.Ytjbdbmahbcaniaa
open Go.RowKit
set_option linter.unusedVariables false
set_option maxRecDepth 100000

def MadeTo (w : World) (d : Nat) (e : Ending) (w' : World) : Prop := ∃ b q, e = .returned (.pointer (some ⟨b, 0, none⟩)) ∧ Mine w b q (St0 4 3 d) w'
theorem made_ok (d : Nat) {z : Int} (w : World) (hz : z = (d : Int)) (d1 : 1 ≤ d) (d2 : d ≤ 32) : Calls Try.prog 27 #[.int .i64 z] w (MadeTo w d) := by
  subst hz
  have H := Lib.hid (mine_new 4 3 d (x := 4) (y := 3) w rfl rfl rfl (by decide) (by decide) (by decide) (by decide) d1 d2)
  clear d1 d2
  go_enter Try.func27, Try.ntmps27
  go_wp2_with fail
  refine H.out.mono ?_
  rintro e w1 ⟨b, q, rfl, m⟩
  go_wp2_with fail
  go_ret
  exact ⟨b, q, rfl, m⟩
theorem hold_load_other (s : St) (i j k : Nat) (x : L) (h : j ≠ i) : (s.hold i x).load j k = s.load j k := by
  simp only [St.load, St.hold, upd_other _ _ h]
theorem hold_load_own (s : St) (i k : Nat) (x : L) (h0 : s.H i = []) (hx : x.a = 8 * (k : Int)) : (s.hold i x).load i k = (x.v, x.t) := by
  have e : (s.hold i x).H i = [x] := by simp [St.hold, upd_same, h0]
  unfold St.load
  rw [e]
  simp [findL, hx]
theorem hold_drain (s : St) (i k : Nat) (x : L) (h0 : s.H i = []) (hx : x.a = 8 * (k : Int)) (ht : x.t = s.st.length) :
    ((s.hold i x).drain1 i).V k = x.v ∧ ((s.hold i x).drain1 i).T k = x.t ∧ ((s.hold i x).drain1 i).st[x.t]? = some (s.od.length + 1) ∧ ((s.hold i x).drain1 i).od.length = s.od.length + 1 := by
  have e : (s.hold i x).H i = x :: [] := by simp [St.hold, upd_same, h0]
  have ek : x.k = k := by unfold L.k; omega
  rw [drain1_cons e, ek]
  refine ⟨upd_same _ _ _, upd_same _ _ _, ?_, by simp [St.reach, St.pop, St.hold]⟩
  show ((s.st ++ [0]).set x.t (s.od.length + 1))[x.t]? = _
  exact set_this (by simp [ht])
set_option maxHeartbeats 2000000 in
theorem memOwn_walk (a0 : Option Addr) (len cap : Nat) (Z : Nat → Int) (core word value : Int) (w : World) (hl : len ≤ cap) (hcap : cap ≤ maxLen) (hs : SlInts .i64 w a0 len Z) (w1 : (Lit.int .i64 core).wf = true) (w2 : (Lit.int .i64 word).wf = true) (w3 : (Lit.int .u64 value).wf = true) :
    Calls Try.prog 8 #[.slice a0 len cap, .int .i64 core, .int .i64 word, .int .u64 value] w fun e w' => e = .returned (.bool true) ∧ Below w.heap.size w w' := by
  obtain ⟨p1, p2⟩ := i64_rng w1
  obtain ⟨p3, p4⟩ := i64_rng w2
  obtain ⟨C, hC, hC3⟩ := pk_nat core 3 (by omega)
  obtain ⟨K, hK, hK4⟩ := pk_nat word 4 (by omega)
  have hp1 := fun w => pick_ok core 3 w p1 p2 (by omega) (by omega)
  have hp2 := fun w => pick_ok word 4 w p3 p4 (by omega) (by omega)
  rw [show pk core 3 = (C : Int) from hC] at hp1
  rw [show pk word 4 = (K : Int) from hK] at hp2
  have P1 := Lib.hid hp1
  have P2 := Lib.hid hp2
  have HS := Lib.hid hs
  have HL := Lib.hid hl
  have HCAP := Lib.hid hcap
  have HC := Lib.hid hC3
  have HK := Lib.hid hK4
  have c0 : (0 : Int) ≤ (C : Int) := by omega
  have c3 : (C : Int) < 3 := by omega
  have k0 : (0 : Int) ≤ (K : Int) := by omega
  have k4 : (K : Int) < 4 := by omega
  have hO : (C + 1) % 3 < 3 ∧ (C + 1) % 3 ≠ C := by omega
  have HO := Lib.hid hO
  clear p1 p2 p3 p4 hC hK hp1 hp2 hs hl hcap w1 w2 w3 hC3 hK4 hO
  go_enter Try.func8, Try.ntmps8
  go_wp2_with fail
  refine (known_ok w).mono ?_
  rintro e wa ⟨rfl, f0⟩
  have F0 := Lib.hid f0
  clear f0
  go_wp2_with fail
  refine (made_ok 4 wa rfl (by decide) (by decide)).mono ?_
  rintro e wb ⟨b, q0, rfl, m0⟩
  have hs1 : SlInts .i64 wa a0 len Z := by
    intro i hi
    obtain ⟨bs, off, h1, h2, h3, h4⟩ := HS.out i hi
    exact ⟨bs, off, h1, Nat.lt_of_lt_of_le h2 F0.out.size, (F0.out.cell (p := ⟨bs, off + i, none⟩) h2 id).trans h3, h4⟩
  have C1 := Lib.hid (play_ok m0 (Good.start 4 3 4) (by decide) (by decide) (by decide) a0 len cap Z HL.out HCAP.out hs1)
  clear m0 hs1
  go_wp2_with fail
  refine C1.out.mono ?_
  rintro e wc ⟨rfl, q, s, m1, gd⟩
  have GD := Lib.hid gd
  have hh := gd.held HC.out
  have C1 := Lib.hid (m1.flush C rfl (by rw [gd.c]; exact HC.out) (by rw [gd.n]; decide) (gd.fine HC.out) (by have := gd.st; omega) (by have := gd.od; omega) (by omega))
  clear gd m1 hh
  go_wp2_with fail
  refine (P1.out _).mono ?_
  rintro e w2 ⟨rfl, rfl⟩
  go_wp2_with fail
  refine (P2.out _).mono ?_
  rintro e w2 ⟨rfl, rfl⟩
  go_wp2_with fail
  refine C1.out.mono ?_
  rintro e wd ⟨v1, q1, rfl, m2, _⟩
  have g1 := GD.out.drains HC.out (s.H C).length
  have hH := (drains_same s C (s.H C).length).2.2.2.2.1
  rw [List.drop_length] at hH
  generalize s.drains C (s.H C).length = s1 at *
  have G1 := Lib.hid g1
  have HH := Lib.hid hH
  have C2 := Lib.hid (m2.peek K (a := 8 * (K : Int)) rfl (by rw [g1.n]; exact HK.out) (by rw [g1.n]; decide))
  clear g1 hH m2 C1
  go_wp2_with fail
  refine C2.out.mono ?_
  rintro e we ⟨rfl, m3, _⟩
  obtain ⟨y, u, hyu⟩ : ∃ y u, s1.load ((C + 1) % 3) K = (y, u) := ⟨_, _, rfl⟩
  have HYU := Lib.hid hyu
  have hho := G1.out.held HO.out.1
  have C3 := Lib.hid (m3.load ((C + 1) % 3) K (c := ((C : Int) + 1) % 3) (a := 8 * (K : Int)) (by omega) rfl (by rw [G1.out.c]; exact HO.out.1) (by rw [G1.out.n]; exact HK.out) (by rw [G1.out.n]; decide) (by omega) hyu)
  clear hyu m3 C2
  go_wp2_with fail
  refine C3.out.mono ?_
  rintro e wf ⟨rfl, m4, _⟩
  have C4 := Lib.hid (m4.store C K (c := (C : Int)) (a := 8 * (K : Int)) (v := value) rfl rfl (by rw [G1.out.c]; exact HC.out) (by rw [G1.out.n]; exact HK.out) (by rw [G1.out.n]; decide) (by rw [HH.out, G1.out.d]; decide) (by rw [G1.out.d]; decide) (by have := G1.out.st; omega) (t := s1.st.length) rfl)
  clear m4 C3
  generalize ht : s1.st.length = t at *
  have HT := Lib.hid ht
  clear ht
  go_wp2_with fail
  refine C4.out.mono ?_
  rintro e wg ⟨rfl, q2, m5, _⟩
  have g2 := G1.out.hold (x := ⟨8 * (K : Int), value, t⟩) HC.out HK.out rfl HT.out.symm (by rw [HH.out]; decide)
  have G2 := Lib.hid g2
  have C5 := Lib.hid (m5.load C K (c := (C : Int)) (a := 8 * (K : Int)) rfl rfl (by rw [g2.c]; exact HC.out) (by rw [g2.n]; exact HK.out) (by rw [g2.n]; decide) (by have := g2.held HC.out; omega) (hold_load_own s1 C K _ HH.out rfl))
  clear g2 m5 C4
  go_wp2_with fail
  refine C5.out.mono ?_
  rintro e wh ⟨rfl, m6, _⟩
  have C6 := Lib.hid (m6.peek K (a := 8 * (K : Int)) rfl (by rw [G2.out.n]; exact HK.out) (by rw [G2.out.n]; decide))
  clear m6 C5
  go_wp2_with fail
  refine C6.out.mono ?_
  rintro e wi ⟨rfl, m7, _⟩
  have C7 := Lib.hid (m7.load ((C + 1) % 3) K (c := ((C : Int) + 1) % 3) (a := 8 * (K : Int)) (by omega) rfl (by rw [G2.out.c]; exact HO.out.1) (by rw [G2.out.n]; exact HK.out) (by rw [G2.out.n]; decide) (by have := G2.out.held HO.out.1; omega) ((hold_load_other s1 C _ K _ HO.out.2).trans HYU.out))
  clear m7 C6
  go_wp2_with fail
  refine C7.out.mono ?_
  rintro e wj ⟨rfl, m8, _⟩
  have C8 := Lib.hid (m8.drain C (c := (C : Int)) rfl (x := ⟨8 * (K : Int), value, t⟩) (l := []) (by rw [G2.out.c]; exact HC.out) (by simp [St.hold, upd_same, HH.out]) (by rw [G2.out.n]; decide) (G2.out.fine HC.out) (by have := G2.out.st; omega) (by have := G2.out.od; omega))
  clear m8 C7
  go_wp2_with fail
  refine C8.out.mono ?_
  rintro e wk ⟨rfl, q3, m9, _⟩
  obtain ⟨d1, d2, d3, d4⟩ := hold_drain s1 C K ⟨8 * (K : Int), value, t⟩ HH.out rfl HT.out.symm
  have g3 := G2.out.drain1 HC.out
  have G3 := Lib.hid g3
  have D1 := Lib.hid d1
  have D2 := Lib.hid d2
  have D3 := Lib.hid d3
  have D4 := Lib.hid d4
  generalize (s1.hold C ⟨8 * (K : Int), value, t⟩).drain1 C = s3 at *
  have hb := m9.loc 47 #[.int .u64 (8 * (K : Int)), .int .u64 value, .int .i64 (t : Int)]
  have LB := Lib.hid hb.2
  have M9 := Lib.hid hb.1
  clear hb m9 C8 d1 d2 d3 d4 g3
  go_upto_region 19 with fail
  generalize wk.heap.size = B at *
  generalize (wk.alloc (.cells #[.int .u64 (8 * (K : Int)), .int .u64 value, .int .i64 (t : Int)] 47)) = wl at *
  have C9 := Lib.hid (M9.out.peek K (a := 8 * (K : Int)) rfl (by rw [G3.out.n]; exact HK.out) (by rw [G3.out.n]; decide))
  rw [D1.out, D2.out] at C9
  clear M9
  go_wp2_with fail
  refine C9.out.mono ?_
  rintro e wm ⟨rfl, m10, f10⟩
  have lb := (LB.out.still f10).blk
  have e2 : wm.cell? ⟨B, 2, none⟩ = some (.int .i64 (t : Int)) := lb.cellv rfl
  have C10 := Lib.hid (m10.stamp t (s1.od.length + 1) (c := (t : Int)) rfl (by have := G3.out.st; omega) (by have := HT.out; have := G1.out.ok; obtain ⟨g, F, h1, _⟩ := this; have := h1.len; omega) D3.out)
  clear m10 C9 lb
  go_wp2_with fail
  refine C10.out.mono ?_
  rintro e wn ⟨rfl, m11, _⟩
  have C11 := Lib.hid (m11.order (by have := G3.out.od; omega))
  clear m11 C10
  go_wp2_with fail
  refine C11.out.mono ?_
  rintro e wo ⟨v, rfl, m12, _, wv, _⟩
  obtain ⟨ao, cp, hv, _, _, _⟩ := wv.shape
  rw [hv, D4.out]
  have MF := Lib.hid m12.fr
  clear m12 wv hv C11
  go_wp2_with fail
  go_ret
  exact ⟨by simp, (F0.out.trans MF.out).bel⟩
end Go.Proofs.Ytjbdbmahbcaniaa
