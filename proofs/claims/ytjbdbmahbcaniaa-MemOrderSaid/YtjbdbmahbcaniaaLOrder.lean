/- MemOrder, walked. -/
import Derived.Test.YtjbdbmahbcaniaaLPut
namespace Go.Proofs.Ytjbdbmahbcaniaa
open Go.RowKit
set_option linter.unusedVariables false
set_option maxRecDepth 100000

def bsn (S : Nat → Bool) (n : Nat) : Array Value := ((List.range n).map fun i => Value.bool (S i)).toArray
theorem bsn_get {S : Nat → Bool} {n k : Nat} (h : k < n) : (bsn S n)[k]? = some (.bool (S k)) := by
  simp [bsn, List.getElem?_map, List.getElem?_range h]
theorem bsn_set (S : Nat → Bool) (n k : Nat) (x : Bool) : (bsn S n).setIfInBounds k (.bool x) = bsn (upd S k x) n := by
  have h := map_range_set (fun i => Value.bool (S i)) n k (.bool x)
  unfold bsn
  rw [h]
  congr 2
  funext i
  by_cases hi : i = k
  · subst hi; simp [upd]
  · simp [upd, hi]
theorem Try.info4a : (Try.prog.info? 4).map (fun i => (i.zero, i.size, i.bytes)) = some (some (.bool false), 1, 1) := by kernel_rfl
theorem make61 (n : Nat) (hn : n ≤ 100000) (w : World) : (Instr.makeSlice 61 (.int .i64 (n : Int)) (.int .i64 (n : Int))).run Try.prog w = .ok (.slice (some ⟨w.heap.size, 0, none⟩) n n) (w.alloc (.cells (bsn (fun _ => false) n) 4)) := by
  obtain ⟨i, hi, hz0, hz1, hz2⟩ := info_parts Try.info4a
  have := run_make (P := Try.prog) w 61 4 i _ Try.underlying61 hi hz0 .i64 .i64 n n (by omega) (by omega) (by rw [hz2]; omega) (by omega)
  rw [hz1, Int.toNat_natCast, show (Value.bool false).cells = #[.bool false] from rfl] at this
  have e : madeCells #[Value.bool false] (n * 1) = bsn (fun _ => false) n := by
    apply Array.toList_inj.1
    rw [toList_madeCells_one, Nat.mul_one]
    unfold bsn
    rw [List.map_const']
    simp
  rw [e] at this
  exact this
theorem Good.upw {s : St} {n c d m i : Nat} (h : Good s n c d m) (hi : i < c) : (s.H i).Pairwise (fun x y => x.t < y.t) := by
  obtain ⟨g, F, h1, _, _⟩ := h.ok
  exact h1.up i (by rw [h.c]; exact hi)
theorem Good.pos {s : St} {n c d m i : Nat} (h : Good s n c d m) (hi : i < c) {x : L} (hx : x ∈ s.H i) : 1 ≤ x.t := by
  obtain ⟨g, F, h1, _, _⟩ := h.ok
  exact (h1.hold i (by rw [h.c]; exact hi) x hx).1
/-- The ticket of the last of so many. -/
def lastT (l : List L) : Nat → Nat
  | 0 => 0
  | j + 1 => (l[j]?.map L.t).getD 0
theorem Good.empty {s : St} {n d m : Nat} (h : Good s n 3 d m) (h0 : s.H 0 = []) (h1 : s.H 1 = []) (h2 : s.H 2 = []) : s.od.length + 1 = s.st.length := by
  obtain ⟨g, F, ok, cn, _⟩ := h.ok
  have a := cn.all
  rw [h.c] at a
  simp [tot, h0, h1, h2] at a
  have := ok.len
  omega
theorem Good.inj {s : St} {n c d m : Nat} (h : Good s n c d m) {i j t : Nat} (h1 : s.od[i]? = some t) (h2 : s.od[j]? = some t) : i = j := by
  have a := (h.ord h1).2
  have b := (h.ord h2).2
  rw [a] at b
  injection b with b
  omega
theorem load_empty (s : St) (i k : Nat) (h : s.H i = []) : s.load i k = (s.V k, s.T k) := by unfold St.load; rw [h]; rfl
theorem lastT_lt {s : St} {n c d m i : Nat} (h : Good s n c d m) (hi : i < c) {j : Nat} {x : L} (hx : (s.H i)[j]? = some x) : lastT (s.H i) j < x.t := by
  have hm := List.mem_of_getElem? hx
  cases j with
  | zero => exact h.pos hi hm
  | succ j =>
    have hlt := (List.getElem?_eq_some_iff.1 hx).1
    have hj : j < (s.H i).length := by omega
    have hp := h.upw hi
    rw [List.pairwise_iff_getElem] at hp
    have := hp j (j + 1) hj hlt (by omega)
    rw [(List.getElem?_eq_some_iff.1 hx).2] at this
    simp only [lastT, List.getElem?_eq_getElem hj, Option.map_some, Option.getD_some]
    exact this
theorem lastT_next {l : List L} {j : Nat} {x : L} (hx : l[j]? = some x) : lastT l (j + 1) = x.t := by simp [lastT, hx]
theorem Mine.ticketsN {w w1 : World} {b : Nat} {q : Bs} {s : St} (h : Mine w b q s w1) (N : Nat) (hN : s.st.length = N + 1) (hs : N ≤ 100000) : Calls Try.prog 21 #[.pointer (some ⟨b, 0, none⟩)] w1 (Still w b q s w1 (.int .i64 (N : Int))) := by
  refine (h.tickets (by omega)).mono ?_
  rintro e w' ⟨rfl, h1, h2⟩
  exact ⟨by rw [hN]; congr 2; omega, h1, h2⟩
theorem seen_next {od : List Nat} {j t : Nat} (ht : od[j]? = some t) : upd (fun u => decide (u ∈ od.take j)) t true = fun u => decide (u ∈ od.take (j + 1)) := by
  funext u
  rw [List.take_add_one, ht]
  by_cases h : u = t
  · subst h; rw [upd_same]; simp
  · rw [upd_other _ _ h]; simp [h]
set_option maxHeartbeats 4000000 in
theorem memOrder_walk (a0 : Option Addr) (len cap : Nat) (Z : Nat → Int) (dp : Int) (w : World) (hl : len ≤ cap) (hcap : cap ≤ maxLen) (hs : SlInts .i64 w a0 len Z) (w1 : (Lit.int .i64 dp).wf = true) :
    Calls Try.prog 9 #[.slice a0 len cap, .int .i64 dp] w fun e w' => e = .returned (.bool true) ∧ Below w.heap.size w w' := by
  obtain ⟨p1, p2⟩ := i64_rng w1
  obtain ⟨D0, hD, hD6⟩ := pk_nat dp 6 (by omega)
  have hp1 := fun w => pick_ok dp 6 w p1 p2 (by omega) (by omega)
  rw [show pk dp 6 = (D0 : Int) from hD] at hp1
  have P1 := Lib.hid hp1
  have HS := Lib.hid hs
  have HL := Lib.hid hl
  have HCAP := Lib.hid hcap
  have HD := Lib.hid hD6
  have d0 : (0 : Int) ≤ (D0 : Int) := by omega
  have d6 : (D0 : Int) < 6 := by omega
  clear p1 p2 hD hp1 hs hl hcap w1 hD6
  go_enter Try.func9, Try.ntmps9
  go_wp2_with fail
  refine (known_ok w).mono ?_
  rintro e wa ⟨rfl, f0⟩
  have F0 := Lib.hid f0
  clear f0
  go_wp2_with fail
  refine (P1.out _).mono ?_
  rintro e w2 ⟨rfl, rfl⟩
  go_wp2_with fail
  refine (made_ok (1 + D0) (z := 1 + (D0 : Int)) wa (by omega) (by omega) (by have := HD.out; omega)).mono ?_
  rintro e wb ⟨b, q0, rfl, m0⟩
  have hs1 : SlInts .i64 wa a0 len Z := by
    intro i hi
    obtain ⟨bs, off, h1, h2, h3, h4⟩ := HS.out i hi
    exact ⟨bs, off, h1, Nat.lt_of_lt_of_le h2 F0.out.size, (F0.out.cell (p := ⟨bs, off + i, none⟩) h2 id).trans h3, h4⟩
  have C1 := play_ok m0 (Good.start 4 3 (1 + D0)) (by omega) (by have := HD.out; omega) (by decide) a0 len cap Z HL.out HCAP.out hs1
  rw [show ((1 + D0 : Nat) : Int) = 1 + (D0 : Int) by omega] at C1
  have C1H := Lib.hid C1
  clear m0 hs1 C1
  go_wp2_with fail
  refine C1H.out.mono ?_
  rintro e wc ⟨rfl, q, s, m1, gd⟩
  have M1 := Lib.hid m1
  have GD := Lib.hid gd
  clear m1 gd C1H
  go_wp2_with fail
  go_loopw [9] (fun i wr => ∃ (c : Nat) (q : Bs) (s : St), i = .int .i64 (c : Int) ∧ c ≤ 3 ∧ Mine wa b q s wr ∧ Good s 4 3 (1 + D0) 150 ∧ ∀ j, j < c → s.H j = []) (fun i _ => 3 - (intOf i).toNat)
  case atStart => exact ⟨0, q, s, rfl, by omega, M1.out, GD.out, fun j hj => by omega⟩
  case round =>
    obtain ⟨c, q1, s1, rfl, hc, mr, g1, emp⟩ := hrel
    have MR := Lib.hid mr
    have G1 := Lib.hid g1
    have EM := Lib.hid emp
    clear mr g1 emp
    by_cases hc3 : c < 3
    · have hl0 := G1.out.held hc3
      have C2 := Lib.hid (MR.out.flush c (c := (c : Int)) rfl (by rw [G1.out.c]; exact hc3) (by rw [G1.out.n]; decide) (G1.out.fine hc3) (by have := G1.out.st; omega) (by have := G1.out.od; omega) (by have := HD.out; omega))
      have HC3 := Lib.hid hc3
      have c0 : (0 : Int) ≤ (c : Int) := by omega
      have c3 : (c : Int) < 3 := by omega
      have ll : ((s1.H c).length : Int) ≤ 7 := by have := HD.out; omega
      clear hc hc3 hl0
      go_wp2_with fail
      refine C2.out.mono ?_
      rintro e w3 ⟨lv, q2, rfl, m2, ov, st2, _⟩
      obtain ⟨la, lcp, hlv, hle, hmx, _⟩ := ov.win.shape
      rw [hlv]
      rw [hlv] at ov
      have g2 := G1.out.drains HC3.out (s1.H c).length
      have hH := (drains_same s1 c (s1.H c).length).2.2.2.2.1
      rw [List.drop_length] at hH
      have hO := fun j hj => drains_H s1 c j (s1.H c).length hj
      have C3 := Lib.hid (m2.held c (c := (c : Int)) rfl (by rw [g2.c]; exact HC3.out) (by rw [hH]; decide))
      have HH := Lib.hid hH
      have HO := Lib.hid hO
      have G2 := Lib.hid g2
      have OV := Lib.hid ov
      clear m2 hlv hH hO g2 ov C2 st2 hle hmx
      go_wp2_with fail
      refine C3.out.mono ?_
      rintro e w4 ⟨xv, rfl, m3, f3, ox, _⟩
      obtain ⟨xa, xcp, hxv, _, _, _⟩ := ox.win.shape
      rw [HH.out] at hxv
      rw [hxv]
      have OV3 := Lib.hid (OV.out.still f3)
      have M3 := Lib.hid m3
      clear m3 f3 ox hxv C3
      go_wp2_with fail
      go_loop [10, 13] (fun la i => ∃ j : Nat, i = .int .i64 (j : Int) ∧ j ≤ (s1.H c).length ∧ la = .int .i64 (lastT (s1.H c) j : Int)) (fun _ i => (s1.H c).length - (intOf i).toNat)
      case atStart => exact ⟨0, rfl, by omega, rfl⟩
      case round =>
        obtain ⟨j, rfl, hj, rfl⟩ := hrel
        by_cases hlt : j < (s1.H c).length
        · obtain ⟨x, hx⟩ : ∃ x, (s1.H c)[j]? = some x := ⟨_, List.getElem?_eq_getElem hlt⟩
          obtain ⟨g1, f1, cc1, hv1, hle1, _, _, hc1, _⟩ := OV3.out.win.form (by omega)
          cases hv1
          have e2 : w4.cell? ⟨g1, f1 + j * 3 + 2, none⟩ = some (.int .i64 (x.t : Int)) := by rw [Nat.add_assoc]; exact hc1 _ _ (lcs_get hx (j := 2) (by omega))
          have hlast := lastT_lt G1.out HC3.out hx
          have LN := Lib.hid (lastT_next hx)
          have LT := Lib.hid hlt
          have j0 : (0 : Int) ≤ (j : Int) := by omega
          have j1 : (j : Int) < ((s1.H c).length : Int) := by omega
          have b1 : (decide (x.t ≤ lastT (s1.H c) j)) = false := by simp; omega
          have b2 : ((lastT (s1.H c) j : Nat) : Int) < (x.t : Int) := by omega
          clear hx hc1 hlt hj hlast
          generalize lastT (s1.H c) j = lt at *
          generalize hgl : s1.H c = l at *
          go_wp2_with fail
          go_round
          case rel => exact ⟨j + 1, by simp, LT.out, by rw [LN.out]⟩
          case measure => have := LT.out; simp [intOf]; omega
        · have j1 : ((s1.H c).length : Int) ≤ (j : Int) := by omega
          clear hlt hj
          go_wp2_with fail
          go_roundw
          case rel => exact ⟨c + 1, q2, _, by simp, by have := HC3.out; omega, M3.out, G2.out, fun j hj => by
            by_cases e : j = c
            · rw [e]; exact HH.out
            · rw [HO.out j e]; exact EM.out j (by omega)⟩
          case measure => have := HC3.out; simp [intOf]; omega
    · have c3 : (3 : Int) ≤ (c : Int) := by omega
      have hc4 : c = 3 := by omega
      subst hc4
      have he := G1.out.empty (EM.out 0 (by omega)) (EM.out 1 (by omega)) (EM.out 2 (by omega))
      have hod := G1.out.od
      have C2 := MR.out.order (by omega)
      obtain ⟨N, hN⟩ : ∃ N, s1.od.length = N := ⟨_, rfl⟩
      rw [hN] at he hod
      have C3 := Lib.hid fun w' (h : Mine wa b q1 s1 w') => h.ticketsN N he.symm (by omega)
      unfold GotInts at C2
      rw [hN] at C2
      have C2H := Lib.hid C2
      have HN := Lib.hid hN
      have HE := Lib.hid he
      have n150 : (N : Int) ≤ 150 := by omega
      have hmk := make61 (N + 1) (by omega)
      rw [show ((N + 1 : Nat) : Int) = (N : Int) + 1 by omega] at hmk
      clear hc hc3 he hod C2 hN
      go_wp2_with fail
      refine C2H.out.mono ?_
      rintro e w3 ⟨ov, rfl, m2, _, wv, _⟩
      obtain ⟨oa, ocp, hov, ole, omx, _⟩ := wv.shape
      rw [hov]
      rw [hov] at wv
      have M2 := Lib.hid m2
      have WV := Lib.hid wv
      clear m2 wv hov C2H ole omx
      go_wp2_with fail
      refine (C3.out _ M2.out).mono ?_
      rintro e w4 ⟨rfl, m3, f3⟩
      have M3 := Lib.hid m3
      have WV3 := Lib.hid (WV.out.fr f3 fun _ _ => id)
      clear m3 f3 M2 WV
      go_wp2_with fail
      refine (C3.out _ M3.out).mono ?_
      rintro e w5 ⟨rfl, m4, f4⟩
      have WV4 := Lib.hid (WV3.out.fr f4 fun _ _ => id)
      obtain ⟨m5, l5⟩ := m4.loc 4 (bsn (fun _ => false) (N + 1))
      have WV5 := Lib.hid (WV4.out.alloc (.cells (bsn (fun _ => false) (N + 1)) 4))
      have hge : wa.heap.size ≤ w5.heap.size := m4.fr.size
      have M5 := Lib.hid m5
      have L5 := Lib.hid l5
      have HGE := Lib.hid hge
      clear m4 f4 m5 l5 M3 WV3 WV4 hge
      go_upto_region 26 with fail
      generalize (w5.alloc (.cells (bsn (fun _ => false) (N + 1)) 4)) = w6 at *
      generalize w5.heap.size = SB at *
      clear hmk
      go_wp2_with fail
      go_loopw [16] (fun i wr => ∃ j : Nat, i = .int .i64 (j : Int) ∧ j ≤ N ∧ Mine wa b q1 s1 wr ∧ Win wr 3 1 (.slice oa N ocp) N (its s1.od) ∧ Loc q1 s1 SB 4 (bsn (fun u => decide (u ∈ s1.od.take j)) (N + 1)) wr) (fun i _ => N - (intOf i).toNat)
      case atStart => exact ⟨0, rfl, by omega, M5.out, WV5.out, by simpa using L5.out⟩
      case round =>
        obtain ⟨j, rfl, hj, mx, wx, lx⟩ := hrel
        have MX := Lib.hid mx
        by_cases hlt : j < N
        · obtain ⟨t, ht⟩ : ∃ t, s1.od[j]? = some t := ⟨_, List.getElem?_eq_getElem (by rw [HN.out]; exact hlt)⟩
          obtain ⟨t1, t2⟩ := G1.out.ord ht
          have tl : t < N + 1 := by have := (List.getElem?_eq_some_iff.1 t2).1; rw [← HE.out] at this; exact this
          obtain ⟨g1, f1, cc1, hv1, hle1, _, _, hc1, _⟩ := wx.form (by omega)
          cases hv1
          have d0 : wr.cell? ⟨g1, f1 + j, none⟩ = some (.int .i64 (t : Int)) := hc1 _ _ (its_get ht)
          have hns : decide (t ∈ s1.od.take j) = false := by
            simp only [decide_eq_false_iff_not]
            intro hm
            obtain ⟨i, hi, he⟩ := List.getElem_of_mem hm
            have hi2 : i < j := by rw [List.length_take] at hi; omega
            have : s1.od[i]? = some t := by
              rw [List.getElem_take] at he
              rw [List.getElem?_eq_getElem (by rw [List.length_take] at hi; omega), he]
            have := G1.out.inj this ht
            omega
          have d1 : wr.cell? ⟨SB, t, none⟩ = some (.bool false) := by rw [lx.blk.cell, bsn_get tl, hns]
          have f2 : wr.frozen? ⟨SB, t, none⟩ = false := lx.blk.frozen _
          have C7 := Lib.hid (mx.stamp t (j + 1) (c := (t : Int)) rfl (by have := G1.out.st; omega) t1 t2)
          have WX := Lib.hid wx
          have LX := Lib.hid lx
          have LT := Lib.hid hlt
          have SN := Lib.hid (seen_next ht)
          have TL := Lib.hid tl
          have j0 : (0 : Int) ≤ (j : Int) := by omega
          have j1 : (j : Int) < (N : Int) := by omega
          have u0 : (1 : Int) ≤ (t : Int) := by omega
          have u1 : (t : Int) < (N : Int) + 1 := by omega
          clear ht t1 t2 tl hc1 hns mx wx lx hlt hj
          go_wp2_with fail
          refine C7.out.mono ?_
          rintro e w7 ⟨rfl, m7, f7⟩
          have wx7 := WX.out.fr f7 fun _ _ => id
          have lx7 := LX.out.still f7
          have d0' : w7.cell? ⟨g1, f1 + j, none⟩ = some (.int .i64 (t : Int)) := (f7.cell (p := ⟨g1, f1 + j, none⟩) (World.block_lt_of_cell? _ _ d0) id).trans d0
          have d1' : w7.cell? ⟨SB, t, none⟩ = some (.bool false) := (f7.cell (p := ⟨SB, t, none⟩) (World.block_lt_of_cell? _ _ d1) id).trans d1
          have f2' : w7.frozen? ⟨SB, t, none⟩ = false := lx7.blk.frozen _
          obtain ⟨m8, l8⟩ := m7.setLoc lx7 HGE.out t (.bool true)
          rw [bsn_set, SN.out] at l8
          have W8 := Lib.hid (wx7.far (g := SB) (i := t) (wx7.ne lx7.blk (by decide)) (.bool true))
          have M8 := Lib.hid m8
          have L8 := Lib.hid l8
          clear m7 f7 wx7 lx7 m8 l8 d0 d1 f2 C7
          go_wp2_with fail
          go_roundw
          case rel => exact ⟨j + 1, by simp, LT.out, M8.out, W8.out, L8.out⟩
          case measure => have := LT.out; simp [intOf]; omega
        · have j1 : (N : Int) ≤ (j : Int) := by omega
          have j2 : decide (j < N) = false := by simp; omega
          clear hlt hj mx wx lx
          go_wp2_with fail
          go_loopw [17] (fun i wr2 => ∃ k : Nat, i = .int .i64 (k : Int) ∧ k ≤ 4 ∧ Mine wa b q1 s1 wr2) (fun i _ => 4 - (intOf i).toNat)
          case atStart => exact ⟨0, rfl, by omega, MX.out⟩
          case round =>
            obtain ⟨k, rfl, hk, mk⟩ := hrel
            have MK := Lib.hid mk
            clear mk
            by_cases hk4 : k < 4
            · have PK := Lib.hid (MK.out.peek k (a := 8 * (k : Int)) rfl (by rw [G1.out.n]; exact hk4) (by rw [G1.out.n]; decide))
              have HK4 := Lib.hid hk4
              have k0 : (0 : Int) ≤ (k : Int) := by omega
              have k4 : (k : Int) < 4 := by omega
              clear hk hk4
              go_wp2_with fail
              refine PK.out.mono ?_
              rintro e w7 ⟨rfl, m7, _⟩
              have M7 := Lib.hid m7
              clear m7 PK
              go_wp2_with fail
              go_loopw [21] (fun i wr3 => ∃ c : Nat, i = .int .i64 (c : Int) ∧ c ≤ 3 ∧ Mine wa b q1 s1 wr3) (fun i _ => 3 - (intOf i).toNat)
              case atStart => exact ⟨0, rfl, by omega, M7.out⟩
              case round =>
                obtain ⟨c, rfl, hcc, mc⟩ := hrel
                have MC := Lib.hid mc
                clear mc
                by_cases hc3 : c < 3
                · have LD := Lib.hid (MC.out.load c k (c := (c : Int)) (a := 8 * (k : Int)) rfl rfl (by rw [G1.out.c]; exact hc3) (by rw [G1.out.n]; exact HK4.out) (by rw [G1.out.n]; decide) (by rw [EM.out c hc3]; decide) (load_empty s1 c k (EM.out c hc3)))
                  have HC3 := Lib.hid hc3
                  have c0 : (0 : Int) ≤ (c : Int) := by omega
                  have c4 : (c : Int) < 3 := by omega
                  clear hcc hc3
                  go_wp2_with fail
                  refine LD.out.mono ?_
                  rintro e w8 ⟨rfl, m8, _⟩
                  have M8 := Lib.hid m8
                  clear m8 LD
                  go_wp2_with fail
                  go_roundw
                  case rel => first | exact ⟨c + 1, by simp, by have := HC3.out; omega, M8.out⟩ | ((repeat apply Exists.intro); exact ⟨⟨c + 1, (show Value.int .i64 ((c : Int) + 1) = .int .i64 ((c + 1 : Nat) : Int) by simp), by have := HC3.out; omega, M8.out⟩, rfl⟩)
                  case measure => have := HC3.out; simp [intOf]; omega
                · have c4 : (3 : Int) ≤ (c : Int) := by omega
                  clear hcc hc3
                  go_wp2_with fail
                  go_roundw
                  case rel => first | exact ⟨k + 1, by simp, by have := HK4.out; omega, MC.out⟩ | ((repeat apply Exists.intro); exact ⟨⟨k + 1, (show Value.int .i64 ((k : Int) + 1) = .int .i64 ((k + 1 : Nat) : Int) by simp), by have := HK4.out; omega, MC.out⟩, rfl⟩)
                  case measure => have := HK4.out; simp [intOf]; omega
            · have k4 : (4 : Int) ≤ (k : Int) := by omega
              clear hk hk4
              go_wp2_with fail
              go_ret
              exact ⟨rfl, (F0.out.trans MK.out.fr).bel⟩
end Go.Proofs.Ytjbdbmahbcaniaa
