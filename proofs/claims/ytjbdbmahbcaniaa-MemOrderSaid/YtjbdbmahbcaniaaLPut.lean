/- MemPut, walked. -/
import Derived.Test.YtjbdbmahbcaniaaLAlone
namespace Go.Proofs.Ytjbdbmahbcaniaa
open Go.RowKit
set_option linter.unusedVariables false
set_option maxRecDepth 100000

theorem Mine.stampQ {w w1 : World} {b : Nat} {q : Bs} {s : St} (h : Mine w b q s w1) (t x : Nat) {c : Int} (hc : c = (t : Int)) (hs : s.st.length ≤ 1000000) (ht : 1 ≤ t) (hx : s.st[t]? = some x) (n : Nat) :
    Calls Try.prog 30 #[.pointer (some ⟨b, 0, none⟩), .int .i64 c] (w1.drewN n) fun e w' => e = .returned (.int .i64 (x : Int)) ∧ w' = w1.drewN n := by
  subst hc
  rw [← h.b]
  refine (stamp_ok q s t x _ (h.mem.fr0 (Fr.drewN (Fr.refl _ _) n)) hs ht hx).mono ?_
  rintro e w' ⟨rfl, rfl⟩
  exact ⟨rfl, rfl⟩
theorem drains_od (s : St) (i n : Nat) (hn : n ≤ (s.H i).length) : (s.drains i n).od = s.od ++ ((s.H i).take n).map L.t := by
  induction n with
  | zero => simp [St.drains]
  | succ n ih =>
    have hH := (drains_same s i n).2.2.2.2.1
    have hlt : n < (s.H i).length := by omega
    have hc : (s.drains i n).H i = (s.H i)[n] :: (s.H i).drop (n + 1) := by rw [hH, List.drop_eq_getElem_cons hlt]
    show ((s.drains i n).drain1 i).od = _
    rw [drain1_cons hc]
    show (s.drains i n).od ++ [((s.H i)[n]).t] = _
    rw [ih (by omega), List.take_add_one, List.getElem?_eq_getElem hlt, List.map_append, ← List.append_assoc]
    rfl
theorem drains_H (s : St) (i j n : Nat) (h : j ≠ i) : (s.drains i n).H j = s.H j := by
  induction n with
  | zero => rfl
  | succ n ih =>
    show ((s.drains i n).drain1 i).H j = _
    rw [← ih]
    cases hx : (s.drains i n).H i with
    | nil => unfold St.drain1; rw [hx]
    | cons x l => rw [drain1_cons hx]; exact upd_other _ _ h
theorem put_od (s : St) (i k : Nat) (v : Int) : (s.put i k v).od = s.od ++ (s.H i).map L.t ++ [s.st.length] := by
  show (s.drains i (s.H i).length).od ++ [s.st.length] = _
  rw [drains_od s i _ (Nat.le_refl _), List.take_length]
theorem put_H (s : St) (i k : Nat) (v : Int) (j : Nat) : (s.put i k v).H j = if j = i then [] else s.H j := by
  show (s.drains i (s.H i).length).H j = _
  by_cases h : j = i
  · subst h
    rw [if_pos rfl, (drains_same s j (s.H j).length).2.2.2.2.1, List.drop_length]
  · rw [if_neg h, drains_H s i j _ h]
theorem put_stlen (s : St) (i k : Nat) (v : Int) : (s.put i k v).st.length = s.st.length + 1 := by
  show (((s.drains i (s.H i).length).st ++ [0]).set _ _).length = _
  rw [List.length_set, List.length_append, (drains_same s i (s.H i).length).2.2.2.1]; rfl
theorem put_VT (s : St) (i k : Nat) (v : Int) : (s.put i k v).V k = v ∧ (s.put i k v).T k = s.st.length := ⟨upd_same _ _ _, upd_same _ _ _⟩
theorem Good.ord {s : St} {n c d m : Nat} (h : Good s n c d m) {j t : Nat} (hj : s.od[j]? = some t) : 1 ≤ t ∧ s.st[t]? = some (j + 1) := by
  obtain ⟨g, F, h1, _, _⟩ := h.ok
  exact h1.ord j t hj
theorem findL_any (l : List L) (a : Int) : (l.any fun x => x.a == a) = (findL l a).isSome := by
  unfold findL
  rw [Bool.eq_iff_iff, List.find?_isSome]
  simp
theorem findL_mem {l : List L} {a : Int} {y : L} (h : findL l a = some y) : y ∈ l ∧ y.a = a := by
  unfold findL at h
  exact ⟨List.mem_reverse.1 (List.mem_of_find?_eq_some h), by have := List.find?_some h; simpa using this⟩
/-- What a load tells behind a store that reached memory at once. -/
theorem put_load {s : St} {n c d m : Nat} (h : Good s n c d m) (i k : Nat) (v : Int) (o : Nat) (ho : o < c) :
    (findL ((s.put i k v).H o) (8 * (k : Int)) = none ∧ (s.put i k v).load o k = (v, s.st.length)) ∨ (∃ y, findL ((s.put i k v).H o) (8 * (k : Int)) = some y ∧ (s.put i k v).load o k = (y.v, y.t) ∧ y.t < s.st.length) := by
  cases hf : findL ((s.put i k v).H o) (8 * (k : Int)) with
  | none =>
    left
    refine ⟨rfl, ?_⟩
    unfold St.load
    rw [hf]
    show ((s.put i k v).V k, (s.put i k v).T k) = _
    rw [(put_VT s i k v).1, (put_VT s i k v).2]
  | some y =>
    right
    refine ⟨y, rfl, ?_, ?_⟩
    · unfold St.load; rw [hf]
    · have hy := (findL_mem hf).1
      rw [put_H] at hy
      split at hy
      · cases hy
      · exact (h.fine ho y hy).2.2
set_option maxHeartbeats 4000000 in
theorem memPut_walk (a0 : Option Addr) (len cap : Nat) (Z : Nat → Int) (core word value : Int) (w : World) (hl : len ≤ cap) (hcap : cap ≤ maxLen) (hs : SlInts .i64 w a0 len Z) (w1 : (Lit.int .i64 core).wf = true) (w2 : (Lit.int .i64 word).wf = true) (w3 : (Lit.int .u64 value).wf = true) :
    Calls Try.prog 6 #[.slice a0 len cap, .int .i64 core, .int .i64 word, .int .u64 value] w fun e w' => e = .returned (.bool true) ∧ Below w.heap.size w w' := by
  obtain ⟨p1, p2⟩ := i64_rng w1
  obtain ⟨p3, p4⟩ := i64_rng w2
  obtain ⟨C, hC, hC3⟩ := pk_nat core 3 (by omega)
  obtain ⟨K, hK, hK4⟩ := pk_nat word 4 (by omega)
  have hp1 := fun w => pick_ok core 3 w p1 p2 (by omega) (by omega)
  have hp2 := fun w => pick_ok word 4 w p3 p4 (by omega) (by omega)
  rw [show pk core 3 = (C : Int) from hC] at hp1
  rw [show pk word 4 = (K : Int) from hK] at hp2
  have P1 := Lib.hid hp1
  have P2 := Lib.hid hp2
  have HS := Lib.hid hs
  have HL := Lib.hid hl
  have HCAP := Lib.hid hcap
  have HC := Lib.hid hC3
  have HK := Lib.hid hK4
  have c0 : (0 : Int) ≤ (C : Int) := by omega
  have c3 : (C : Int) < 3 := by omega
  have k0 : (0 : Int) ≤ (K : Int) := by omega
  have k4 : (K : Int) < 4 := by omega
  clear p1 p2 p3 p4 hC hK hp1 hp2 hs hl hcap w1 w2 w3 hC3 hK4
  go_enter Try.func6, Try.ntmps6
  go_wp2_with fail
  refine (known_ok w).mono ?_
  rintro e wa ⟨rfl, f0⟩
  have F0 := Lib.hid f0
  clear f0
  go_wp2_with fail
  refine (made_ok 5 wa rfl (by decide) (by decide)).mono ?_
  rintro e wb ⟨b, q0, rfl, m0⟩
  have hs1 : SlInts .i64 wa a0 len Z := by
    intro i hi
    obtain ⟨bs, off, h1, h2, h3, h4⟩ := HS.out i hi
    exact ⟨bs, off, h1, Nat.lt_of_lt_of_le h2 F0.out.size, (F0.out.cell (p := ⟨bs, off + i, none⟩) h2 id).trans h3, h4⟩
  have C1 := Lib.hid (play_ok m0 (Good.start 4 3 5) (by decide) (by decide) (by decide) a0 len cap Z HL.out HCAP.out hs1)
  clear m0 hs1
  go_wp2_with fail
  refine C1.out.mono ?_
  rintro e wc ⟨rfl, q, s, m1, gd⟩
  have GD := Lib.hid gd
  have hh := gd.held HC.out
  have C1 := Lib.hid (m1.held C (c := (C : Int)) rfl (by rw [gd.c]; exact HC.out) (by omega))
  clear gd m1
  go_wp2_with fail
  refine (P1.out _).mono ?_
  rintro e w2 ⟨rfl, rfl⟩
  go_wp2_with fail
  refine (P2.out _).mono ?_
  rintro e w2 ⟨rfl, rfl⟩
  go_wp2_with fail
  refine C1.out.mono ?_
  rintro e wd ⟨hvv, rfl, m2, _, ov, _⟩
  obtain ⟨ha, hcp, hv, hle, _, _⟩ := ov.win.shape
  rw [hv]
  have HV := Lib.hid hv
  have OV := Lib.hid ov
  have C2 := Lib.hid (m2.order (by have := GD.out.od; omega))
  clear hv ov m2 C1
  go_wp2_with fail
  refine C2.out.mono ?_
  rintro e we ⟨odv, rfl, m3, f3, wv, _⟩
  obtain ⟨ao, aocap, hv, _, _, _⟩ := wv.shape
  rw [hv]
  have OV3 := Lib.hid (OV.out.still f3)
  have hodl := GD.out.od
  have C3 := Lib.hid (m3.put C K (c := (C : Int)) (a := 8 * (K : Int)) (v := value) rfl rfl (by rw [GD.out.c]; exact HC.out) (by rw [GD.out.n]; exact HK.out) (by rw [GD.out.n]; decide) (GD.out.fine HC.out) (by have := GD.out.st; omega) (by have := GD.out.od; omega) (by omega) (t := s.st.length) rfl)
  clear wv hv f3 m3 C2 OV
  have g2 := GD.out.put (i := C) (k := K) value HC.out HK.out (by decide)
  have G2 := Lib.hid g2
  have e1 := put_od s C K value
  have E1 := Lib.hid e1
  have E2 := Lib.hid (put_H s C K value)
  have E3 := Lib.hid (put_stlen s C K value)
  have E4 := Lib.hid (fun o ho => put_load GD.out C K value o ho)
  have st1 := GD.out.st
  obtain ⟨g, F, ok, _, _⟩ := GD.out.ok
  have h1t : 1 ≤ s.st.length := by have := ok.len; omega
  clear ok e1 g2
  generalize hTL : s.st.length = tl at *
  generalize hOL : s.od.length = ol at *
  generalize hHL : (s.H C).length = hl at *
  have HTL := Lib.hid hTL
  have HOL := Lib.hid hOL
  have HHL := Lib.hid hHL
  clear hTL hOL hHL
  go_wp2_with fail
  refine C3.out.mono ?_
  rintro e wf ⟨lv, q1, rfl, m4, ov4, st4, _⟩
  have hwl := ov4.win
  have hwh := (OV3.out.step st4)
  obtain ⟨la, lcp, hv4, lle, _, _⟩ := hwl.shape
  have hll : (s.H C).length = hl := HHL.out
  rw [hll] at hv4
  rw [hv4]
  have HV4 := Lib.hid hv4
  have OL4 := Lib.hid ov4
  have OH4 := Lib.hid hwh
  have C4 := Lib.hid (m4.held C (c := (C : Int)) rfl (by rw [G2.out.c]; exact HC.out) (by have := G2.out.held HC.out; omega))
  have hst : (s.put C K value).st[tl]? = some (ol + hl + 1) := by
    have h1 := (G2.out.ord (j := ol + hl) (t := tl) (by
      rw [E1.out, List.getElem?_append_right (by simp [HOL.out, HHL.out])]
      simp [HOL.out, HHL.out])).2
    exact h1
  generalize hs2 : s.put C K value = s2 at *
  have HS2 := Lib.hid hs2
  have STT := Lib.hid hst
  have a1 : (ol : Int) ≤ 1000 := by omega
  have a2 : (hl : Int) ≤ 5 := by omega
  clear hwl hwh hv4 ov4 st4 hll hst hs2 C3 OV3 m4 hle lle
  go_wp2_with fail
  refine C4.out.mono ?_
  rintro e wg ⟨x4, rfl, m5, f5, ox, _⟩
  obtain ⟨xa, xcp, hx4, _, _, _⟩ := ox.win.shape
  have hz : s2.H C = [] := by rw [E2.out, if_pos rfl]
  rw [hz] at hx4
  rw [hx4]
  have OL5 := Lib.hid (OL4.out.still f5)
  have OH5 := Lib.hid (OH4.out.still f5)
  have C5 := Lib.hid (m5.stamp tl (ol + hl + 1) (c := (tl : Int)) rfl (by have := G2.out.st; omega) h1t STT.out)
  clear m5 f5 ox hx4 hz C4 OL4 OH4
  go_wp2_with fail
  refine C5.out.mono ?_
  rintro e wh ⟨rfl, m6, f6⟩
  have M6 := Lib.hid m6
  have OL6 := Lib.hid (OL5.out.still f6)
  have OH6 := Lib.hid (OH5.out.still f6)
  clear m6 f6 C5 OL5 OH5
  go_wp2_with fail
  go_loopw [19] (fun i wr => ∃ j : Nat, i = .int .i64 (j : Int) ∧ j ≤ hl ∧ Mine wa b q1 s2 wr ∧ Own wa q1 s2 (.slice la hl lcp) (s.H C) wr ∧ Own wa q1 s2 (.slice ha hl hcp) (s.H C) wr) (fun i _ => hl - (intOf i).toNat)
  case atStart => exact ⟨0, rfl, by omega, M6.out, by rw [← HV4.out]; exact OL6.out, by rw [← HV.out]; exact OH6.out⟩
  case round =>
    obtain ⟨j, rfl, hj, mr, o1, o2⟩ := hrel
    have MR := Lib.hid mr
    by_cases hlt : j < hl
    · obtain ⟨x, hx⟩ : ∃ x, (s.H C)[j]? = some x := ⟨_, List.getElem?_eq_getElem (by rw [HHL.out]; exact hlt)⟩
      have hlen := HHL.out
      obtain ⟨g1, f1, cc1, hv1, hle1, _, _, hc1, _⟩ := o1.win.form (by omega)
      obtain ⟨g2, f2, cc2, hv2, hle2, _, _, hc2, _⟩ := o2.win.form (by omega)
      rw [hlen] at hv1 hv2
      cases hv1
      cases hv2
      have d0 : wr.cell? ⟨g1, f1 + j * 3, none⟩ = some (.int .u64 x.a) := hc1 _ _ (lcs_get hx (j := 0) (by omega))
      have d1 : wr.cell? ⟨g1, f1 + j * 3 + 1, none⟩ = some (.int .u64 x.v) := by rw [Nat.add_assoc]; exact hc1 _ _ (lcs_get hx (j := 1) (by omega))
      have d2 : wr.cell? ⟨g1, f1 + j * 3 + 2, none⟩ = some (.int .i64 (x.t : Int)) := by rw [Nat.add_assoc]; exact hc1 _ _ (lcs_get hx (j := 2) (by omega))
      have e0 : wr.cell? ⟨g2, f2 + j * 3, none⟩ = some (.int .u64 x.a) := hc2 _ _ (lcs_get hx (j := 0) (by omega))
      have e1 : wr.cell? ⟨g2, f2 + j * 3 + 1, none⟩ = some (.int .u64 x.v) := by rw [Nat.add_assoc]; exact hc2 _ _ (lcs_get hx (j := 1) (by omega))
      have e2 : wr.cell? ⟨g2, f2 + j * 3 + 2, none⟩ = some (.int .i64 (x.t : Int)) := by rw [Nat.add_assoc]; exact hc2 _ _ (lcs_get hx (j := 2) (by omega))
      have hod : s2.od[ol + j]? = some x.t := by
        rw [E1.out, List.getElem?_append_left (by simp [HOL.out, hlen]; omega), List.getElem?_append_right (by rw [HOL.out]; omega), HOL.out, Nat.add_sub_cancel_left, List.getElem?_map, hx]
        rfl
      obtain ⟨t1, t2⟩ := G2.out.ord hod
      have hq := fun n => MR.out.stampQ x.t (ol + j + 1) (c := (x.t : Int)) rfl (by have := G2.out.st; omega) t1 t2 n
      rw [show ((ol + j + 1 : Nat) : Int) = (ol : Int) + (j : Int) + 1 by omega] at hq
      have HQ := Lib.hid hq
      have O1 := Lib.hid o1
      have O2 := Lib.hid o2
      have LT := Lib.hid hlt
      have j0 : (0 : Int) ≤ (j : Int) := by omega
      have j1 : (j : Int) < (hl : Int) := by omega
      have w1 : IntKind.i64.wrap ((ol : Int) + (j : Int)) = (ol : Int) + (j : Int) := by rw [IntKind.wrap_i64]; omega
      have w2 : IntKind.i64.wrap ((ol : Int) + (j : Int) + 1) = (ol : Int) + (j : Int) + 1 := by rw [IntKind.wrap_i64]; omega
      clear hx hlen hc1 hc2 hod t1 t2 hq o1 o2 mr hlt hj
      go_wp2_with fail
      go_quiet ((go_at_call 30; exact Calls.quiet_of_same (HQ.out _)))
      clear w1 w2
      go_wp2_with fail
      go_roundw
      case rel => exact ⟨j + 1, by simp, LT.out, MR.out.still (Fr.drewN (Fr.refl _ _) _), O1.out.still (Fr.drewN (Fr.refl _ _) _), O2.out.still (Fr.drewN (Fr.refl _ _) _)⟩
      case measure => have := LT.out; simp [intOf]; omega
    · have j1 : (hl : Int) ≤ (j : Int) := by omega
      have j2 : decide (j < hl) = false := by simp; omega
      clear hlt hj o1 o2 mr
      go_wp2_with fail
      go_loopw [20] (fun i wr2 => ∃ o : Nat, i = .int .i64 (o : Int) ∧ o ≤ 3 ∧ Mine wa b q1 s2 wr2) (fun i _ => 3 - (intOf i).toNat)
      case atStart => exact ⟨0, rfl, by omega, MR.out⟩
      case round =>
        obtain ⟨o, rfl, ho, mo⟩ := hrel
        have MO := Lib.hid mo
        by_cases ho3 : o < 3
        · have C7 := Lib.hid (mo.held o (c := (o : Int)) rfl (by rw [G2.out.c]; exact ho3) (by have := G2.out.held ho3; omega))
          have HO3 := Lib.hid ho3
          have o0 : (0 : Int) ≤ (o : Int) := by omega
          have o3 : (o : Int) < 3 := by omega
          clear mo ho ho3
          go_wp2_with fail
          refine C7.out.mono ?_
          rintro e wi ⟨xv, rfl, m7, _, ox, _⟩
          obtain ⟨xa2, xcp2, hxv, hxl, hxm, _⟩ := ox.win.shape
          rw [hxv]
          rw [hxv] at ox
          have OX := Lib.hid ox
          have xl : ((s2.H o).length : Int) ≤ 5 := by have := G2.out.held HO3.out; omega
          have C8 := fun x t h => m7.load o K (c := (o : Int)) (a := 8 * (K : Int)) (x := x) (t := t) rfl rfl (by rw [G2.out.c]; exact HO3.out) (by rw [G2.out.n]; exact HK.out) (by rw [G2.out.n]; decide) (by omega) h
          have C8H := Lib.hid C8
          clear m7 ox hxv hxm C8 C7
          generalize hln : s2.H o = l at *
          have HLN := Lib.hid hln
          clear hln
          go_wp2_with fail
          go_loop [21, 23] (fun ow i => ∃ j : Nat, i = .int .i64 (j : Int) ∧ j ≤ l.length ∧ ow = .bool ((l.take j).any fun x => x.a == 8 * (K : Int))) (fun _ i => l.length - (intOf i).toNat)
          case atStart => exact ⟨0, rfl, by omega, by simp⟩
          case round =>
            obtain ⟨j, rfl, hj, rfl⟩ := hrel
            by_cases hlt : j < l.length
            · obtain ⟨x, hx⟩ : ∃ x, l[j]? = some x := ⟨_, List.getElem?_eq_getElem hlt⟩
              obtain ⟨g1, f1, cc1, hv1, hle1, _, _, hc1, _⟩ := OX.out.win.form (by omega)
              cases hv1
              have d0 : wi.cell? ⟨g1, f1 + j * 3, none⟩ = some (.int .u64 x.a) := hc1 _ _ (lcs_get hx (j := 0) (by omega))
              have hany : ((l.take (j + 1)).any fun x => x.a == 8 * (K : Int)) = (((l.take j).any fun x => x.a == 8 * (K : Int)) || (x.a == 8 * (K : Int))) := by
                rw [List.take_add_one, hx, List.any_append]
                simp
              have HANY := Lib.hid hany
              have LT := Lib.hid hlt
              have j0 : (0 : Int) ≤ (j : Int) := by omega
              have j1 : (j : Int) < (l.length : Int) := by omega
              clear hx hc1 hany hlt hj
              generalize hB : ((l.take j).any fun x => x.a == 8 * (K : Int)) = B at *
              have HB := Lib.hid hB
              clear hB
              generalize hE : (x.a == 8 * (K : Int)) = E at *
              have HE := Lib.hid hE
              cases B
              · go_wp2_with fail
                go_round
                case rel => exact ⟨j + 1, by simp, LT.out, by rw [HANY.out]; simp [HE.out]⟩
                case measure => have := LT.out; simp [intOf]; omega
              · clear hE
                go_wp2_with fail
                go_round
                case rel => exact ⟨j + 1, by simp, LT.out, by rw [HANY.out]; simp⟩
                case measure => have := LT.out; simp [intOf]; omega
            · have j1 : (l.length : Int) ≤ (j : Int) := by omega
              have hje : j = l.length := by omega
              subst hje
              rw [List.take_length, findL_any]
              rcases E4.out o HO3.out with ⟨h1, h2⟩ | ⟨y, h1, h2, h3⟩
              · rw [HLN.out] at h1
                have C9 := Lib.hid (C8H.out _ _ h2)
                rw [h1]
                clear h1 h2 hlt hj
                go_wp2_with fail
                refine C9.out.mono ?_
                rintro e wk ⟨rfl, m8, _⟩
                have M8 := Lib.hid m8
                clear m8
                go_wp2_with fail
                go_roundw
                case rel => first | exact ⟨o + 1, by simp, by have := HO3.out; omega, M8.out⟩ | ((repeat apply Exists.intro); exact ⟨⟨o + 1, (show Value.int .i64 ((o : Int) + 1) = .int .i64 ((o + 1 : Nat) : Int) by simp), by have := HO3.out; omega, M8.out⟩, rfl⟩)
                case measure => have := HO3.out; simp [intOf]; omega
              · rw [HLN.out] at h1
                have C9 := Lib.hid (C8H.out _ _ h2)
                rw [h1]
                have ny : ((y.t : Int) == (tl : Int)) = false := by simp; omega
                clear h1 h2 h3 hlt hj
                go_wp2_with fail
                refine C9.out.mono ?_
                rintro e wk ⟨rfl, m8, _⟩
                have M8 := Lib.hid m8
                clear m8
                go_wp2_with fail
                go_roundw
                case rel => first | exact ⟨o + 1, by simp, by have := HO3.out; omega, M8.out⟩ | ((repeat apply Exists.intro); exact ⟨⟨o + 1, (show Value.int .i64 ((o : Int) + 1) = .int .i64 ((o + 1 : Nat) : Int) by simp), by have := HO3.out; omega, M8.out⟩, rfl⟩)
                case measure => have := HO3.out; simp [intOf]; omega
        · have o3 : (3 : Int) ≤ (o : Int) := by omega
          clear mo ho ho3
          go_wp2_with fail
          go_ret
          exact ⟨rfl, (F0.out.trans MO.out.fr).bel⟩
end Go.Proofs.Ytjbdbmahbcaniaa
