/- MemTells, walked. -/
import Derived.Test.YtjbdbmahbcaniaaLOrder
namespace Go.Proofs.Ytjbdbmahbcaniaa
open Go.RowKit
set_option linter.unusedVariables false
set_option maxRecDepth 100000

/-- What is known behind so many calls: each store has told its ticket. -/
structure Tell (g : List G) (s : St) (d m : Nat) : Prop where
  ok : Ok g (fun _ => 0) s
  cn : Cnt g s
  n : s.n = 4
  c : s.c = 3
  d : s.d = d
  len : g.length ≤ m
  val : ∀ (j : Nat) (e : G), g[j]? = some e → e.v = 1001 + (j : Int)
theorem Tell.good {g : List G} {s : St} {d m : Nat} (h : Tell g s d m) : Good s 4 3 d m := ⟨⟨g, _, h.ok, h.cn, h.len⟩, h.n, h.c, h.d⟩
theorem Tell.start (d : Nat) : Tell [] (St0 4 3 d) d 0 := ⟨Ok.start 4 3 d, Cnt.start 4 3 d, rfl, rfl, rfl, Nat.le_refl _, fun j e h => by simp at h⟩
theorem Tell.up {g : List G} {s : St} {d m : Nat} (h : Tell g s d m) : Tell g s d (m + 1) := ⟨h.ok, h.cn, h.n, h.c, h.d, by have := h.len; omega, h.val⟩
theorem Tell.drain1 {g : List G} {s : St} {d m i : Nat} (h : Tell g s d m) (hi : i < 3) : Tell g (s.drain1 i) d (m + 1) := by
  obtain ⟨a, b, e, _⟩ := drain1_same s i
  have hi' : i < s.c := by rw [h.c]; exact hi
  exact ⟨h.ok.drain1 hi', h.cn.drain1 h.ok hi', a.trans h.n, b.trans h.c, e.trans h.d, by have := h.len; omega, h.val⟩
theorem Tell.hold {g : List G} {s : St} {d m i k : Nat} {x : L} (h : Tell g s d m) (hi : i < 3) (hk : k < 4) (ha : x.a = 8 * (k : Int)) (hv : x.v = 1001 + (g.length : Int)) (ht : x.t = s.st.length) (hd : (s.H i).length < d) : Tell (g ++ [⟨i, k, x.v⟩]) (s.hold i x) d (m + 1) := by
  have hi' : i < s.c := by rw [h.c]; exact hi
  refine ⟨h.ok.push hi' (by rw [h.n]; exact hk) ha ht (by rw [h.d]; exact hd), h.cn.push _ hi', h.n, h.c, h.d, by have := h.len; simp; exact this, fun j e hj => ?_⟩
  rcases appG hj with ⟨_, hj⟩ | ⟨rfl, rfl⟩
  · exact h.val j e hj
  · exact hv
/-- What a load tells. -/
theorem Tell.load {g : List G} {s : St} {d m : Nat} (h : Tell g s d m) (c k : Nat) (hc : c < 3) (hk : k < 4) :
    s.load c k = (0, 0) ∨ ∃ (t : Nat) (e : G), s.load c k = (1001 + (t : Int), t + 1) ∧ g[t]? = some e ∧ e.k = k := by
  unfold St.load
  cases hf : findL (s.H c) (8 * (k : Int)) with
  | some x =>
    right
    obtain ⟨hx, hxa⟩ := findL_mem hf
    obtain ⟨h1, h2, e, h3, h4, h5, h6⟩ := h.ok.hold c (by rw [h.c]; exact hc) x hx
    have hv := h.val _ _ h3
    refine ⟨x.t - 1, e, ?_, h3, by omega⟩
    show (x.v, x.t) = _
    rw [h6, hv]
    congr 1
    omega
  | none =>
    by_cases hT : s.T k = 0
    · left
      show (s.V k, s.T k) = _
      rw [(h.ok.mem0 k (by rw [h.n]; exact hk) hT).1, hT]
    · right
      obtain ⟨e, m', h1, h2, h3, _⟩ := h.ok.mem1 k (by rw [h.n]; exact hk) hT
      have hv := h.val _ _ h1
      refine ⟨s.T k - 1, e, ?_, h1, h2⟩
      show (s.V k, s.T k) = _
      rw [← h3, hv]
      congr 1
      omega
theorem Tell.heldx {g : List G} {s : St} {d m : Nat} (h : Tell g s d m) {c : Nat} (hc : c < 3) {x : L} (hx : x ∈ s.H c) : ∃ (t : Nat) (e : G), x.t = t + 1 ∧ s.st[t + 1]? = some 0 ∧ g[t]? = some e ∧ x.a = 8 * (e.k : Int) := by
  obtain ⟨h1, h2, e, h3, h4, h5, h6⟩ := h.ok.hold c (by rw [h.c]; exact hc) x hx
  have e1 : x.t = (x.t - 1) + 1 := by omega
  exact ⟨x.t - 1, e, e1, by rw [← e1]; exact h2, h3, h5⟩
/-- The list of addresses that the law keeps. -/
def ads (g : List G) : List Value := g.map fun e => Value.int .u64 (8 * (e.k : Int))
theorem ads_get {g : List G} {j : Nat} {e : G} (h : g[j]? = some e) : (ads g)[j]? = some (.int .u64 (8 * (e.k : Int))) := by simp [ads, h]
structure LocW (w : World) (q : Bs) (s : St) (v : Value) (n : Nat) (xs : List Value) (w1 : World) : Prop where
  win : Win w1 22 1 v n xs
  own : ∀ k, v.ownBlock = some k → w.heap.size ≤ k ∧ ¬ Foot q s k
theorem LocW.still {w w1 w2 : World} {q : Bs} {s : St} {v : Value} {n : Nat} {xs : List Value} (h : LocW w q s v n xs w1) (hf : Fr Nil w1 w2) : LocW w q s v n xs w2 := ⟨h.win.fr hf fun _ _ => id, h.own⟩
theorem LocW.step {w w1 w2 : World} {q q' : Bs} {s s' : St} {v : Value} {n : Nat} {xs : List Value} (h : LocW w q s v n xs w1) (hs : Step w1 q s w2 q' s') : LocW w q' s' v n xs w2 :=
  ⟨h.win.fr hs.fr fun k hk => (h.own k hk).2, fun k hk => ⟨(h.own k hk).1, fun hF => (hs.foot k hF).elim (h.own k hk).2 fun h2 => by have := h.win.lt hk; omega⟩⟩
theorem Mine.grow {w w1 w2 : World} {b : Nat} {q : Bs} {s : St} {v v' : Value} {n n' : Nat} {xs ys : List Value} (h : Mine w b q s w1) (l : LocW w q s v n xs w1) (hg : w1.grownBy w2 v.ownBlock) (hw : Win w2 22 1 v' n' ys) (hat : ∀ k, v'.ownBlock = some k → v.ownBlock = some k ∨ w1.heap.size ≤ k) :
    Mine w b q s w2 ∧ LocW w q s v' n' ys w2 := by
  have f : Fr (fun k => v.ownBlock = some k) w1 w2 := (Fr.refl _ w1).grown hg fun k hk => .inl hk
  refine ⟨⟨h.b, h.mem.fr f fun k hk hs => (l.own k hs).2 hk, h.fr.step f fun i _ hs => .inr (l.own i hs).1, h.foot⟩, hw, fun k hk => ?_⟩
  rcases hat k hk with h' | h'
  · exact l.own k h'
  · exact ⟨Nat.le_trans h.fr.size h', fun hF => by have := h.mem.lt hF; omega⟩
/-- How many of the first have no stamp. -/
def zs (st : List Nat) (t : Nat) : Nat := (st.take t).count 0
theorem zs_next {st : List Nat} {t x : Nat} (h : st[t]? = some x) : zs st (t + 1) = zs st t + if x = 0 then 1 else 0 := by
  unfold zs
  rw [List.take_add_one, h, List.count_append]
  by_cases hx : x = 0
  · subst hx; simp
  · simp [hx]
theorem Try.info22a : (Try.prog.info? 22).map (fun i => (i.zero, i.size, i.bytes)) = some (some (.int .u64 0), 1, 8) := by kernel_rfl
set_option maxHeartbeats 8000000 in
theorem memTells_walk (a0 : Option Addr) (len cap : Nat) (Z : Nat → Int) (dp : Int) (w : World) (hl : len ≤ cap) (hcap : cap ≤ maxLen) (hs : SlInts .i64 w a0 len Z) (w1 : (Lit.int .i64 dp).wf = true) :
    Calls Try.prog 7 #[.slice a0 len cap, .int .i64 dp] w fun e w' => e = .returned (.bool true) ∧ Below w.heap.size w w' := by
  obtain ⟨p1, p2⟩ := i64_rng w1
  obtain ⟨D0, hD, hD6⟩ := pk_nat dp 6 (by omega)
  have hp1 := fun w => pick_ok dp 6 w p1 p2 (by omega) (by omega)
  rw [show pk dp 6 = (D0 : Int) from hD] at hp1
  have P1 := Lib.hid hp1
  have HS := Lib.hid hs
  have hlen : (len : Int) ≤ 9223372036854775807 := by simp only [maxLen] at hcap; omega
  have HD := Lib.hid hD6
  have d0 : (0 : Int) ≤ (D0 : Int) := by omega
  have d6 : (D0 : Int) < 6 := by omega
  obtain ⟨i22, hi22, hz0, hz1, hz2⟩ := info_parts Try.info22a
  clear p1 p2 hD hp1 hs hl hcap w1 hD6
  go_enter Try.func7, Try.ntmps7
  go_wp2_with fail
  refine (known_ok w).mono ?_
  rintro e wa ⟨rfl, f0⟩
  have F0 := Lib.hid f0
  clear f0
  go_wp2_with fail
  refine (P1.out _).mono ?_
  rintro e w2 ⟨rfl, rfl⟩
  go_wp2_with fail
  refine (made_ok (1 + D0) (z := 1 + (D0 : Int)) wa (by omega) (by omega) (by have := HD.out; omega)).mono ?_
  rintro e wb ⟨b, q0, rfl, m0⟩
  have M0 := Lib.hid m0
  clear m0
  go_wp2_with fail
  go_loopw [8, 9] (fun av i wr => ∃ (k : Nat) (q : Bs) (s : St) (g : List G), i = .int .i64 (k : Int) ∧ k ≤ 150 ∧ k ≤ len ∧ Mine wa b q s wr ∧ Tell g s (1 + D0) k ∧ LocW wa q s av g.length (ads g) wr) (fun _ i _ => 150 - (intOf i).toNat)
  case atStart => exact ⟨0, q0, _, [], rfl, by omega, by omega, M0.out, Tell.start _, Win.nil _ _ _, fun _ h => by cases h⟩
  case round =>
    obtain ⟨k, q1, s1, g, rfl, hk1, hk2, mn, tl, lw⟩ := hrel
    have MN := Lib.hid mn
    have TL := Lib.hid tl
    have hgl := tl.len
    obtain ⟨aa, acp, hav, ale, amx, _⟩ := lw.win.shape
    rw [hav] at lw
    rw [hav]
    have LW := Lib.hid lw
    have g0 : (0 : Int) ≤ (g.length : Int) := by omega
    have g150 : (g.length : Int) ≤ 150 := by omega
    have HGL := Lib.hid hgl
    clear mn tl lw hav ale amx hgl
    by_cases hkl : k < len
    · by_cases hk150 : k < 150
      · obtain ⟨bs, off, ha, hbs, hcell, hwf⟩ := HS.out k hkl
        have hbs2 : bs < wa.heap.size := Nat.lt_of_lt_of_le hbs F0.out.size
        have hc : wr.cell? ⟨bs, off + k, none⟩ = some (.int .i64 (Z k)) := ((MN.out.fr.cell (p := ⟨bs, off + k, none⟩) hbs2 id).trans (F0.out.cell (p := ⟨bs, off + k, none⟩) hbs id)).trans hcell
        obtain ⟨z0, z1⟩ := i64_rng hwf
        obtain ⟨N, hN, hN36⟩ := pk_nat (Z k) 36 (by omega)
        have hpk := fun w => pick_ok (Z k) 36 w z0 z1 (by omega) (by omega)
        have hN' : pk (Z k) 36 = (N : Int) := hN
        rw [hN'] at hpk
        have PK := Lib.hid hpk
        obtain ⟨Kw, hKw⟩ : ∃ Kw : Nat, (k : Int) % 4 = (Kw : Int) := ⟨k % 4, by omega⟩
        have hKw4 : Kw < 4 := by omega
        clear hpk hN hN' hcell hwf z0 z1 hbs hbs2
        subst ha
        have n0 : (0 : Int) ≤ (N : Int) := by omega
        have n1 : (N : Int) < 36 := by omega
        have k0 : (0 : Int) ≤ (k : Int) := by omega
        have k1 : (k : Int) < 150 := by omega
        have k2 : (k : Int) < (len : Int) := by omega
        have kw0 : (0 : Int) ≤ (Kw : Int) := by omega
        have kw4 : (Kw : Int) < 4 := by omega
        have HK := Lib.hid (And.intro hkl hk150)
        have HN36 := Lib.hid hN36
        have HKW := Lib.hid hKw
        have HKW4 := Lib.hid hKw4
        clear hkl hk150 hk1 hk2 hN36 hKw hKw4
        by_cases h3 : (N : Int) / 3 % 4 = 3
        · have DR := Lib.hid (MN.out.drainAny TL.out.good (N % 3) (z := (N : Int) % 3) (by omega) (by omega) (by omega) (by have := HK.out; omega))
          go_wp2_with fail
          refine (PK.out _).mono ?_
          rintro e w2 ⟨rfl, rfl⟩
          go_wp2_with fail
          refine DR.out.mono ?_
          rintro e w3 ⟨x, y, z, f, rfl, q2, m2, st2⟩
          have M2 := Lib.hid m2
          have T2 := Lib.hid (TL.out.drain1 (i := N % 3) (by omega))
          have L2 := Lib.hid (LW.out.step st2)
          have J2 : k + 1 ≤ 150 ∧ k + 1 ≤ len := by have := HK.out; omega
          have HJ2 := Lib.hid J2
          clear m2 st2 J2 h3
          have gle : ((g).length : Int) = (g.length : Int) := by simp
          have gln : (g).length = g.length := by simp
          have GLE := Lib.hid gle
          have GLN := Lib.hid gln
          clear gle gln
          go_wp2_with fail
          go_loopw [14] (fun i wr2 => ∃ c : Nat, i = .int .i64 (c : Int) ∧ c ≤ 3 ∧ Mine wa b q2 (s1.drain1 (N % 3)) wr2 ∧ LocW wa q2 (s1.drain1 (N % 3)) (.slice aa g.length acp) g.length (ads (g)) wr2) (fun i _ => 3 - (intOf i).toNat)
          case atStart => exact ⟨0, rfl, by omega, M2.out, L2.out⟩
          case round =>
            obtain ⟨c, rfl, hc3, mc, lc⟩ := hrel
            have MC := Lib.hid mc
            have LC := Lib.hid lc
            clear mc lc
            by_cases hc : c < 3
            · have HC := Lib.hid hc
              have HWI := HKW.out
              have c0 : (0 : Int) ≤ (c : Int) := by omega
              have c3 : (c : Int) < 3 := by omega
              have LD := fun x t h => MC.out.load c Kw (c := (c : Int)) (a := 8 * (Kw : Int)) (x := x) (t := t) rfl rfl (by rw [T2.out.c]; exact HC.out) (by rw [T2.out.n]; exact HKW4.out) (by rw [T2.out.n]; decide) (by have := T2.out.good.held HC.out; have := HD.out; omega) h
              have LDH := Lib.hid LD
              clear LD hc hc3
              rcases T2.out.load c Kw HC.out HKW4.out with h0 | ⟨t, e, h0, h1, h2⟩
              · have C8 := Lib.hid (LDH.out _ _ h0)
                clear h0
                go_wp2_with fail
                refine C8.out.mono ?_
                rintro e w6 ⟨rfl, m6, f6⟩
                have M6 := Lib.hid m6
                have L6 := Lib.hid (LC.out.still f6)
                have HE := Lib.hid (m6.held c (c := (c : Int)) rfl (by rw [T2.out.c]; exact HC.out) (by have := T2.out.good.held HC.out; have := HD.out; omega))
                clear m6 f6
                go_wp2_with fail
                refine HE.out.mono ?_
                rintro e7 w7 ⟨hv7, rfl, m7, f7, o7, _⟩
                obtain ⟨ha7, hc7, hh7, hl7, _, _⟩ := o7.win.shape
                rw [hh7] at o7
                rw [hh7]
                have M7 := Lib.hid m7
                have O7 := Lib.hid o7
                have L7 := Lib.hid (L6.out.still f7)
                clear m7 f7 o7 hh7 hl7 HE
                have h7l : (((s1.drain1 (N % 3)).H c).length : Int) ≤ 7 := by have := T2.out.good.held HC.out; have := HD.out; omega
                go_wp2_with fail
                go_loopw [20] (fun i wr3 => ∃ j : Nat, i = .int .i64 (j : Int) ∧ j ≤ ((s1.drain1 (N % 3)).H c).length ∧ Mine wa b q2 (s1.drain1 (N % 3)) wr3 ∧ Own wa q2 (s1.drain1 (N % 3)) (.slice ha7 ((s1.drain1 (N % 3)).H c).length hc7) ((s1.drain1 (N % 3)).H c) wr3 ∧ LocW wa q2 (s1.drain1 (N % 3)) (.slice aa g.length acp) g.length (ads (g)) wr3) (fun i _ => ((s1.drain1 (N % 3)).H c).length - (intOf i).toNat)
                case atStart => exact ⟨0, rfl, by omega, M7.out, O7.out, L7.out⟩
                case round =>
                  obtain ⟨j, rfl, hj, mj, oj, lj⟩ := hrel
                  by_cases hlt : j < ((s1.drain1 (N % 3)).H c).length
                  · obtain ⟨x, hx⟩ : ∃ x, ((s1.drain1 (N % 3)).H c)[j]? = some x := ⟨_, List.getElem?_eq_getElem hlt⟩
                    obtain ⟨tx, ex, hx1, hx2, hx3, hx4⟩ := T2.out.heldx HC.out (List.mem_of_getElem? hx)
                    obtain ⟨gx, ox, ccx, hvx, _, _, _, hcx, _⟩ := oj.win.form (by omega)
                    have htx : tx < g.length := by exact (List.getElem?_eq_some_iff.1 hx3).1
                    obtain ⟨gy, oy, ccy, hvy, hley, _, _, hcy, _⟩ := lj.win.form (by omega)
                    cases hvx
                    cases hvy
                    have e0 : wr.cell? ⟨gx, ox + j * 3, none⟩ = some (.int .u64 (8 * (ex.k : Int))) := by rw [← hx4]; exact hcx _ _ (lcs_get hx (j := 0) (by omega))
                    have e2 : wr.cell? ⟨gx, ox + j * 3 + 2, none⟩ = some (.int .i64 ((tx : Int) + 1)) := by rw [Nat.add_assoc, show (tx : Int) + 1 = (x.t : Int) by omega]; exact hcx _ _ (lcs_get hx (j := 2) (by omega))
                    have e3 : wr.cell? ⟨gy, oy + tx, none⟩ = some (.int .u64 (8 * (ex.k : Int))) := hcy _ _ (ads_get hx3)
                    have HQ := Lib.hid (fun n => mj.stampQ (tx + 1) 0 (c := (tx : Int) + 1) (by omega) (by have := T2.out.good.st; have := HK.out; omega) (by omega) hx2 n)
                    have MJ := Lib.hid mj
                    have OJ := Lib.hid oj
                    have LJ := Lib.hid lj
                    have LT := Lib.hid hlt
                    have j0 : (0 : Int) ≤ (j : Int) := by omega
                    have j1 : (j : Int) < (((s1.drain1 (N % 3)).H c).length : Int) := by omega
                    have t0x : (0 : Int) ≤ (tx : Int) := by omega
                    have tnx : (tx : Int) < (g.length : Int) := by have := GLE.out; omega
                    have tnx2 : tx < g.length := htx
                    have w1 : IntKind.i64.wrap ((tx : Int) + 1 - 1) = (tx : Int) := by rw [IntKind.wrap_i64]; omega
                    clear hx hx1 hx2 hx3 hx4 hcx hcy htx mj oj lj hlt hj
                    go_wp2_with fail
                    go_quiet ((go_at_call 30; exact Calls.quiet_of_same (HQ.out _)))
                    clear w1
                    go_wp2_with fail
                    go_roundw
                    case rel => exact ⟨j + 1, by simp, LT.out, MJ.out.still (Fr.drewN (Fr.refl _ _) _), OJ.out.still (Fr.drewN (Fr.refl _ _) _), LJ.out.still (Fr.drewN (Fr.refl _ _) _)⟩
                    case measure => have := LT.out; simp [intOf]; omega
                  · have j1 : (((s1.drain1 (N % 3)).H c).length : Int) ≤ (j : Int) := by omega
                    have MJ := Lib.hid mj
                    have LJ := Lib.hid lj
                    clear hlt hj mj oj lj
                    go_wp2_with fail
                    go_roundw
                    case rel => first | exact ⟨c + 1, by simp, by have := HC.out; omega, MJ.out, LJ.out⟩ | ((repeat apply Exists.intro); exact ⟨⟨c + 1, (show Value.int .i64 ((c : Int) + 1) = .int .i64 ((c + 1 : Nat) : Int) by simp), by have := HC.out; omega, MJ.out, LJ.out⟩, rfl⟩)
                    case measure => have := HC.out; simp [intOf]; omega
              · have C8 := LDH.out _ _ h0
                rw [show ((t + 1 : Nat) : Int) = (t : Int) + 1 by omega] at C8
                have C8H := Lib.hid C8
                have htl : t < g.length := by exact (List.getElem?_eq_some_iff.1 h1).1
                have H1 := Lib.hid h1
                have H2 := Lib.hid h2
                have t0 : (0 : Int) ≤ (t : Int) := by omega
                have tn : (t : Int) < (g.length : Int) := by have := GLE.out; omega
                clear h0 h1 h2 C8
                go_wp2_with fail
                refine C8H.out.mono ?_
                rintro e6 w6 ⟨rfl, m6, f6⟩
                obtain ⟨gz, oz, cca, hva, hlea, _, _, hca, _⟩ := (LC.out.still f6).win.form (by omega)
                cases hva
                have ct : w6.cell? ⟨gz, oz + t, none⟩ = some (.int .u64 (8 * (Kw : Int))) := by have := hca _ _ (ads_get H1.out); rw [H2.out] at this; exact this
                have tl2 : t < g.length := htl
                clear hca
                have M6 := Lib.hid m6
                have L6 := Lib.hid (LC.out.still f6)
                have HE := Lib.hid (m6.held c (c := (c : Int)) rfl (by rw [T2.out.c]; exact HC.out) (by have := T2.out.good.held HC.out; have := HD.out; omega))
                clear m6 f6
                go_wp2_with fail
                refine HE.out.mono ?_
                rintro e7 w7 ⟨hv7, rfl, m7, f7, o7, _⟩
                obtain ⟨ha7, hc7, hh7, hl7, _, _⟩ := o7.win.shape
                rw [hh7] at o7
                rw [hh7]
                have M7 := Lib.hid m7
                have O7 := Lib.hid o7
                have L7 := Lib.hid (L6.out.still f7)
                clear m7 f7 o7 hh7 hl7 HE
                have h7l : (((s1.drain1 (N % 3)).H c).length : Int) ≤ 7 := by have := T2.out.good.held HC.out; have := HD.out; omega
                go_wp2_with fail
                go_loopw [20] (fun i wr3 => ∃ j : Nat, i = .int .i64 (j : Int) ∧ j ≤ ((s1.drain1 (N % 3)).H c).length ∧ Mine wa b q2 (s1.drain1 (N % 3)) wr3 ∧ Own wa q2 (s1.drain1 (N % 3)) (.slice ha7 ((s1.drain1 (N % 3)).H c).length hc7) ((s1.drain1 (N % 3)).H c) wr3 ∧ LocW wa q2 (s1.drain1 (N % 3)) (.slice (some ⟨gz, oz, none⟩) g.length acp) g.length (ads (g)) wr3) (fun i _ => ((s1.drain1 (N % 3)).H c).length - (intOf i).toNat)
                case atStart => exact ⟨0, rfl, by omega, M7.out, O7.out, L7.out⟩
                case round =>
                  obtain ⟨j, rfl, hj, mj, oj, lj⟩ := hrel
                  by_cases hlt : j < ((s1.drain1 (N % 3)).H c).length
                  · obtain ⟨x, hx⟩ : ∃ x, ((s1.drain1 (N % 3)).H c)[j]? = some x := ⟨_, List.getElem?_eq_getElem hlt⟩
                    obtain ⟨tx, ex, hx1, hx2, hx3, hx4⟩ := T2.out.heldx HC.out (List.mem_of_getElem? hx)
                    obtain ⟨gx, ox, ccx, hvx, _, _, _, hcx, _⟩ := oj.win.form (by omega)
                    have htx : tx < g.length := by exact (List.getElem?_eq_some_iff.1 hx3).1
                    obtain ⟨gy, oy, ccy, hvy, hley, _, _, hcy, _⟩ := lj.win.form (by omega)
                    cases hvx
                    cases hvy
                    have e0 : wr.cell? ⟨gx, ox + j * 3, none⟩ = some (.int .u64 (8 * (ex.k : Int))) := by rw [← hx4]; exact hcx _ _ (lcs_get hx (j := 0) (by omega))
                    have e2 : wr.cell? ⟨gx, ox + j * 3 + 2, none⟩ = some (.int .i64 ((tx : Int) + 1)) := by rw [Nat.add_assoc, show (tx : Int) + 1 = (x.t : Int) by omega]; exact hcx _ _ (lcs_get hx (j := 2) (by omega))
                    have e3 : wr.cell? ⟨gz, oz + tx, none⟩ = some (.int .u64 (8 * (ex.k : Int))) := hcy _ _ (ads_get hx3)
                    have HQ := Lib.hid (fun n => mj.stampQ (tx + 1) 0 (c := (tx : Int) + 1) (by omega) (by have := T2.out.good.st; have := HK.out; omega) (by omega) hx2 n)
                    have MJ := Lib.hid mj
                    have OJ := Lib.hid oj
                    have LJ := Lib.hid lj
                    have LT := Lib.hid hlt
                    have j0 : (0 : Int) ≤ (j : Int) := by omega
                    have j1 : (j : Int) < (((s1.drain1 (N % 3)).H c).length : Int) := by omega
                    have t0x : (0 : Int) ≤ (tx : Int) := by omega
                    have tnx : (tx : Int) < (g.length : Int) := by have := GLE.out; omega
                    have tnx2 : tx < g.length := htx
                    have w1 : IntKind.i64.wrap ((tx : Int) + 1 - 1) = (tx : Int) := by rw [IntKind.wrap_i64]; omega
                    clear hx hx1 hx2 hx3 hx4 hcx hcy htx mj oj lj hlt hj
                    go_wp2_with fail
                    go_quiet ((go_at_call 30; exact Calls.quiet_of_same (HQ.out _)))
                    clear w1
                    go_wp2_with fail
                    go_roundw
                    case rel => exact ⟨j + 1, by simp, LT.out, MJ.out.still (Fr.drewN (Fr.refl _ _) _), OJ.out.still (Fr.drewN (Fr.refl _ _) _), LJ.out.still (Fr.drewN (Fr.refl _ _) _)⟩
                    case measure => have := LT.out; simp [intOf]; omega
                  · have j1 : (((s1.drain1 (N % 3)).H c).length : Int) ≤ (j : Int) := by omega
                    have MJ := Lib.hid mj
                    have LJ := Lib.hid lj
                    clear hlt hj mj oj lj
                    go_wp2_with fail
                    go_roundw
                    case rel => first | exact ⟨c + 1, by simp, by have := HC.out; omega, MJ.out, LJ.out⟩ | ((repeat apply Exists.intro); exact ⟨⟨c + 1, (show Value.int .i64 ((c : Int) + 1) = .int .i64 ((c + 1 : Nat) : Int) by simp), by have := HC.out; omega, MJ.out, LJ.out⟩, rfl⟩)
                    case measure => have := HC.out; simp [intOf]; omega
            · have c3 : (3 : Int) ≤ (c : Int) := by omega
              clear hc hc3
              go_wp2_with fail
              go_roundw
              case rel => first | exact ⟨k + 1, q2, s1.drain1 (N % 3), g, by simp, HJ2.out.1, HJ2.out.2, MC.out, T2.out, (by exact LC.out)⟩ | ((repeat apply Exists.intro); exact ⟨⟨k + 1, q2, s1.drain1 (N % 3), g, (show Value.int .i64 ((k : Int) + 1) = .int .i64 ((k + 1 : Nat) : Int) by simp), HJ2.out.1, HJ2.out.2, MC.out, T2.out, (by exact LC.out)⟩, rfl⟩)
              case measure => have := HK.out; simp [intOf]; omega
        · have hi3 : N % 3 < 3 := Nat.mod_lt _ (by omega)
          have hh := TL.out.good.held hi3
          rcases Nat.lt_or_ge (s1.H (N % 3)).length (1 + D0) with hlt | hge
          · have SR := Lib.hid (MN.out.store (N % 3) (N / 12) (c := (N : Int) % 3) (a := 8 * ((N : Int) / 12)) (v := 1000 + (g.length : Int) + 1) (by omega) (by omega) (by rw [TL.out.c]; exact hi3) (by rw [TL.out.n]; have := HN36.out; omega) (by rw [TL.out.n]; omega) (by rw [TL.out.d]; exact hlt) (by rw [TL.out.d]; have := HD.out; omega) (by have := TL.out.good.st; have := HK.out; omega) (t := g.length + 1) (by rw [TL.out.ok.len]))
            have LT := Lib.hid hlt
            clear hh hlt
            go_wp2_with fail
            refine (PK.out _).mono ?_
            rintro e w2 ⟨rfl, rfl⟩
            go_wp2_with fail
            refine SR.out.mono ?_
            rintro e w3 ⟨rfl, q2, m2, st2⟩
            have t2 := TL.out.hold (i := N % 3) (k := N / 12) (x := ⟨8 * ((N : Int) / 12), 1000 + (g.length : Int) + 1, g.length + 1⟩) hi3 (by have := HN36.out; omega) (by show 8 * ((N : Int) / 12) = _; omega) (by show 1000 + (g.length : Int) + 1 = _; omega) (by rw [TL.out.ok.len]) LT.out
            have lw2 := LW.out.step st2
            have M2' := Lib.hid m2
            have T2 := Lib.hid t2
            have LW2 := Lib.hid lw2
            clear m2 st2 t2 lw2
            go_wp2_with (at_builtin; refine wpList_append_win _ rfl (.tmp 77) (.tmp 79) 59 rfl 22 i22 _ 1 8 Try.underlying59 hi22 hz0 hz1 hz2 rfl (by decide) _ _ _ rfl (LW2.out.win.alloc _) ⟨w3.heap.size, 0, none⟩ 1 1 [.int .u64 (8 * ((N : Int) / 12))] rfl rfl (cell_one_new _ _ _) (by simp [Value.oneCell']) (by omega) (by have := HGL.out; have := HK.out; simp only [maxLen]; omega) (by have := HGL.out; have := HK.out; omega) (w3.heap.size + 1) (by simp) ?_; intro ga off2 acp2 w4 hw4 hgr hat)
            have hgr' : w3.grownBy w4 (Value.slice aa g.length acp).ownBlock := (World.grownBy_alloc w3 _ _).trans hgr
            have mg := M2'.out.grow LW2.out hgr' hw4 (fun k hk => by
              cases hk
              exact hat.imp id (fun h => by rw [h]; exact Nat.le_add_right _ _))
            have el : (g ++ [(⟨N % 3, N / 12, 1000 + (g.length : Int) + 1⟩ : G)]).length = g.length + 1 := by simp
            have ea : ads (g ++ [(⟨N % 3, N / 12, 1000 + (g.length : Int) + 1⟩ : G)]) = ads g ++ [.int .u64 (8 * ((N : Int) / 12))] := by simp [ads]
            have M2 := Lib.hid mg.1
            have l2 := mg.2
            rw [← ea] at l2
            have L2 := Lib.hid l2
            have J2 : k + 1 ≤ 150 ∧ k + 1 ≤ len := by have := HK.out; omega
            have HJ2 := Lib.hid J2
            clear mg ea hgr hgr' hat hw4 J2 h3 M2' LW2 el l2
            have gle : ((g ++ [(⟨N % 3, N / 12, 1000 + (g.length : Int) + 1⟩ : G)]).length : Int) = ((g.length : Int) + 1) := by simp
            have gln : (g ++ [(⟨N % 3, N / 12, 1000 + (g.length : Int) + 1⟩ : G)]).length = (g.length + 1) := by simp
            have GLE := Lib.hid gle
            have GLN := Lib.hid gln
            clear gle gln
            go_wp2_with fail
            go_loopw [14] (fun i wr2 => ∃ c : Nat, i = .int .i64 (c : Int) ∧ c ≤ 3 ∧ Mine wa b q2 (s1.hold (N % 3) ⟨8 * ((N : Int) / 12), 1000 + (g.length : Int) + 1, g.length + 1⟩) wr2 ∧ LocW wa q2 (s1.hold (N % 3) ⟨8 * ((N : Int) / 12), 1000 + (g.length : Int) + 1, g.length + 1⟩) (.slice (some ⟨ga, off2, none⟩) (g.length + 1) acp2) (g.length + 1) (ads (g ++ [(⟨N % 3, N / 12, 1000 + (g.length : Int) + 1⟩ : G)])) wr2) (fun i _ => 3 - (intOf i).toNat)
            case atStart => exact ⟨0, rfl, by omega, M2.out, L2.out⟩
            case round =>
              obtain ⟨c, rfl, hc3, mc, lc⟩ := hrel
              have MC := Lib.hid mc
              have LC := Lib.hid lc
              clear mc lc
              by_cases hc : c < 3
              · have HC := Lib.hid hc
                have HWI := HKW.out
                have c0 : (0 : Int) ≤ (c : Int) := by omega
                have c3 : (c : Int) < 3 := by omega
                have LD := fun x t h => MC.out.load c Kw (c := (c : Int)) (a := 8 * (Kw : Int)) (x := x) (t := t) rfl rfl (by rw [T2.out.c]; exact HC.out) (by rw [T2.out.n]; exact HKW4.out) (by rw [T2.out.n]; decide) (by have := T2.out.good.held HC.out; have := HD.out; omega) h
                have LDH := Lib.hid LD
                clear LD hc hc3
                rcases T2.out.load c Kw HC.out HKW4.out with h0 | ⟨t, e, h0, h1, h2⟩
                · have C8 := Lib.hid (LDH.out _ _ h0)
                  clear h0
                  go_wp2_with fail
                  refine C8.out.mono ?_
                  rintro e w6 ⟨rfl, m6, f6⟩
                  have M6 := Lib.hid m6
                  have L6 := Lib.hid (LC.out.still f6)
                  have HE := Lib.hid (m6.held c (c := (c : Int)) rfl (by rw [T2.out.c]; exact HC.out) (by have := T2.out.good.held HC.out; have := HD.out; omega))
                  clear m6 f6
                  go_wp2_with fail
                  refine HE.out.mono ?_
                  rintro e7 w7 ⟨hv7, rfl, m7, f7, o7, _⟩
                  obtain ⟨ha7, hc7, hh7, hl7, _, _⟩ := o7.win.shape
                  rw [hh7] at o7
                  rw [hh7]
                  have M7 := Lib.hid m7
                  have O7 := Lib.hid o7
                  have L7 := Lib.hid (L6.out.still f7)
                  clear m7 f7 o7 hh7 hl7 HE
                  have h7l : (((s1.hold (N % 3) ⟨8 * ((N : Int) / 12), 1000 + (g.length : Int) + 1, g.length + 1⟩).H c).length : Int) ≤ 7 := by have := T2.out.good.held HC.out; have := HD.out; omega
                  go_wp2_with fail
                  go_loopw [20] (fun i wr3 => ∃ j : Nat, i = .int .i64 (j : Int) ∧ j ≤ ((s1.hold (N % 3) ⟨8 * ((N : Int) / 12), 1000 + (g.length : Int) + 1, g.length + 1⟩).H c).length ∧ Mine wa b q2 (s1.hold (N % 3) ⟨8 * ((N : Int) / 12), 1000 + (g.length : Int) + 1, g.length + 1⟩) wr3 ∧ Own wa q2 (s1.hold (N % 3) ⟨8 * ((N : Int) / 12), 1000 + (g.length : Int) + 1, g.length + 1⟩) (.slice ha7 ((s1.hold (N % 3) ⟨8 * ((N : Int) / 12), 1000 + (g.length : Int) + 1, g.length + 1⟩).H c).length hc7) ((s1.hold (N % 3) ⟨8 * ((N : Int) / 12), 1000 + (g.length : Int) + 1, g.length + 1⟩).H c) wr3 ∧ LocW wa q2 (s1.hold (N % 3) ⟨8 * ((N : Int) / 12), 1000 + (g.length : Int) + 1, g.length + 1⟩) (.slice (some ⟨ga, off2, none⟩) (g.length + 1) acp2) (g.length + 1) (ads (g ++ [(⟨N % 3, N / 12, 1000 + (g.length : Int) + 1⟩ : G)])) wr3) (fun i _ => ((s1.hold (N % 3) ⟨8 * ((N : Int) / 12), 1000 + (g.length : Int) + 1, g.length + 1⟩).H c).length - (intOf i).toNat)
                  case atStart => exact ⟨0, rfl, by omega, M7.out, O7.out, L7.out⟩
                  case round =>
                    obtain ⟨j, rfl, hj, mj, oj, lj⟩ := hrel
                    by_cases hlt : j < ((s1.hold (N % 3) ⟨8 * ((N : Int) / 12), 1000 + (g.length : Int) + 1, g.length + 1⟩).H c).length
                    · obtain ⟨x, hx⟩ : ∃ x, ((s1.hold (N % 3) ⟨8 * ((N : Int) / 12), 1000 + (g.length : Int) + 1, g.length + 1⟩).H c)[j]? = some x := ⟨_, List.getElem?_eq_getElem hlt⟩
                      obtain ⟨tx, ex, hx1, hx2, hx3, hx4⟩ := T2.out.heldx HC.out (List.mem_of_getElem? hx)
                      obtain ⟨gx, ox, ccx, hvx, _, _, _, hcx, _⟩ := oj.win.form (by omega)
                      have htx : tx < (g.length + 1) := by rw [← GLN.out]; exact (List.getElem?_eq_some_iff.1 hx3).1
                      obtain ⟨gy, oy, ccy, hvy, hley, _, _, hcy, _⟩ := lj.win.form (by omega)
                      cases hvx
                      cases hvy
                      have e0 : wr.cell? ⟨gx, ox + j * 3, none⟩ = some (.int .u64 (8 * (ex.k : Int))) := by rw [← hx4]; exact hcx _ _ (lcs_get hx (j := 0) (by omega))
                      have e2 : wr.cell? ⟨gx, ox + j * 3 + 2, none⟩ = some (.int .i64 ((tx : Int) + 1)) := by rw [Nat.add_assoc, show (tx : Int) + 1 = (x.t : Int) by omega]; exact hcx _ _ (lcs_get hx (j := 2) (by omega))
                      have e3 : wr.cell? ⟨ga, off2 + tx, none⟩ = some (.int .u64 (8 * (ex.k : Int))) := hcy _ _ (ads_get hx3)
                      have HQ := Lib.hid (fun n => mj.stampQ (tx + 1) 0 (c := (tx : Int) + 1) (by omega) (by have := T2.out.good.st; have := HK.out; omega) (by omega) hx2 n)
                      have MJ := Lib.hid mj
                      have OJ := Lib.hid oj
                      have LJ := Lib.hid lj
                      have LT := Lib.hid hlt
                      have j0 : (0 : Int) ≤ (j : Int) := by omega
                      have j1 : (j : Int) < (((s1.hold (N % 3) ⟨8 * ((N : Int) / 12), 1000 + (g.length : Int) + 1, g.length + 1⟩).H c).length : Int) := by omega
                      have t0x : (0 : Int) ≤ (tx : Int) := by omega
                      have tnx : (tx : Int) < ((g.length : Int) + 1) := by have := GLE.out; omega
                      have tnx2 : tx < (g.length + 1) := htx
                      have w1 : IntKind.i64.wrap ((tx : Int) + 1 - 1) = (tx : Int) := by rw [IntKind.wrap_i64]; omega
                      clear hx hx1 hx2 hx3 hx4 hcx hcy htx mj oj lj hlt hj
                      go_wp2_with fail
                      go_quiet ((go_at_call 30; exact Calls.quiet_of_same (HQ.out _)))
                      clear w1
                      go_wp2_with fail
                      go_roundw
                      case rel => exact ⟨j + 1, by simp, LT.out, MJ.out.still (Fr.drewN (Fr.refl _ _) _), OJ.out.still (Fr.drewN (Fr.refl _ _) _), LJ.out.still (Fr.drewN (Fr.refl _ _) _)⟩
                      case measure => have := LT.out; simp [intOf]; omega
                    · have j1 : (((s1.hold (N % 3) ⟨8 * ((N : Int) / 12), 1000 + (g.length : Int) + 1, g.length + 1⟩).H c).length : Int) ≤ (j : Int) := by omega
                      have MJ := Lib.hid mj
                      have LJ := Lib.hid lj
                      clear hlt hj mj oj lj
                      go_wp2_with fail
                      go_roundw
                      case rel => first | exact ⟨c + 1, by simp, by have := HC.out; omega, MJ.out, LJ.out⟩ | ((repeat apply Exists.intro); exact ⟨⟨c + 1, (show Value.int .i64 ((c : Int) + 1) = .int .i64 ((c + 1 : Nat) : Int) by simp), by have := HC.out; omega, MJ.out, LJ.out⟩, rfl⟩)
                      case measure => have := HC.out; simp [intOf]; omega
                · have C8 := LDH.out _ _ h0
                  rw [show ((t + 1 : Nat) : Int) = (t : Int) + 1 by omega] at C8
                  have C8H := Lib.hid C8
                  have htl : t < (g.length + 1) := by rw [← GLN.out]; exact (List.getElem?_eq_some_iff.1 h1).1
                  have H1 := Lib.hid h1
                  have H2 := Lib.hid h2
                  have t0 : (0 : Int) ≤ (t : Int) := by omega
                  have tn : (t : Int) < ((g.length : Int) + 1) := by have := GLE.out; omega
                  clear h0 h1 h2 C8
                  go_wp2_with fail
                  refine C8H.out.mono ?_
                  rintro e6 w6 ⟨rfl, m6, f6⟩
                  obtain ⟨gz, oz, cca, hva, hlea, _, _, hca, _⟩ := (LC.out.still f6).win.form (by omega)
                  cases hva
                  have ct : w6.cell? ⟨ga, off2 + t, none⟩ = some (.int .u64 (8 * (Kw : Int))) := by have := hca _ _ (ads_get H1.out); rw [H2.out] at this; exact this
                  have tl2 : t < (g.length + 1) := htl
                  clear hca
                  have M6 := Lib.hid m6
                  have L6 := Lib.hid (LC.out.still f6)
                  have HE := Lib.hid (m6.held c (c := (c : Int)) rfl (by rw [T2.out.c]; exact HC.out) (by have := T2.out.good.held HC.out; have := HD.out; omega))
                  clear m6 f6
                  go_wp2_with fail
                  refine HE.out.mono ?_
                  rintro e7 w7 ⟨hv7, rfl, m7, f7, o7, _⟩
                  obtain ⟨ha7, hc7, hh7, hl7, _, _⟩ := o7.win.shape
                  rw [hh7] at o7
                  rw [hh7]
                  have M7 := Lib.hid m7
                  have O7 := Lib.hid o7
                  have L7 := Lib.hid (L6.out.still f7)
                  clear m7 f7 o7 hh7 hl7 HE
                  have h7l : (((s1.hold (N % 3) ⟨8 * ((N : Int) / 12), 1000 + (g.length : Int) + 1, g.length + 1⟩).H c).length : Int) ≤ 7 := by have := T2.out.good.held HC.out; have := HD.out; omega
                  go_wp2_with fail
                  go_loopw [20] (fun i wr3 => ∃ j : Nat, i = .int .i64 (j : Int) ∧ j ≤ ((s1.hold (N % 3) ⟨8 * ((N : Int) / 12), 1000 + (g.length : Int) + 1, g.length + 1⟩).H c).length ∧ Mine wa b q2 (s1.hold (N % 3) ⟨8 * ((N : Int) / 12), 1000 + (g.length : Int) + 1, g.length + 1⟩) wr3 ∧ Own wa q2 (s1.hold (N % 3) ⟨8 * ((N : Int) / 12), 1000 + (g.length : Int) + 1, g.length + 1⟩) (.slice ha7 ((s1.hold (N % 3) ⟨8 * ((N : Int) / 12), 1000 + (g.length : Int) + 1, g.length + 1⟩).H c).length hc7) ((s1.hold (N % 3) ⟨8 * ((N : Int) / 12), 1000 + (g.length : Int) + 1, g.length + 1⟩).H c) wr3 ∧ LocW wa q2 (s1.hold (N % 3) ⟨8 * ((N : Int) / 12), 1000 + (g.length : Int) + 1, g.length + 1⟩) (.slice (some ⟨ga, off2, none⟩) (g.length + 1) acp2) (g.length + 1) (ads (g ++ [(⟨N % 3, N / 12, 1000 + (g.length : Int) + 1⟩ : G)])) wr3) (fun i _ => ((s1.hold (N % 3) ⟨8 * ((N : Int) / 12), 1000 + (g.length : Int) + 1, g.length + 1⟩).H c).length - (intOf i).toNat)
                  case atStart => exact ⟨0, rfl, by omega, M7.out, O7.out, L7.out⟩
                  case round =>
                    obtain ⟨j, rfl, hj, mj, oj, lj⟩ := hrel
                    by_cases hlt : j < ((s1.hold (N % 3) ⟨8 * ((N : Int) / 12), 1000 + (g.length : Int) + 1, g.length + 1⟩).H c).length
                    · obtain ⟨x, hx⟩ : ∃ x, ((s1.hold (N % 3) ⟨8 * ((N : Int) / 12), 1000 + (g.length : Int) + 1, g.length + 1⟩).H c)[j]? = some x := ⟨_, List.getElem?_eq_getElem hlt⟩
                      obtain ⟨tx, ex, hx1, hx2, hx3, hx4⟩ := T2.out.heldx HC.out (List.mem_of_getElem? hx)
                      obtain ⟨gx, ox, ccx, hvx, _, _, _, hcx, _⟩ := oj.win.form (by omega)
                      have htx : tx < (g.length + 1) := by rw [← GLN.out]; exact (List.getElem?_eq_some_iff.1 hx3).1
                      obtain ⟨gy, oy, ccy, hvy, hley, _, _, hcy, _⟩ := lj.win.form (by omega)
                      cases hvx
                      cases hvy
                      have e0 : wr.cell? ⟨gx, ox + j * 3, none⟩ = some (.int .u64 (8 * (ex.k : Int))) := by rw [← hx4]; exact hcx _ _ (lcs_get hx (j := 0) (by omega))
                      have e2 : wr.cell? ⟨gx, ox + j * 3 + 2, none⟩ = some (.int .i64 ((tx : Int) + 1)) := by rw [Nat.add_assoc, show (tx : Int) + 1 = (x.t : Int) by omega]; exact hcx _ _ (lcs_get hx (j := 2) (by omega))
                      have e3 : wr.cell? ⟨ga, off2 + tx, none⟩ = some (.int .u64 (8 * (ex.k : Int))) := hcy _ _ (ads_get hx3)
                      have HQ := Lib.hid (fun n => mj.stampQ (tx + 1) 0 (c := (tx : Int) + 1) (by omega) (by have := T2.out.good.st; have := HK.out; omega) (by omega) hx2 n)
                      have MJ := Lib.hid mj
                      have OJ := Lib.hid oj
                      have LJ := Lib.hid lj
                      have LT := Lib.hid hlt
                      have j0 : (0 : Int) ≤ (j : Int) := by omega
                      have j1 : (j : Int) < (((s1.hold (N % 3) ⟨8 * ((N : Int) / 12), 1000 + (g.length : Int) + 1, g.length + 1⟩).H c).length : Int) := by omega
                      have t0x : (0 : Int) ≤ (tx : Int) := by omega
                      have tnx : (tx : Int) < ((g.length : Int) + 1) := by have := GLE.out; omega
                      have tnx2 : tx < (g.length + 1) := htx
                      have w1 : IntKind.i64.wrap ((tx : Int) + 1 - 1) = (tx : Int) := by rw [IntKind.wrap_i64]; omega
                      clear hx hx1 hx2 hx3 hx4 hcx hcy htx mj oj lj hlt hj
                      go_wp2_with fail
                      go_quiet ((go_at_call 30; exact Calls.quiet_of_same (HQ.out _)))
                      clear w1
                      go_wp2_with fail
                      go_roundw
                      case rel => exact ⟨j + 1, by simp, LT.out, MJ.out.still (Fr.drewN (Fr.refl _ _) _), OJ.out.still (Fr.drewN (Fr.refl _ _) _), LJ.out.still (Fr.drewN (Fr.refl _ _) _)⟩
                      case measure => have := LT.out; simp [intOf]; omega
                    · have j1 : (((s1.hold (N % 3) ⟨8 * ((N : Int) / 12), 1000 + (g.length : Int) + 1, g.length + 1⟩).H c).length : Int) ≤ (j : Int) := by omega
                      have MJ := Lib.hid mj
                      have LJ := Lib.hid lj
                      clear hlt hj mj oj lj
                      go_wp2_with fail
                      go_roundw
                      case rel => first | exact ⟨c + 1, by simp, by have := HC.out; omega, MJ.out, LJ.out⟩ | ((repeat apply Exists.intro); exact ⟨⟨c + 1, (show Value.int .i64 ((c : Int) + 1) = .int .i64 ((c + 1 : Nat) : Int) by simp), by have := HC.out; omega, MJ.out, LJ.out⟩, rfl⟩)
                      case measure => have := HC.out; simp [intOf]; omega
              · have c3 : (3 : Int) ≤ (c : Int) := by omega
                clear hc hc3
                go_wp2_with fail
                go_roundw
                case rel => first | exact ⟨k + 1, q2, s1.hold (N % 3) ⟨8 * ((N : Int) / 12), 1000 + (g.length : Int) + 1, g.length + 1⟩, g ++ [(⟨N % 3, N / 12, 1000 + (g.length : Int) + 1⟩ : G)], by simp, HJ2.out.1, HJ2.out.2, MC.out, T2.out, (by rw [GLN.out]; exact LC.out)⟩ | ((repeat apply Exists.intro); exact ⟨⟨k + 1, q2, s1.hold (N % 3) ⟨8 * ((N : Int) / 12), 1000 + (g.length : Int) + 1, g.length + 1⟩, g ++ [(⟨N % 3, N / 12, 1000 + (g.length : Int) + 1⟩ : G)], (show Value.int .i64 ((k : Int) + 1) = .int .i64 ((k + 1 : Nat) : Int) by simp), HJ2.out.1, HJ2.out.2, MC.out, T2.out, (by rw [GLN.out]; exact LC.out)⟩, rfl⟩)
                case measure => have := HK.out; simp [intOf]; omega
          · have heq : (s1.H (N % 3)).length = 1 + D0 := by omega
            have SR := Lib.hid (MN.out.full (N % 3) (N / 12) (c := (N : Int) % 3) (a := 8 * ((N : Int) / 12)) (v := 1000 + (g.length : Int) + 1) (by omega) (by omega) (by rw [TL.out.c]; exact hi3) (by rw [TL.out.n]; have := HN36.out; omega) (by rw [TL.out.n]; omega) (by rw [TL.out.d]; exact heq))
            clear hh hge heq
            go_wp2_with fail
            refine (PK.out _).mono ?_
            rintro e w2 ⟨rfl, rfl⟩
            go_wp2_with fail
            refine SR.out.mono ?_
            rintro e w3 ⟨rfl, m2, f2⟩
            have M2 := Lib.hid m2
            have T2 := Lib.hid TL.out.up
            have L2 := Lib.hid (LW.out.still f2)
            have J2 : k + 1 ≤ 150 ∧ k + 1 ≤ len := by have := HK.out; omega
            have HJ2 := Lib.hid J2
            clear m2 f2 J2 h3
            have gle : ((g).length : Int) = (g.length : Int) := by simp
            have gln : (g).length = g.length := by simp
            have GLE := Lib.hid gle
            have GLN := Lib.hid gln
            clear gle gln
            go_wp2_with fail
            go_loopw [14] (fun i wr2 => ∃ c : Nat, i = .int .i64 (c : Int) ∧ c ≤ 3 ∧ Mine wa b q1 (s1) wr2 ∧ LocW wa q1 (s1) (.slice aa g.length acp) g.length (ads (g)) wr2) (fun i _ => 3 - (intOf i).toNat)
            case atStart => exact ⟨0, rfl, by omega, M2.out, L2.out⟩
            case round =>
              obtain ⟨c, rfl, hc3, mc, lc⟩ := hrel
              have MC := Lib.hid mc
              have LC := Lib.hid lc
              clear mc lc
              by_cases hc : c < 3
              · have HC := Lib.hid hc
                have HWI := HKW.out
                have c0 : (0 : Int) ≤ (c : Int) := by omega
                have c3 : (c : Int) < 3 := by omega
                have LD := fun x t h => MC.out.load c Kw (c := (c : Int)) (a := 8 * (Kw : Int)) (x := x) (t := t) rfl rfl (by rw [T2.out.c]; exact HC.out) (by rw [T2.out.n]; exact HKW4.out) (by rw [T2.out.n]; decide) (by have := T2.out.good.held HC.out; have := HD.out; omega) h
                have LDH := Lib.hid LD
                clear LD hc hc3
                rcases T2.out.load c Kw HC.out HKW4.out with h0 | ⟨t, e, h0, h1, h2⟩
                · have C8 := Lib.hid (LDH.out _ _ h0)
                  clear h0
                  go_wp2_with fail
                  refine C8.out.mono ?_
                  rintro e w6 ⟨rfl, m6, f6⟩
                  have M6 := Lib.hid m6
                  have L6 := Lib.hid (LC.out.still f6)
                  have HE := Lib.hid (m6.held c (c := (c : Int)) rfl (by rw [T2.out.c]; exact HC.out) (by have := T2.out.good.held HC.out; have := HD.out; omega))
                  clear m6 f6
                  go_wp2_with fail
                  refine HE.out.mono ?_
                  rintro e7 w7 ⟨hv7, rfl, m7, f7, o7, _⟩
                  obtain ⟨ha7, hc7, hh7, hl7, _, _⟩ := o7.win.shape
                  rw [hh7] at o7
                  rw [hh7]
                  have M7 := Lib.hid m7
                  have O7 := Lib.hid o7
                  have L7 := Lib.hid (L6.out.still f7)
                  clear m7 f7 o7 hh7 hl7 HE
                  have h7l : (((s1).H c).length : Int) ≤ 7 := by have := T2.out.good.held HC.out; have := HD.out; omega
                  go_wp2_with fail
                  go_loopw [20] (fun i wr3 => ∃ j : Nat, i = .int .i64 (j : Int) ∧ j ≤ ((s1).H c).length ∧ Mine wa b q1 (s1) wr3 ∧ Own wa q1 (s1) (.slice ha7 ((s1).H c).length hc7) ((s1).H c) wr3 ∧ LocW wa q1 (s1) (.slice aa g.length acp) g.length (ads (g)) wr3) (fun i _ => ((s1).H c).length - (intOf i).toNat)
                  case atStart => exact ⟨0, rfl, by omega, M7.out, O7.out, L7.out⟩
                  case round =>
                    obtain ⟨j, rfl, hj, mj, oj, lj⟩ := hrel
                    by_cases hlt : j < ((s1).H c).length
                    · obtain ⟨x, hx⟩ : ∃ x, ((s1).H c)[j]? = some x := ⟨_, List.getElem?_eq_getElem hlt⟩
                      obtain ⟨tx, ex, hx1, hx2, hx3, hx4⟩ := T2.out.heldx HC.out (List.mem_of_getElem? hx)
                      obtain ⟨gx, ox, ccx, hvx, _, _, _, hcx, _⟩ := oj.win.form (by omega)
                      have htx : tx < g.length := by exact (List.getElem?_eq_some_iff.1 hx3).1
                      obtain ⟨gy, oy, ccy, hvy, hley, _, _, hcy, _⟩ := lj.win.form (by omega)
                      cases hvx
                      cases hvy
                      have e0 : wr.cell? ⟨gx, ox + j * 3, none⟩ = some (.int .u64 (8 * (ex.k : Int))) := by rw [← hx4]; exact hcx _ _ (lcs_get hx (j := 0) (by omega))
                      have e2 : wr.cell? ⟨gx, ox + j * 3 + 2, none⟩ = some (.int .i64 ((tx : Int) + 1)) := by rw [Nat.add_assoc, show (tx : Int) + 1 = (x.t : Int) by omega]; exact hcx _ _ (lcs_get hx (j := 2) (by omega))
                      have e3 : wr.cell? ⟨gy, oy + tx, none⟩ = some (.int .u64 (8 * (ex.k : Int))) := hcy _ _ (ads_get hx3)
                      have HQ := Lib.hid (fun n => mj.stampQ (tx + 1) 0 (c := (tx : Int) + 1) (by omega) (by have := T2.out.good.st; have := HK.out; omega) (by omega) hx2 n)
                      have MJ := Lib.hid mj
                      have OJ := Lib.hid oj
                      have LJ := Lib.hid lj
                      have LT := Lib.hid hlt
                      have j0 : (0 : Int) ≤ (j : Int) := by omega
                      have j1 : (j : Int) < (((s1).H c).length : Int) := by omega
                      have t0x : (0 : Int) ≤ (tx : Int) := by omega
                      have tnx : (tx : Int) < (g.length : Int) := by have := GLE.out; omega
                      have tnx2 : tx < g.length := htx
                      have w1 : IntKind.i64.wrap ((tx : Int) + 1 - 1) = (tx : Int) := by rw [IntKind.wrap_i64]; omega
                      clear hx hx1 hx2 hx3 hx4 hcx hcy htx mj oj lj hlt hj
                      go_wp2_with fail
                      go_quiet ((go_at_call 30; exact Calls.quiet_of_same (HQ.out _)))
                      clear w1
                      go_wp2_with fail
                      go_roundw
                      case rel => exact ⟨j + 1, by simp, LT.out, MJ.out.still (Fr.drewN (Fr.refl _ _) _), OJ.out.still (Fr.drewN (Fr.refl _ _) _), LJ.out.still (Fr.drewN (Fr.refl _ _) _)⟩
                      case measure => have := LT.out; simp [intOf]; omega
                    · have j1 : (((s1).H c).length : Int) ≤ (j : Int) := by omega
                      have MJ := Lib.hid mj
                      have LJ := Lib.hid lj
                      clear hlt hj mj oj lj
                      go_wp2_with fail
                      go_roundw
                      case rel => first | exact ⟨c + 1, by simp, by have := HC.out; omega, MJ.out, LJ.out⟩ | ((repeat apply Exists.intro); exact ⟨⟨c + 1, (show Value.int .i64 ((c : Int) + 1) = .int .i64 ((c + 1 : Nat) : Int) by simp), by have := HC.out; omega, MJ.out, LJ.out⟩, rfl⟩)
                      case measure => have := HC.out; simp [intOf]; omega
                · have C8 := LDH.out _ _ h0
                  rw [show ((t + 1 : Nat) : Int) = (t : Int) + 1 by omega] at C8
                  have C8H := Lib.hid C8
                  have htl : t < g.length := by exact (List.getElem?_eq_some_iff.1 h1).1
                  have H1 := Lib.hid h1
                  have H2 := Lib.hid h2
                  have t0 : (0 : Int) ≤ (t : Int) := by omega
                  have tn : (t : Int) < (g.length : Int) := by have := GLE.out; omega
                  clear h0 h1 h2 C8
                  go_wp2_with fail
                  refine C8H.out.mono ?_
                  rintro e6 w6 ⟨rfl, m6, f6⟩
                  obtain ⟨gz, oz, cca, hva, hlea, _, _, hca, _⟩ := (LC.out.still f6).win.form (by omega)
                  cases hva
                  have ct : w6.cell? ⟨gz, oz + t, none⟩ = some (.int .u64 (8 * (Kw : Int))) := by have := hca _ _ (ads_get H1.out); rw [H2.out] at this; exact this
                  have tl2 : t < g.length := htl
                  clear hca
                  have M6 := Lib.hid m6
                  have L6 := Lib.hid (LC.out.still f6)
                  have HE := Lib.hid (m6.held c (c := (c : Int)) rfl (by rw [T2.out.c]; exact HC.out) (by have := T2.out.good.held HC.out; have := HD.out; omega))
                  clear m6 f6
                  go_wp2_with fail
                  refine HE.out.mono ?_
                  rintro e7 w7 ⟨hv7, rfl, m7, f7, o7, _⟩
                  obtain ⟨ha7, hc7, hh7, hl7, _, _⟩ := o7.win.shape
                  rw [hh7] at o7
                  rw [hh7]
                  have M7 := Lib.hid m7
                  have O7 := Lib.hid o7
                  have L7 := Lib.hid (L6.out.still f7)
                  clear m7 f7 o7 hh7 hl7 HE
                  have h7l : (((s1).H c).length : Int) ≤ 7 := by have := T2.out.good.held HC.out; have := HD.out; omega
                  go_wp2_with fail
                  go_loopw [20] (fun i wr3 => ∃ j : Nat, i = .int .i64 (j : Int) ∧ j ≤ ((s1).H c).length ∧ Mine wa b q1 (s1) wr3 ∧ Own wa q1 (s1) (.slice ha7 ((s1).H c).length hc7) ((s1).H c) wr3 ∧ LocW wa q1 (s1) (.slice (some ⟨gz, oz, none⟩) g.length acp) g.length (ads (g)) wr3) (fun i _ => ((s1).H c).length - (intOf i).toNat)
                  case atStart => exact ⟨0, rfl, by omega, M7.out, O7.out, L7.out⟩
                  case round =>
                    obtain ⟨j, rfl, hj, mj, oj, lj⟩ := hrel
                    by_cases hlt : j < ((s1).H c).length
                    · obtain ⟨x, hx⟩ : ∃ x, ((s1).H c)[j]? = some x := ⟨_, List.getElem?_eq_getElem hlt⟩
                      obtain ⟨tx, ex, hx1, hx2, hx3, hx4⟩ := T2.out.heldx HC.out (List.mem_of_getElem? hx)
                      obtain ⟨gx, ox, ccx, hvx, _, _, _, hcx, _⟩ := oj.win.form (by omega)
                      have htx : tx < g.length := by exact (List.getElem?_eq_some_iff.1 hx3).1
                      obtain ⟨gy, oy, ccy, hvy, hley, _, _, hcy, _⟩ := lj.win.form (by omega)
                      cases hvx
                      cases hvy
                      have e0 : wr.cell? ⟨gx, ox + j * 3, none⟩ = some (.int .u64 (8 * (ex.k : Int))) := by rw [← hx4]; exact hcx _ _ (lcs_get hx (j := 0) (by omega))
                      have e2 : wr.cell? ⟨gx, ox + j * 3 + 2, none⟩ = some (.int .i64 ((tx : Int) + 1)) := by rw [Nat.add_assoc, show (tx : Int) + 1 = (x.t : Int) by omega]; exact hcx _ _ (lcs_get hx (j := 2) (by omega))
                      have e3 : wr.cell? ⟨gz, oz + tx, none⟩ = some (.int .u64 (8 * (ex.k : Int))) := hcy _ _ (ads_get hx3)
                      have HQ := Lib.hid (fun n => mj.stampQ (tx + 1) 0 (c := (tx : Int) + 1) (by omega) (by have := T2.out.good.st; have := HK.out; omega) (by omega) hx2 n)
                      have MJ := Lib.hid mj
                      have OJ := Lib.hid oj
                      have LJ := Lib.hid lj
                      have LT := Lib.hid hlt
                      have j0 : (0 : Int) ≤ (j : Int) := by omega
                      have j1 : (j : Int) < (((s1).H c).length : Int) := by omega
                      have t0x : (0 : Int) ≤ (tx : Int) := by omega
                      have tnx : (tx : Int) < (g.length : Int) := by have := GLE.out; omega
                      have tnx2 : tx < g.length := htx
                      have w1 : IntKind.i64.wrap ((tx : Int) + 1 - 1) = (tx : Int) := by rw [IntKind.wrap_i64]; omega
                      clear hx hx1 hx2 hx3 hx4 hcx hcy htx mj oj lj hlt hj
                      go_wp2_with fail
                      go_quiet ((go_at_call 30; exact Calls.quiet_of_same (HQ.out _)))
                      clear w1
                      go_wp2_with fail
                      go_roundw
                      case rel => exact ⟨j + 1, by simp, LT.out, MJ.out.still (Fr.drewN (Fr.refl _ _) _), OJ.out.still (Fr.drewN (Fr.refl _ _) _), LJ.out.still (Fr.drewN (Fr.refl _ _) _)⟩
                      case measure => have := LT.out; simp [intOf]; omega
                    · have j1 : (((s1).H c).length : Int) ≤ (j : Int) := by omega
                      have MJ := Lib.hid mj
                      have LJ := Lib.hid lj
                      clear hlt hj mj oj lj
                      go_wp2_with fail
                      go_roundw
                      case rel => first | exact ⟨c + 1, by simp, by have := HC.out; omega, MJ.out, LJ.out⟩ | ((repeat apply Exists.intro); exact ⟨⟨c + 1, (show Value.int .i64 ((c : Int) + 1) = .int .i64 ((c + 1 : Nat) : Int) by simp), by have := HC.out; omega, MJ.out, LJ.out⟩, rfl⟩)
                      case measure => have := HC.out; simp [intOf]; omega
              · have c3 : (3 : Int) ≤ (c : Int) := by omega
                clear hc hc3
                go_wp2_with fail
                go_roundw
                case rel => first | exact ⟨k + 1, q1, s1, g, by simp, HJ2.out.1, HJ2.out.2, MC.out, T2.out, (by exact LC.out)⟩ | ((repeat apply Exists.intro); exact ⟨⟨k + 1, q1, s1, g, (show Value.int .i64 ((k : Int) + 1) = .int .i64 ((k + 1 : Nat) : Int) by simp), HJ2.out.1, HJ2.out.2, MC.out, T2.out, (by exact LC.out)⟩, rfl⟩)
                case measure => have := HK.out; simp [intOf]; omega
      · have k2 : (k : Int) < (len : Int) := by omega
        have k3 : (150 : Int) ≤ (k : Int) := by omega
        clear hk150
        have HL3 := Lib.hid hk1
        clear hkl
        go_wp2_with fail
        go_loopw [21, 22] (fun nn t wr2 => ∃ T : Nat, t = .int .i64 (T : Int) ∧ 1 ≤ T ∧ T ≤ g.length + 1 ∧ nn = .int .i64 ((zs s1.st T : Int) - 1) ∧ Mine wa b q1 s1 wr2) (fun _ t _ => g.length + 1 - (intOf t).toNat)
        case atStart =>
          refine ⟨1, rfl, by omega, by omega, ?_, MN.out⟩
          have h0 := zs_next (st := s1.st) TL.out.ok.st0
          have : zs s1.st 1 = 1 := by rw [h0]; simp [zs]
          rw [this]; rfl
        case round =>
          obtain ⟨T, rfl, hT1, hT2, rfl, mt⟩ := hrel
          have MT := Lib.hid mt
          by_cases hlt : T < g.length + 1
          · obtain ⟨x, hx⟩ : ∃ x, s1.st[T]? = some x := ⟨_, List.getElem?_eq_getElem (by rw [TL.out.ok.len]; exact hlt)⟩
            have C7 := Lib.hid (mt.stamp T x (c := (T : Int)) rfl (by have := TL.out.good.st; omega) hT1 hx)
            have ZN := Lib.hid (zs_next hx)
            have LT := Lib.hid hlt
            have T0 : (1 : Int) ≤ (T : Int) := by omega
            have T1 : (T : Int) ≤ (g.length : Int) := by omega
            have T2 : decide (T ≤ g.length) = true := by simp; omega
            have zb : (zs s1.st T : Int) ≤ 200 := by
              have h1 : zs s1.st T ≤ (s1.st.take T).length := List.count_le_length
              have h2 : (s1.st.take T).length ≤ T := List.length_take_le _ _
              omega
            have zb0 : (0 : Int) ≤ (zs s1.st T : Int) := by omega
            clear hx hlt hT1 hT2 mt
            generalize hzz : zs s1.st T = zz at *
            have HZ := Lib.hid hzz
            clear hzz
            by_cases hx0 : x = 0
            · subst hx0
              go_wp2_with fail
              refine C7.out.mono ?_
              rintro e w7 ⟨rfl, m7, _⟩
              have M7 := Lib.hid m7
              clear m7 C7
              go_wp2_with fail
              go_roundw
              case rel => exact ⟨T + 1, by simp, by omega, LT.out, by rw [ZN.out]; simp <;> omega, M7.out⟩
              case measure => have := LT.out; simp [intOf]; omega
            · have xb : ((x : Int) == 0) = false := by simp; omega
              have HX0 := Lib.hid hx0
              clear hx0
              go_wp2_with fail
              refine C7.out.mono ?_
              rintro e w7 ⟨rfl, m7, _⟩
              have M7 := Lib.hid m7
              clear m7 C7
              go_wp2_with fail
              go_roundw
              case rel => exact ⟨T + 1, by simp, by omega, LT.out, by rw [ZN.out, if_neg HX0.out]; rfl, M7.out⟩
              case measure => have := LT.out; simp [intOf]; omega
          · have hTe : T = g.length + 1 := by omega
            subst hTe
            have hz : zs s1.st (g.length + 1) = (s1.H 0).length + (s1.H 1).length + (s1.H 2).length + 1 := by
              unfold zs
              rw [List.take_of_length_le (by rw [TL.out.ok.len]; omega), TL.out.cn.zero, TL.out.c]
              simp [tot]
            have ha := TL.out.cn.all
            rw [TL.out.c] at ha
            simp [tot] at ha
            rw [hz]
            have HE := Lib.hid (fun c hc w' (h : Mine wa b q1 s1 w') (z : Int) hz => h.held c (c := z) hz (by rw [TL.out.c]; exact hc) (by have := TL.out.good.held hc; have := HD.out; omega))
            have OR := Lib.hid (fun w' (h : Mine wa b q1 s1 w') => h.order (by have := TL.out.good.od; omega))
            have TK := Lib.hid (fun w' (h : Mine wa b q1 s1 w') => h.ticketsN g.length TL.out.ok.len (by have := TL.out.len; omega))
            have b0 := TL.out.good.held (i := 0) (by omega)
            have b1 := TL.out.good.held (i := 1) (by omega)
            have b2 := TL.out.good.held (i := 2) (by omega)
            have HA := Lib.hid ha
            have b3 := HD.out
            generalize hh0 : (s1.H 0).length = h0 at *
            generalize hh1 : (s1.H 1).length = h1 at *
            generalize hh2 : (s1.H 2).length = h2 at *
            generalize hho : s1.od.length = ho at *
            have e0 : (h0 : Int) ≤ 7 := by omega
            have e1 : (h1 : Int) ≤ 7 := by omega
            have e2 : (h2 : Int) ≤ 7 := by omega
            have eo : (ho : Int) ≤ 200 := by have := HA.out; have := TL.out.len; omega
            have G0 := Lib.hid hh0
            have G1 := Lib.hid hh1
            have G2 := Lib.hid hh2
            have GO := Lib.hid hho
            clear hz ha b0 b1 b2 b3 hlt hT1 hT2 mt hh0 hh1 hh2 hho
            rw [show (((h0 + h1 + h2 + 1 : Nat) : Int) - 1) = (h0 : Int) + (h1 : Int) + (h2 : Int) by omega]
            have hla : (g.length : Int) < ((g.length + 1 : Nat) : Int) := by omega
            go_wp2_with fail
            refine (HE.out 0 (by omega) _ MT.out 0 rfl).mono ?_
            rintro e v0 ⟨x0, rfl, m0, _, ox0, _⟩
            obtain ⟨xa0, xc0, hx0, _, _, _⟩ := ox0.win.shape
            rw [G0.out] at hx0
            rw [hx0]
            clear hx0 ox0
            have N0 := Lib.hid m0
            clear m0
            go_wp2_with fail
            refine (HE.out 1 (by omega) _ N0.out 1 rfl).mono ?_
            rintro e v1 ⟨x1, rfl, m0, _, ox0, _⟩
            obtain ⟨xa1, xc1, hx0, _, _, _⟩ := ox0.win.shape
            rw [G1.out] at hx0
            rw [hx0]
            clear hx0 ox0
            have N1 := Lib.hid m0
            clear m0
            go_wp2_with fail
            refine (HE.out 2 (by omega) _ N1.out 2 rfl).mono ?_
            rintro e v2 ⟨x2, rfl, m0, _, ox0, _⟩
            obtain ⟨xa2, xc2, hx0, _, _, _⟩ := ox0.win.shape
            rw [G2.out] at hx0
            rw [hx0]
            clear hx0 ox0
            have N2 := Lib.hid m0
            clear m0
            go_wp2_with fail
            refine (OR.out _ N2.out).mono ?_
            rintro e v3 ⟨x3, rfl, m0, _, ox0, _⟩
            obtain ⟨xa3, xc3, hx0, _, _, _⟩ := ox0.shape
            rw [GO.out] at hx0
            rw [hx0]
            clear hx0 ox0
            have N3 := Lib.hid m0
            clear m0
            go_wp2_with fail
            refine (TK.out _ N3.out).mono ?_
            rintro e v4 ⟨rfl, m4, _⟩
            have MF := Lib.hid m4.fr
            clear m4
            have efin : ((ho : Int) + ((h0 : Int) + (h1 : Int) + (h2 : Int)) == (g.length : Int)) = true := by have := HA.out; simp; omega
            go_wp2_with fail
            go_ret
            exact ⟨by simp, (F0.out.trans MF.out).bel⟩
    · have k2 : (len : Int) ≤ (k : Int) := by omega
      have HL3 := Lib.hid hk1
      clear hkl
      go_wp2_with fail
      go_loopw [21, 22] (fun nn t wr2 => ∃ T : Nat, t = .int .i64 (T : Int) ∧ 1 ≤ T ∧ T ≤ g.length + 1 ∧ nn = .int .i64 ((zs s1.st T : Int) - 1) ∧ Mine wa b q1 s1 wr2) (fun _ t _ => g.length + 1 - (intOf t).toNat)
      case atStart =>
        refine ⟨1, rfl, by omega, by omega, ?_, MN.out⟩
        have h0 := zs_next (st := s1.st) TL.out.ok.st0
        have : zs s1.st 1 = 1 := by rw [h0]; simp [zs]
        rw [this]; rfl
      case round =>
        obtain ⟨T, rfl, hT1, hT2, rfl, mt⟩ := hrel
        have MT := Lib.hid mt
        by_cases hlt : T < g.length + 1
        · obtain ⟨x, hx⟩ : ∃ x, s1.st[T]? = some x := ⟨_, List.getElem?_eq_getElem (by rw [TL.out.ok.len]; exact hlt)⟩
          have C7 := Lib.hid (mt.stamp T x (c := (T : Int)) rfl (by have := TL.out.good.st; omega) hT1 hx)
          have ZN := Lib.hid (zs_next hx)
          have LT := Lib.hid hlt
          have T0 : (1 : Int) ≤ (T : Int) := by omega
          have T1 : (T : Int) ≤ (g.length : Int) := by omega
          have T2 : decide (T ≤ g.length) = true := by simp; omega
          have zb : (zs s1.st T : Int) ≤ 200 := by
            have h1 : zs s1.st T ≤ (s1.st.take T).length := List.count_le_length
            have h2 : (s1.st.take T).length ≤ T := List.length_take_le _ _
            omega
          have zb0 : (0 : Int) ≤ (zs s1.st T : Int) := by omega
          clear hx hlt hT1 hT2 mt
          generalize hzz : zs s1.st T = zz at *
          have HZ := Lib.hid hzz
          clear hzz
          by_cases hx0 : x = 0
          · subst hx0
            go_wp2_with fail
            refine C7.out.mono ?_
            rintro e w7 ⟨rfl, m7, _⟩
            have M7 := Lib.hid m7
            clear m7 C7
            go_wp2_with fail
            go_roundw
            case rel => exact ⟨T + 1, by simp, by omega, LT.out, by rw [ZN.out]; simp <;> omega, M7.out⟩
            case measure => have := LT.out; simp [intOf]; omega
          · have xb : ((x : Int) == 0) = false := by simp; omega
            have HX0 := Lib.hid hx0
            clear hx0
            go_wp2_with fail
            refine C7.out.mono ?_
            rintro e w7 ⟨rfl, m7, _⟩
            have M7 := Lib.hid m7
            clear m7 C7
            go_wp2_with fail
            go_roundw
            case rel => exact ⟨T + 1, by simp, by omega, LT.out, by rw [ZN.out, if_neg HX0.out]; rfl, M7.out⟩
            case measure => have := LT.out; simp [intOf]; omega
        · have hTe : T = g.length + 1 := by omega
          subst hTe
          have hz : zs s1.st (g.length + 1) = (s1.H 0).length + (s1.H 1).length + (s1.H 2).length + 1 := by
            unfold zs
            rw [List.take_of_length_le (by rw [TL.out.ok.len]; omega), TL.out.cn.zero, TL.out.c]
            simp [tot]
          have ha := TL.out.cn.all
          rw [TL.out.c] at ha
          simp [tot] at ha
          rw [hz]
          have HE := Lib.hid (fun c hc w' (h : Mine wa b q1 s1 w') (z : Int) hz => h.held c (c := z) hz (by rw [TL.out.c]; exact hc) (by have := TL.out.good.held hc; have := HD.out; omega))
          have OR := Lib.hid (fun w' (h : Mine wa b q1 s1 w') => h.order (by have := TL.out.good.od; omega))
          have TK := Lib.hid (fun w' (h : Mine wa b q1 s1 w') => h.ticketsN g.length TL.out.ok.len (by have := TL.out.len; omega))
          have b0 := TL.out.good.held (i := 0) (by omega)
          have b1 := TL.out.good.held (i := 1) (by omega)
          have b2 := TL.out.good.held (i := 2) (by omega)
          have HA := Lib.hid ha
          have b3 := HD.out
          generalize hh0 : (s1.H 0).length = h0 at *
          generalize hh1 : (s1.H 1).length = h1 at *
          generalize hh2 : (s1.H 2).length = h2 at *
          generalize hho : s1.od.length = ho at *
          have e0 : (h0 : Int) ≤ 7 := by omega
          have e1 : (h1 : Int) ≤ 7 := by omega
          have e2 : (h2 : Int) ≤ 7 := by omega
          have eo : (ho : Int) ≤ 200 := by have := HA.out; have := TL.out.len; omega
          have G0 := Lib.hid hh0
          have G1 := Lib.hid hh1
          have G2 := Lib.hid hh2
          have GO := Lib.hid hho
          clear hz ha b0 b1 b2 b3 hlt hT1 hT2 mt hh0 hh1 hh2 hho
          rw [show (((h0 + h1 + h2 + 1 : Nat) : Int) - 1) = (h0 : Int) + (h1 : Int) + (h2 : Int) by omega]
          have hla : (g.length : Int) < ((g.length + 1 : Nat) : Int) := by omega
          go_wp2_with fail
          refine (HE.out 0 (by omega) _ MT.out 0 rfl).mono ?_
          rintro e v0 ⟨x0, rfl, m0, _, ox0, _⟩
          obtain ⟨xa0, xc0, hx0, _, _, _⟩ := ox0.win.shape
          rw [G0.out] at hx0
          rw [hx0]
          clear hx0 ox0
          have N0 := Lib.hid m0
          clear m0
          go_wp2_with fail
          refine (HE.out 1 (by omega) _ N0.out 1 rfl).mono ?_
          rintro e v1 ⟨x1, rfl, m0, _, ox0, _⟩
          obtain ⟨xa1, xc1, hx0, _, _, _⟩ := ox0.win.shape
          rw [G1.out] at hx0
          rw [hx0]
          clear hx0 ox0
          have N1 := Lib.hid m0
          clear m0
          go_wp2_with fail
          refine (HE.out 2 (by omega) _ N1.out 2 rfl).mono ?_
          rintro e v2 ⟨x2, rfl, m0, _, ox0, _⟩
          obtain ⟨xa2, xc2, hx0, _, _, _⟩ := ox0.win.shape
          rw [G2.out] at hx0
          rw [hx0]
          clear hx0 ox0
          have N2 := Lib.hid m0
          clear m0
          go_wp2_with fail
          refine (OR.out _ N2.out).mono ?_
          rintro e v3 ⟨x3, rfl, m0, _, ox0, _⟩
          obtain ⟨xa3, xc3, hx0, _, _, _⟩ := ox0.shape
          rw [GO.out] at hx0
          rw [hx0]
          clear hx0 ox0
          have N3 := Lib.hid m0
          clear m0
          go_wp2_with fail
          refine (TK.out _ N3.out).mono ?_
          rintro e v4 ⟨rfl, m4, _⟩
          have MF := Lib.hid m4.fr
          clear m4
          have efin : ((ho : Int) + ((h0 : Int) + (h1 : Int) + (h2 : Int)) == (g.length : Int)) = true := by have := HA.out; simp; omega
          go_wp2_with fail
          go_ret
          exact ⟨by simp, (F0.out.trans MF.out).bel⟩
end Go.Proofs.Ytjbdbmahbcaniaa
