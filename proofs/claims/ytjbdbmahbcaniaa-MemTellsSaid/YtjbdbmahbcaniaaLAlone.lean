/- MemAlone, walked. -/
import Derived.Test.YtjbdbmahbcaniaaLOwn
namespace Go.Proofs.Ytjbdbmahbcaniaa
open Go.RowKit
set_option linter.unusedVariables false
set_option maxRecDepth 100000

def us (W : Nat → Int) (n : Nat) : Array Value := ((List.range n).map fun i => Value.int .u64 (W i)).toArray
theorem us_get {W : Nat → Int} {n k : Nat} (h : k < n) : (us W n)[k]? = some (.int .u64 (W k)) := by
  simp [us, List.getElem?_map, List.getElem?_range h]
theorem us_set (W : Nat → Int) (n k : Nat) (x : Int) : (us W n).setIfInBounds k (.int .u64 x) = us (upd W k x) n := by
  have h := map_range_set (fun i => Value.int .u64 (W i)) n k (.int .u64 x)
  unfold us
  rw [h]
  congr 2
  funext i
  by_cases hi : i = k
  · subst hi; simp [upd]
  · simp [upd, hi]
theorem Mine.setLoc {w w1 : World} {b : Nat} {q : Bs} {s : St} {g : Nat} {t : TypeId} {cs : Array Value} (h : Mine w b q s w1) (l : Loc q s g t cs w1) (hg : w.heap.size ≤ g) (i : Nat) (v : Value) :
    Mine w b q s (w1.setCell ⟨g, i, none⟩ v) ∧ Loc q s g t (cs.setIfInBounds i v) (w1.setCell ⟨g, i, none⟩ v) :=
  ⟨⟨h.b, h.mem.fr ((Fr.refl (One g) w1).set1 v) (fun k hk e => l.away (by rw [← show k = g from e]; exact hk)), h.fr.setNew hg v, h.foot⟩, l.blk.set_ i v, l.away⟩
theorem findL_snoc (l : List L) (x : L) (a : Int) : findL (l ++ [x]) a = if x.a == a then some x else findL l a := by
  unfold findL
  rw [List.reverse_append, List.reverse_singleton, List.singleton_append, List.find?_cons]
  cases x.a == a <;> rfl
theorem findL_cons (x : L) (l : List L) (a : Int) : findL (x :: l) a = (findL l a).or (if x.a == a then some x else none) := by
  unfold findL
  rw [List.reverse_cons, List.find?_append]
  congr 1
  rw [List.find?_cons]
  cases x.a == a <;> rfl
theorem load_hold (s : St) (i k k' : Nat) (x : L) (hx : x.a = 8 * (k : Int)) : (s.hold i x).load i k' = if k' = k then (x.v, x.t) else s.load i k' := by
  have e : (s.hold i x).H i = s.H i ++ [x] := by simp [St.hold, upd_same]
  unfold St.load
  rw [e, findL_snoc]
  by_cases h : k' = k
  · subst h; simp [hx]
  · have : (x.a == 8 * (k' : Int)) = false := by simp [hx]; omega
    simp [this, h]
    rfl
theorem load_drain1 (s : St) (i k' : Nat) (hf : Fine s i) : (s.drain1 i).load i k' = s.load i k' := by
  cases h : s.H i with
  | nil => unfold St.drain1; rw [h]
  | cons x l =>
    rw [drain1_cons h]
    have hx := (hf x (by rw [h]; simp)).2.1
    have e : ((s.pop i l).reach x x.k).H i = l := by simp [St.pop, St.reach, upd_same]
    unfold St.load
    rw [e, h, findL_cons]
    cases hl : findL l (8 * (k' : Int)) with
    | some y => simp
    | none =>
      simp only [Option.none_or]
      by_cases hk : k' = x.k
      · subst hk
        have : (x.a == 8 * (x.k : Int)) = true := by simp; exact hx
        rw [this]
        simp [St.pop, St.reach, upd_same]
      · have : (x.a == 8 * (k' : Int)) = false := by simp; omega
        rw [this]
        simp [St.pop, St.reach, upd_other _ _ hk]
theorem fine_drain1 {s : St} {i : Nat} (hf : Fine s i) : Fine (s.drain1 i) i := by
  obtain ⟨a, b, c, d, e, f⟩ := drain1_same s i
  intro x hx
  rw [e] at hx
  obtain ⟨h1, h2, h3⟩ := hf x (List.mem_of_mem_drop hx)
  exact ⟨by rw [a]; exact h1, h2, by rw [d]; exact h3⟩
theorem load_drains (s : St) (i k' n : Nat) (hf : Fine s i) : (s.drains i n).load i k' = s.load i k' ∧ Fine (s.drains i n) i := by
  induction n with
  | zero => exact ⟨rfl, hf⟩
  | succ n ih => exact ⟨(load_drain1 _ i k' ih.2).trans ih.1, fine_drain1 ih.2⟩
theorem load_put (s : St) (i k k' : Nat) (v : Int) (hf : Fine s i) : ((s.put i k v).load i k').1 = if k' = k then v else (s.load i k').1 := by
  have dH := (drains_same s i (s.H i).length).2.2.2.2.1
  rw [List.drop_length] at dH
  have e : (s.put i k v).H i = [] := by simp [St.put, St.reach, St.tick, dH]
  have h1 := (load_drains s i k' (s.H i).length hf).1
  have h2 : (s.drains i (s.H i).length).load i k' = ((s.drains i (s.H i).length).V k', (s.drains i (s.H i).length).T k') := by
    unfold St.load; rw [dH]; rfl
  have h3 : (s.put i k v).load i k' = ((s.put i k v).V k', (s.put i k v).T k') := by
    unfold St.load; rw [e]; rfl
  rw [h3]
  show upd (s.drains i (s.H i).length).V k v k' = _
  by_cases h : k' = k
  · subst h; simp [upd_same]
  · rw [upd_other _ _ h, if_neg h, ← h1, h2]
/-- One core alone reads what it wrote last. -/
def Alone (s : St) (W : Nat → Int) : Prop := ∀ k, k < 6 → (s.load 0 k).1 = W k
theorem Alone.hold {s : St} {W : Nat → Int} (h : Alone s W) {k : Nat} {x : L} (hx : x.a = 8 * (k : Int)) : Alone (s.hold 0 x) (upd W k x.v) := by
  intro k' hk
  rw [load_hold s 0 k k' x hx]
  by_cases e : k' = k
  · subst e; simp [upd_same]
  · rw [if_neg e, upd_other _ _ e]; exact h k' hk
theorem Alone.put {s : St} {W : Nat → Int} (h : Alone s W) (hf : Fine s 0) (k : Nat) (v : Int) : Alone (s.put 0 k v) (upd W k v) := by
  intro k' hk
  rw [load_put s 0 k k' v hf]
  by_cases e : k' = k
  · subst e; simp [upd_same]
  · rw [if_neg e, upd_other _ _ e]; exact h k' hk
theorem Alone.drain1 {s : St} {W : Nat → Int} (h : Alone s W) (hf : Fine s 0) : Alone (s.drain1 0) W := fun k' hk => by rw [load_drain1 s 0 k' hf]; exact h k' hk
theorem Alone.drains {s : St} {W : Nat → Int} (h : Alone s W) (hf : Fine s 0) (n : Nat) : Alone (s.drains 0 n) W := fun k' hk => by rw [(load_drains s 0 k' n hf).1]; exact h k' hk
set_option maxHeartbeats 4000000 in
theorem memAlone_walk (dp : Int) (a0 : Option Addr) (len cap : Nat) (V : Nat → Nat → Int) (w : World) (w1 : (Lit.int .i64 dp).wf = true) (hl : len ≤ cap) (hcap : cap ≤ maxLen) (hs : SlRows [.i64, .i64, .u64, .u64] w a0 len V) :
    Calls Try.prog 5 #[.int .i64 dp, .slice a0 len cap] w fun e w' => e = .returned (.bool true) ∧ Below w.heap.size w w' := by
  obtain ⟨p1, p2⟩ := i64_rng w1
  obtain ⟨D0, hD, hD8⟩ := pk_nat dp 8 (by omega)
  have hp1 := fun w => pick_ok dp 8 w p1 p2 (by omega) (by omega)
  rw [show pk dp 8 = (D0 : Int) from hD] at hp1
  have P1 := Lib.hid hp1
  have HS := Lib.hid hs
  have HL := Lib.hid hl
  have HCAP := Lib.hid hcap
  have HD8 := Lib.hid hD8
  have hlen : (len : Int) ≤ 9223372036854775807 := by simp only [maxLen] at hcap; omega
  have d0 : (0 : Int) ≤ (D0 : Int) := by omega
  have d8 : (D0 : Int) < 8 := by omega
  clear p1 p2 hD hp1 hs hl hcap w1 hD8
  go_enter Try.func5, Try.ntmps5
  go_wp2_with fail
  refine (known_ok w).mono ?_
  rintro e wa ⟨rfl, f0⟩
  have F0 := Lib.hid f0
  clear f0
  go_wp2_with fail
  refine (P1.out _).mono ?_
  rintro e w2 ⟨rfl, rfl⟩
  go_wp2_with fail
  refine (mine_new 6 1 (1 + D0) (x := 6) (y := 1) (z := 1 + (D0 : Int)) wa rfl rfl (by omega) (by decide) (by decide) (by decide) (by decide) (by omega) (by have := HD8.out; omega)).mono ?_
  rintro e wb ⟨b, q0, rfl, m0⟩
  have hb := m0.loc 43 #[.int .u64 0, .int .u64 0, .int .u64 0, .int .u64 0, .int .u64 0, .int .u64 0]
  have hbB : wa.heap.size ≤ wb.heap.size := m0.fr.size
  have HB := Lib.hid hbB
  have M0 := Lib.hid hb.1
  have L0 := Lib.hid hb.2
  clear hb m0 hbB
  go_upto_region 6 with fail
  generalize wb.heap.size = B at *
  generalize (wb.alloc (.cells #[.int .u64 0, .int .u64 0, .int .u64 0, .int .u64 0, .int .u64 0, .int .u64 0] 43)) = wc at *
  go_wp2_with fail
  go_loopw [9] (fun i wr => ∃ (k : Nat) (q : Bs) (s : St) (W : Nat → Int), i = .int .i64 (k : Int) ∧ k ≤ 200 ∧ k ≤ len ∧ Mine wa b q s wr ∧ Good s 6 1 (1 + D0) k ∧ Loc q s B 43 (us W 6) wr ∧ Alone s W) (fun i _ => 200 - (intOf i).toNat)
  case atStart => exact ⟨0, q0, _, fun _ => 0, rfl, by omega, by omega, M0.out, Good.start 6 1 (1 + D0), L0.out, fun k _ => rfl⟩
  case round =>
    obtain ⟨k, q1, s1, W, rfl, hk1, hk2, mn, gd, lc, al⟩ := hrel
    have MN := Lib.hid mn
    have GD := Lib.hid gd
    have LC := Lib.hid lc
    have AL := Lib.hid al
    have fn := gd.fine (i := 0) (by omega)
    have FN := Lib.hid fn
    clear mn gd lc al fn
    by_cases hkl : k < len
    · by_cases hk200 : k < 200
      · obtain ⟨bs, off, ha, hbs, hcell⟩ := HS.out k hkl
        have hbs2 : bs < wa.heap.size := Nat.lt_of_lt_of_le hbs F0.out.size
        have old : ∀ o, wr.cell? ⟨bs, o, none⟩ = w.cell? ⟨bs, o, none⟩ := fun o => (MN.out.fr.cell (p := ⟨bs, o, none⟩) hbs2 id).trans (F0.out.cell (p := ⟨bs, o, none⟩) hbs id)
        have c0 : wr.cell? ⟨bs, off + k * 4, none⟩ = some (.int .i64 (V k 0)) := (old _).trans (hcell 0 _ rfl).1
        have c1 : wr.cell? ⟨bs, off + k * 4 + 1, none⟩ = some (.int .i64 (V k 1)) := (old _).trans (hcell 1 _ rfl).1
        have c2 : wr.cell? ⟨bs, off + k * 4 + 2, none⟩ = some (.int .u64 (V k 2)) := (old _).trans (hcell 2 _ rfl).1
        have c3 : wr.cell? ⟨bs, off + k * 4 + 3, none⟩ = some (.int .u64 (V k 3)) := (old _).trans (hcell 3 _ rfl).1
        obtain ⟨z0, z1⟩ := u64_rng (hcell 2 _ rfl).2
        generalize V k 0 = kd at *
        generalize V k 1 = co at *
        generalize V k 2 = ad at *
        generalize V k 3 = va at *
        obtain ⟨Kk, hKk⟩ : ∃ Kk : Nat, ad % 6 = (Kk : Int) := ⟨(ad % 6).toNat, by omega⟩
        have hK6 : Kk < 6 := by omega
        have K0 : (0 : Int) ≤ (Kk : Int) := by omega
        have K6 : (Kk : Int) < 6 := by omega
        have k0 : (0 : Int) ≤ (k : Int) := by omega
        have k1 : (k : Int) < 200 := by omega
        have k2 : (k : Int) < (len : Int) := by omega
        have HK := Lib.hid (And.intro hkl hk200)
        have HK6 := Lib.hid hK6
        have hn := GD.out.n
        have hcc := GD.out.c
        have hdd := GD.out.d
        have HN := Lib.hid hn
        have HCC := Lib.hid hcc
        have HDD := Lib.hid hdd
        subst ha
        clear hkl hk200 hk1 hk2 hK6 hbs2 hbs hcell old hn hcc hdd
        have mo := MN.out.loc 45 #[.int .i64 kd, .int .i64 co, .int .u64 ad, .int .u64 va]
        have hB' := LC.out.still ((Fr.refl Nil wr).alloc (.cells #[.int .i64 kd, .int .i64 co, .int .u64 ad, .int .u64 va] 45))
        have M1 := Lib.hid mo.1
        have L1 := Lib.hid mo.2
        have LC1 := Lib.hid hB'
        clear mo hB'
        go_upto_region 10 with fail
        generalize wr.heap.size = O at *
        generalize (wr.alloc (.cells #[.int .i64 kd, .int .i64 co, .int .u64 ad, .int .u64 va] 45)) = w3 at *
        have o0 : w3.cell? ⟨O, 0, none⟩ = some (.int .i64 kd) := L1.out.blk.cellv rfl
        have o2 : w3.cell? ⟨O, 2, none⟩ = some (.int .u64 ad) := L1.out.blk.cellv rfl
        have o3 : w3.cell? ⟨O, 3, none⟩ = some (.int .u64 va) := L1.out.blk.cellv rfl
        clear c0 c1 c2 c3
        by_cases h2 : kd = 2
        · subst h2
          rcases Nat.lt_or_ge (s1.H 0).length (1 + D0) with hlt | hge
          · have SR := Lib.hid (M1.out.store 0 Kk (c := 0) (a := 8 * (Kk : Int)) (v := va) rfl rfl (by rw [HCC.out]; decide) (by rw [HN.out]; exact HK6.out) (by rw [HN.out]; decide) (by rw [HDD.out]; exact hlt) (by rw [HDD.out]; have := HD8.out; omega) (by have := GD.out.st; have := HK.out; omega) rfl)
            have LT := Lib.hid hlt
            clear hlt
            generalize hgl : s1.st.length = tl at *
            have HGL := Lib.hid hgl
            clear hgl
            go_wp2_with fail
            refine SR.out.mono ?_
            rintro e w4 ⟨rfl, q2, m2, st2⟩
            have hB2 := LC1.out.step st2
            have hO2 := L1.out.step st2
            have p3 : w4.cell? ⟨O, 3, none⟩ = some (.int .u64 va) := hO2.blk.cellv rfl
            have p5 : w4.cell? ⟨B, Kk, none⟩ = some (.int .u64 (W Kk)) := hB2.blk.cellv (us_get HK6.out)
            have p6 : w4.frozen? ⟨B, Kk, none⟩ = false := hB2.blk.frozen _
            have mm := m2.setLoc hB2 HB.out Kk (.int .u64 va)
            rw [us_set] at mm
            have M2 := Lib.hid mm.1
            have LB2 := Lib.hid mm.2
            have G2 := Lib.hid (GD.out.hold (i := 0) (k := Kk) (x := ⟨8 * (Kk : Int), va, tl⟩) (by decide) HK6.out rfl HGL.out.symm LT.out)
            have A2 := Lib.hid (AL.out.hold (k := Kk) (x := ⟨8 * (Kk : Int), va, tl⟩) rfl)
            clear mm m2 hB2 hO2 st2
            go_upto_region 26 with fail
            generalize (w4.setCell ⟨B, Kk, none⟩ (.int .u64 va)) = w5 at *
            clear p3 p5 p6
            obtain ⟨x, tt, hx⟩ : ∃ x tt, (s1.hold 0 ⟨8 * (Kk : Int), va, tl⟩).load 0 Kk = (x, tt) := ⟨_, _, rfl⟩
            have hxw : (upd W Kk va) Kk = x := by have := A2.out Kk HK6.out; rw [hx] at this; exact this.symm
            have HXW := Lib.hid hxw
            have CL := Lib.hid (M2.out.load 0 Kk (c := 0) (a := 8 * (Kk : Int)) rfl rfl (by rw [G2.out.c]; decide) (by rw [G2.out.n]; exact HK6.out) (by rw [G2.out.n]; decide) (by have := G2.out.held (i := 0) (by omega); have := HD8.out; omega) hx)
            clear hx hxw
            go_wp2_with fail
            refine CL.out.mono ?_
            rintro e wz ⟨rfl, mz, fz⟩
            have lz := LB2.out.still fz
            have cw : wz.cell? ⟨B, Kk, none⟩ = some (.int .u64 x) := by rw [← HXW.out]; exact lz.blk.cellv (us_get HK6.out)
            have MZ := Lib.hid mz
            have LZ := Lib.hid lz
            clear mz lz fz
            go_wp2_with fail
            go_roundw
            case rel => exact ⟨k + 1, _, _, _, by simp, by have := HK.out; omega, by have := HK.out; omega, MZ.out, G2.out, LZ.out, A2.out⟩
            case measure => have := HK.out; simp [intOf]; omega
          · have heq : (s1.H 0).length = 1 + D0 := by
              have := GD.out.held (i := 0) (by omega)
              omega
            have SR := Lib.hid (M1.out.full 0 Kk (c := 0) (a := 8 * (Kk : Int)) (v := va) rfl rfl (by rw [HCC.out]; decide) (by rw [HN.out]; exact HK6.out) (by rw [HN.out]; decide) (by rw [HDD.out]; exact heq))
            clear hge heq
            go_wp2_with fail
            refine SR.out.mono ?_
            rintro e w4 ⟨rfl, m2, f2⟩
            have M2 := Lib.hid m2
            have LB2 := Lib.hid (LC1.out.still f2)
            have G2 := Lib.hid (GD.out.up (m' := k + 1) (by omega))
            clear m2 f2
            obtain ⟨x, tt, hx⟩ : ∃ x tt, (s1).load 0 Kk = (x, tt) := ⟨_, _, rfl⟩
            have hxw : W Kk = x := by have := AL.out Kk HK6.out; rw [hx] at this; exact this.symm
            have HXW := Lib.hid hxw
            have CL := Lib.hid (M2.out.load 0 Kk (c := 0) (a := 8 * (Kk : Int)) rfl rfl (by rw [G2.out.c]; decide) (by rw [G2.out.n]; exact HK6.out) (by rw [G2.out.n]; decide) (by have := G2.out.held (i := 0) (by omega); have := HD8.out; omega) hx)
            clear hx hxw
            go_wp2_with fail
            refine CL.out.mono ?_
            rintro e wz ⟨rfl, mz, fz⟩
            have lz := LB2.out.still fz
            have cw : wz.cell? ⟨B, Kk, none⟩ = some (.int .u64 x) := by rw [← HXW.out]; exact lz.blk.cellv (us_get HK6.out)
            have MZ := Lib.hid mz
            have LZ := Lib.hid lz
            clear mz lz fz
            go_wp2_with fail
            go_roundw
            case rel => exact ⟨k + 1, _, _, _, by simp, by have := HK.out; omega, by have := HK.out; omega, MZ.out, G2.out, LZ.out, AL.out⟩
            case measure => have := HK.out; simp [intOf]; omega
        by_cases h3 : kd = 3
        · subst h3
          have DR := Lib.hid (M1.out.drainAny GD.out 0 (z := 0) rfl (by decide) (by decide) (by have := HK.out; omega))
          clear h2
          go_wp2_with fail
          refine DR.out.mono ?_
          rintro e w4 ⟨x1, x2, x3, x4, rfl, q2, m2, st2⟩
          have M2 := Lib.hid m2
          have LB2 := Lib.hid (LC1.out.step st2)
          have G2 := Lib.hid ((GD.out.drain1 (i := 0) (by decide)).up (m' := k + 1) (by omega))
          have A2 := Lib.hid (AL.out.drain1 FN.out)
          clear m2 st2
          obtain ⟨x, tt, hx⟩ : ∃ x tt, (s1.drain1 0).load 0 Kk = (x, tt) := ⟨_, _, rfl⟩
          have hxw : W Kk = x := by have := A2.out Kk HK6.out; rw [hx] at this; exact this.symm
          have HXW := Lib.hid hxw
          have CL := Lib.hid (M2.out.load 0 Kk (c := 0) (a := 8 * (Kk : Int)) rfl rfl (by rw [G2.out.c]; decide) (by rw [G2.out.n]; exact HK6.out) (by rw [G2.out.n]; decide) (by have := G2.out.held (i := 0) (by omega); have := HD8.out; omega) hx)
          clear hx hxw
          go_wp2_with fail
          refine CL.out.mono ?_
          rintro e wz ⟨rfl, mz, fz⟩
          have lz := LB2.out.still fz
          have cw : wz.cell? ⟨B, Kk, none⟩ = some (.int .u64 x) := by rw [← HXW.out]; exact lz.blk.cellv (us_get HK6.out)
          have MZ := Lib.hid mz
          have LZ := Lib.hid lz
          clear mz lz fz
          go_wp2_with fail
          go_roundw
          case rel => exact ⟨k + 1, _, _, _, by simp, by have := HK.out; omega, by have := HK.out; omega, MZ.out, G2.out, LZ.out, A2.out⟩
          case measure => have := HK.out; simp [intOf]; omega
        by_cases h4 : kd = 4
        · subst h4
          have DR := Lib.hid (M1.out.flush 0 (c := 0) rfl (by rw [HCC.out]; decide) (by rw [HN.out]; decide) FN.out (by have := GD.out.st; have := HK.out; omega) (by have := GD.out.od; have := HK.out; omega) (by have := GD.out.held (i := 0) (by omega); have := HD8.out; omega))
          clear h2 h3
          go_wp2_with fail
          refine DR.out.mono ?_
          rintro e w4 ⟨x1, q2, rfl, m2, _, st2, _⟩
          have M2 := Lib.hid m2
          have LB2 := Lib.hid (LC1.out.step st2)
          have G2 := Lib.hid ((GD.out.drains (i := 0) (by decide) (s1.H 0).length).up (m' := k + 1) (by omega))
          have A2 := Lib.hid (AL.out.drains FN.out (s1.H 0).length)
          clear m2 st2
          obtain ⟨x, tt, hx⟩ : ∃ x tt, (s1.drains 0 (s1.H 0).length).load 0 Kk = (x, tt) := ⟨_, _, rfl⟩
          have hxw : W Kk = x := by have := A2.out Kk HK6.out; rw [hx] at this; exact this.symm
          have HXW := Lib.hid hxw
          have CL := Lib.hid (M2.out.load 0 Kk (c := 0) (a := 8 * (Kk : Int)) rfl rfl (by rw [G2.out.c]; decide) (by rw [G2.out.n]; exact HK6.out) (by rw [G2.out.n]; decide) (by have := G2.out.held (i := 0) (by omega); have := HD8.out; omega) hx)
          clear hx hxw
          go_wp2_with fail
          refine CL.out.mono ?_
          rintro e wz ⟨rfl, mz, fz⟩
          have lz := LB2.out.still fz
          have cw : wz.cell? ⟨B, Kk, none⟩ = some (.int .u64 x) := by rw [← HXW.out]; exact lz.blk.cellv (us_get HK6.out)
          have MZ := Lib.hid mz
          have LZ := Lib.hid lz
          clear mz lz fz
          go_wp2_with fail
          go_roundw
          case rel => exact ⟨k + 1, _, _, _, by simp, by have := HK.out; omega, by have := HK.out; omega, MZ.out, G2.out, LZ.out, A2.out⟩
          case measure => have := HK.out; simp [intOf]; omega
        by_cases h5 : kd = 5
        · subst h5
          have DR := Lib.hid (M1.out.put 0 Kk (c := 0) (a := 8 * (Kk : Int)) (v := va) rfl rfl (by rw [HCC.out]; decide) (by rw [HN.out]; exact HK6.out) (by rw [HN.out]; decide) FN.out (by have := GD.out.st; have := HK.out; omega) (by have := GD.out.od; have := HK.out; omega) (by have := GD.out.held (i := 0) (by omega); have := HD8.out; omega) rfl)
          clear h2 h3 h4
          go_wp2_with fail
          refine DR.out.mono ?_
          rintro e w4 ⟨x1, q2, rfl, m2, _, st2, _⟩
          have hB2 := LC1.out.step st2
          have hO2 := L1.out.step st2
          have p3 : w4.cell? ⟨O, 3, none⟩ = some (.int .u64 va) := hO2.blk.cellv rfl
          have p5 : w4.cell? ⟨B, Kk, none⟩ = some (.int .u64 (W Kk)) := hB2.blk.cellv (us_get HK6.out)
          have p6 : w4.frozen? ⟨B, Kk, none⟩ = false := hB2.blk.frozen _
          have mm := m2.setLoc hB2 HB.out Kk (.int .u64 va)
          rw [us_set] at mm
          have M2 := Lib.hid mm.1
          have LB2 := Lib.hid mm.2
          have G2 := Lib.hid (GD.out.put (i := 0) (k := Kk) va (by decide) HK6.out (by omega))
          have A2 := Lib.hid (AL.out.put FN.out Kk va)
          clear mm m2 hB2 hO2 st2
          go_upto_region 26 with fail
          generalize (w4.setCell ⟨B, Kk, none⟩ (.int .u64 va)) = w5 at *
          clear p3 p5 p6
          obtain ⟨x, tt, hx⟩ : ∃ x tt, (s1.put 0 Kk va).load 0 Kk = (x, tt) := ⟨_, _, rfl⟩
          have hxw : (upd W Kk va) Kk = x := by have := A2.out Kk HK6.out; rw [hx] at this; exact this.symm
          have HXW := Lib.hid hxw
          have CL := Lib.hid (M2.out.load 0 Kk (c := 0) (a := 8 * (Kk : Int)) rfl rfl (by rw [G2.out.c]; decide) (by rw [G2.out.n]; exact HK6.out) (by rw [G2.out.n]; decide) (by have := G2.out.held (i := 0) (by omega); have := HD8.out; omega) hx)
          clear hx hxw
          go_wp2_with fail
          refine CL.out.mono ?_
          rintro e wz ⟨rfl, mz, fz⟩
          have lz := LB2.out.still fz
          have cw : wz.cell? ⟨B, Kk, none⟩ = some (.int .u64 x) := by rw [← HXW.out]; exact lz.blk.cellv (us_get HK6.out)
          have MZ := Lib.hid mz
          have LZ := Lib.hid lz
          clear mz lz fz
          go_wp2_with fail
          go_roundw
          case rel => exact ⟨k + 1, _, _, _, by simp, by have := HK.out; omega, by have := HK.out; omega, MZ.out, G2.out, LZ.out, A2.out⟩
          case measure => have := HK.out; simp [intOf]; omega
        have t2 : (kd == 2) = false := by simp [h2]
        have t3 : (kd == 3) = false := by simp [h3]
        have t4 : (kd == 4) = false := by simp [h4]
        have t5 : (kd == 5) = false := by simp [h5]
        have G2 := Lib.hid (GD.out.up (m' := k + 1) (by omega))
        clear h2 h3 h4 h5
        obtain ⟨x, tt, hx⟩ : ∃ x tt, (s1).load 0 Kk = (x, tt) := ⟨_, _, rfl⟩
        have hxw : W Kk = x := by have := AL.out Kk HK6.out; rw [hx] at this; exact this.symm
        have HXW := Lib.hid hxw
        have CL := Lib.hid (M1.out.load 0 Kk (c := 0) (a := 8 * (Kk : Int)) rfl rfl (by rw [G2.out.c]; decide) (by rw [G2.out.n]; exact HK6.out) (by rw [G2.out.n]; decide) (by have := G2.out.held (i := 0) (by omega); have := HD8.out; omega) hx)
        clear hx hxw
        go_wp2_with fail
        refine CL.out.mono ?_
        rintro e wz ⟨rfl, mz, fz⟩
        have lz := LC1.out.still fz
        have cw : wz.cell? ⟨B, Kk, none⟩ = some (.int .u64 x) := by rw [← HXW.out]; exact lz.blk.cellv (us_get HK6.out)
        have MZ := Lib.hid mz
        have LZ := Lib.hid lz
        clear mz lz fz
        go_wp2_with fail
        go_roundw
        case rel => exact ⟨k + 1, _, _, _, by simp, by have := HK.out; omega, by have := HK.out; omega, MZ.out, G2.out, LZ.out, AL.out⟩
        case measure => have := HK.out; simp [intOf]; omega
      · have k2 : (k : Int) < (len : Int) := by omega
        have k3 : (200 : Int) ≤ (k : Int) := by omega
        clear hk200
        have LK := Lib.hid hk1
        have FL := Lib.hid (MN.out.flush 0 (c := 0) rfl (by rw [GD.out.c]; decide) (by rw [GD.out.n]; decide) FN.out (by have := GD.out.st; omega) (by have := GD.out.od; omega) (by have := GD.out.held (i := 0) (by omega); have := HD8.out; omega))
        clear hkl
        go_wp2_with fail
        refine FL.out.mono ?_
        rintro e w4 ⟨x1, q2, rfl, m2, _, st2, _⟩
        have M2 := Lib.hid m2
        have LB2 := Lib.hid (LC.out.step st2)
        have G2 := Lib.hid (GD.out.drains (i := 0) (by decide) (s1.H 0).length)
        have A2 := Lib.hid (AL.out.drains FN.out (s1.H 0).length)
        have h0 := (drains_same s1 0 (s1.H 0).length).2.2.2.2.1
        rw [List.drop_length] at h0
        have H0 := Lib.hid h0
        generalize s1.drains 0 (s1.H 0).length = s2 at *
        clear m2 st2 h0
        go_wp2_with fail
        go_loopw [21] (fun i wr2 => ∃ kk : Nat, i = .int .i64 (kk : Int) ∧ kk ≤ 6 ∧ Mine wa b q2 s2 wr2 ∧ Loc q2 s2 B 43 (us W 6) wr2) (fun i _ => 6 - (intOf i).toNat)
        case atStart => exact ⟨0, rfl, by omega, M2.out, LB2.out⟩
        case round =>
          obtain ⟨kk, rfl, hkk, mx, lx⟩ := hrel
          have MX := Lib.hid mx
          have LX := Lib.hid lx
          clear mx lx
          by_cases h6 : kk < 6
          · have PK := Lib.hid (MX.out.peek kk (a := 8 * (kk : Int)) rfl (by rw [G2.out.n]; exact h6) (by rw [G2.out.n]; decide))
            have hv : s2.V kk = W kk := by
              have := A2.out kk h6
              unfold St.load at this
              rw [H0.out] at this
              exact this
            rw [hv] at PK
            have H6 := Lib.hid h6
            have a1 : (0 : Int) ≤ (kk : Int) := by omega
            have a2 : (kk : Int) < 6 := by omega
            clear hv h6 hkk
            go_wp2_with fail
            refine PK.out.mono ?_
            rintro e w5 ⟨rfl, m5, f5⟩
            have l5 := LX.out.still f5
            have c5 : w5.cell? ⟨B, kk, none⟩ = some (.int .u64 (W kk)) := l5.blk.cellv (us_get H6.out)
            have M5 := Lib.hid m5
            have L5 := Lib.hid l5
            clear m5 l5 f5
            go_wp2_with fail
            go_roundw
            case rel => exact ⟨kk + 1, by simp, by have := H6.out; omega, M5.out, L5.out⟩
            case measure => have := H6.out; simp [intOf]; omega
          · have a2 : (6 : Int) ≤ (kk : Int) := by omega
            clear h6 hkk
            go_wp2_with fail
            go_ret
            exact ⟨rfl, (F0.out.trans MX.out.fr).bel⟩
    · have k2 : (len : Int) ≤ (k : Int) := by omega
      have LK := Lib.hid hk1
      have FL := Lib.hid (MN.out.flush 0 (c := 0) rfl (by rw [GD.out.c]; decide) (by rw [GD.out.n]; decide) FN.out (by have := GD.out.st; omega) (by have := GD.out.od; omega) (by have := GD.out.held (i := 0) (by omega); have := HD8.out; omega))
      clear hkl
      go_wp2_with fail
      refine FL.out.mono ?_
      rintro e w4 ⟨x1, q2, rfl, m2, _, st2, _⟩
      have M2 := Lib.hid m2
      have LB2 := Lib.hid (LC.out.step st2)
      have G2 := Lib.hid (GD.out.drains (i := 0) (by decide) (s1.H 0).length)
      have A2 := Lib.hid (AL.out.drains FN.out (s1.H 0).length)
      have h0 := (drains_same s1 0 (s1.H 0).length).2.2.2.2.1
      rw [List.drop_length] at h0
      have H0 := Lib.hid h0
      generalize s1.drains 0 (s1.H 0).length = s2 at *
      clear m2 st2 h0
      go_wp2_with fail
      go_loopw [21] (fun i wr2 => ∃ kk : Nat, i = .int .i64 (kk : Int) ∧ kk ≤ 6 ∧ Mine wa b q2 s2 wr2 ∧ Loc q2 s2 B 43 (us W 6) wr2) (fun i _ => 6 - (intOf i).toNat)
      case atStart => exact ⟨0, rfl, by omega, M2.out, LB2.out⟩
      case round =>
        obtain ⟨kk, rfl, hkk, mx, lx⟩ := hrel
        have MX := Lib.hid mx
        have LX := Lib.hid lx
        clear mx lx
        by_cases h6 : kk < 6
        · have PK := Lib.hid (MX.out.peek kk (a := 8 * (kk : Int)) rfl (by rw [G2.out.n]; exact h6) (by rw [G2.out.n]; decide))
          have hv : s2.V kk = W kk := by
            have := A2.out kk h6
            unfold St.load at this
            rw [H0.out] at this
            exact this
          rw [hv] at PK
          have H6 := Lib.hid h6
          have a1 : (0 : Int) ≤ (kk : Int) := by omega
          have a2 : (kk : Int) < 6 := by omega
          clear hv h6 hkk
          go_wp2_with fail
          refine PK.out.mono ?_
          rintro e w5 ⟨rfl, m5, f5⟩
          have l5 := LX.out.still f5
          have c5 : w5.cell? ⟨B, kk, none⟩ = some (.int .u64 (W kk)) := l5.blk.cellv (us_get H6.out)
          have M5 := Lib.hid m5
          have L5 := Lib.hid l5
          clear m5 l5 f5
          go_wp2_with fail
          go_roundw
          case rel => exact ⟨kk + 1, by simp, by have := H6.out; omega, M5.out, L5.out⟩
          case measure => have := H6.out; simp [intOf]; omega
        · have a2 : (6 : Int) ≤ (kk : Int) := by omega
          clear h6 hkk
          go_wp2_with fail
          go_ret
          exact ⟨rfl, (F0.out.trans MX.out.fr).bel⟩
end Go.Proofs.Ytjbdbmahbcaniaa
