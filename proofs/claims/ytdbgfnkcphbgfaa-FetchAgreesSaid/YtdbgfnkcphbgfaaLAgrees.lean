/- The walk of FetchAgrees. -/
import Derived.Test.YtdbgfnkcphbgfaaLSees
namespace Go.Proofs.Ytdbgfnkcphbgfaa
open Go.RowKit
set_option linter.unusedVariables false

theorem Clean.snoc {first : Int} {l : List N} {n : N} (h : Clean first l l.length) (hb : badAt first l n = false) : Clean first (l ++ [n]) (l ++ [n]).length := by
  intro j hj hl
  by_cases e : j < l.length
  · have h1 := h j e e
    rw [List.take_append_of_le_length (by omega), List.getElem_append_left e]
    exact h1
  · rw [List.length_append, List.length_singleton] at hj
    have e' : j = l.length := by omega
    subst e'
    rw [List.take_left, List.getElem_append_right (Nat.le_refl _)]
    simpa using hb
theorem bad_may {first : Int} {l : List N} {c a x : Int} : badAt first l ⟨5, c, a, x⟩ = !(may c a first l).contains x := by
  have h : (wordsV (vers c a first l)).contains x = (may c a first l).contains x := by
    rw [Bool.eq_iff_iff, List.contains_iff_mem, List.contains_iff_mem, may, mem_dd]
  simp only [badAt, h]
  rfl
theorem words_rng (core addr first : Int) (l : List N) (ok : ∀ n ∈ l, n.Ok) (x0 : 0 ≤ first) (x1 : first ≤ 4294967295) : ∀ v ∈ vers core addr first l, 0 ≤ v.w ∧ v.w ≤ 4294967295 := by
  induction l using snoc_ind with
  | h0 => intro v hv; simp [vers] at hv; subst hv; exact ⟨x0, x1⟩
  | h l n ih =>
    have ih := ih fun m hm => ok m (by simp [hm])
    have hn := ok n (by simp)
    rw [vers_snoc]
    intro v hv
    unfold stepV at hv
    have hmap : ∀ f : V → V, (∀ u, (f u).w = u.w) → v ∈ (vers core addr first l).map f → 0 ≤ v.w ∧ v.w ≤ 4294967295 := by
      intro f hf hm
      obtain ⟨u, hu, rfl⟩ := List.mem_map.1 hm
      rw [hf]
      exact ih u hu
    split at hv
    · rcases List.mem_append.1 hv with h | h
      · exact hmap V.over (fun _ => rfl) h
      · rw [List.mem_singleton.1 h]
        exact ⟨hn.w0, hn.w1⟩
    · split at hv
      · exact hmap V.told (fun _ => rfl) hv
      · split at hv
        · exact hmap V.lose (fun _ => rfl) hv
        · exact ih v hv
theorem may_word (core addr first : Int) (l : List N) (ok : ∀ n ∈ l, n.Ok) (x0 : 0 ≤ first) (x1 : first ≤ 4294967295) (x : Int) (hx : x ∈ may core addr first l) : 0 ≤ x ∧ x ≤ 4294967295 := by
  rw [may, mem_dd, wordsV] at hx
  obtain ⟨v, hv, rfl⟩ := List.mem_map.1 hx
  exact words_rng core addr first l ok x0 x1 v (List.mem_filter.1 hv).1
/-- What the law has put together when k notes are over. -/
structure Agr (w : World) (first : Int) (bx : Nat) (L : List N) (v : Value) (W : World) : Prop where
  win : Win W 31 4 v L.length (ncs L)
  own : ∀ k, v.ownBlock = some k → w.heap.size + 1 ≤ k
  box : Blk W bx 24 #[.int .u32 first]
  fr : Fr Nil w W
  ok : ∀ n ∈ L, n.Ok
  clean : Clean first L L.length
theorem Agr.to {w W W' : World} {first : Int} {bx : Nat} {L : List N} {v : Value} (h : Agr w first bx L v W) (hf : Fr Nil W W') : Agr w first bx L v W' :=
  ⟨h.win.fr hf fun _ _ => id, h.own, h.box.fr0 hf, h.fr.trans hf, h.ok, h.clean⟩
theorem Agr.sh {w W : World} {first : Int} {bx : Nat} {L : List N} {v : Value} (h : Agr w first bx L v W) : ∃ a c, v = .slice a L.length c ∧ L.length ≤ c := by
  obtain ⟨a, c, e, h1, _, _⟩ := h.win.shape
  exact ⟨a, c, e, h1⟩
theorem Agr.push {w W W' : World} {first : Int} {bx : Nat} {L : List N} {v : Value} (h : Agr w first bx L v W) (hbx : bx = w.heap.size) (hw1 : w.heap.size + 1 ≤ W.heap.size) {g off cap : Nat} {n : N} (hw : Win W' 31 4 (.slice (some ⟨g, off, none⟩) (L.length + 1) cap) (L.length + 1) (ncs L ++ ncells n)) (hg : W.grownBy W' v.ownBlock) (hat : v.ownBlock = some g ∨ g = W.heap.size + 1) (hn : n.Ok) (hb : badAt first L n = false) :
    Agr w first bx (L ++ [n]) (.slice (some ⟨g, off, none⟩) (L.length + 1) cap) W' := by
  refine ⟨?_, fun k hk => ?_, h.box.grown hg fun e => ?_, h.fr.grown hg fun k hk => .inr ?_, fun m hm => ?_, h.clean.snoc hb⟩
  · rw [List.length_append, List.length_singleton, ncs_append, show ncs [n] = ncells n from by simp [ncs]]
    exact hw
  · cases hk
    rcases hat with hat | hat
    · exact h.own _ hat
    · show w.heap.size + 1 ≤ g
      omega
  · have := h.own _ e.symm
    omega
  · have := h.own k hk
    omega
  · rcases List.mem_append.1 hm with h1 | h1
    · exact h.ok m h1
    · rw [List.mem_singleton.1 h1]; exact hn
theorem Agr.set {w W : World} {first : Int} {bx xb i : Nat} {L : List N} {v : Value} (h : Agr w first bx L v W) (hbx : bx = w.heap.size) (hne : v.ownBlock ≠ some xb) (hxb : w.heap.size + 1 ≤ xb) (u : Value) : Agr w first bx L v (W.setCell ⟨xb, i, none⟩ u) :=
  ⟨h.win.far hne u, h.own, h.box.farc (by omega) u, h.fr.setNew (by omega) u, h.ok, h.clean⟩
theorem check_none2 {n : Nat} {v : Int} (first : Int) (bx : Nat) (l : List N) (hn : l.length = n) (hv : chk first [] l = v) (ok : ∀ n ∈ l, n.Ok) (a : Option Addr) (cap : Nat) (w : World) (hl : l.length ≤ 4398046511096) (hc : n ≤ cap) (hm : Nts w a l) (hr : rightL l = true) (hbx : Blk w bx 24 #[.int .u32 first]) :
    Calls Try.prog 14 #[.slice a n cap, .func (.func 13) #[] #[.pointer (some ⟨bx, 0, none⟩)]] w fun e w' => e = .returned (.tuple #[.int .i64 v, .int .i64 0]) ∧ Fr Nil w w' := by
  subst hn hv
  exact check_none first bx l ok a cap w hl hc hm hr hbx
theorem cell_grown {w w' : World} {row : Option Nat} {b i : Nat} {v : Value} (h : w.cell? ⟨b, i, none⟩ = some v) (hg : w.grownBy w' row) (hp : b < w.heap.size) (hr : ∀ k, row = some k → k ≠ b) : w'.cell? ⟨b, i, none⟩ = some v :=
  (World.cell?_of_block (a := ⟨b, i, none⟩) (hg.block b hp fun e => hr b e.symm rfl)).trans h
theorem SlInts.get {k : IntKind} {w : World} {a : Option Addr} {len : Nat} {Z : Nat → Int} (h : SlInts k w a len Z) {i : Nat} (hi : i < len) : ∃ b off, a = some ⟨b, off, none⟩ ∧ b < w.heap.size ∧ w.cell? ⟨b, off + i, none⟩ = some (.int k (Z i)) ∧ (Lit.int k (Z i)).wf = true := h i hi
set_option maxRecDepth 100000 in
set_option maxHeartbeats 4000000 in
theorem agrees_gen (l : List N) (ok : ∀ n ∈ l, n.Ok) (a ap : Option Addr) (cap lenp capp : Nat) (Z : Nat → Int) (first bad : Int) (w : World) (hl : l.length ≤ maxLen) (hc : l.length ≤ cap) (hm : Nts w a l) (hlp : lenp ≤ capp) (hcp : capp ≤ maxLen) (hz : SlInts .i64 w ap lenp Z)
    (x0 : 0 ≤ first) (x1 : first ≤ 4294967295) (y0 : 0 ≤ bad) (y1 : bad ≤ 4294967295) :
    Calls Try.prog 5 #[.slice a l.length cap, .slice ap lenp capp, .int .u32 first, .int .u32 bad] w fun e w' => e = .returned (.bool true) ∧ Fr Nil w w' := by
  have HM := Lib.hid hm
  have OK := Lib.hid ok
  have HZ := Lib.hid hz
  unfold maxLen at hl hcp
  clear hm ok hz
  obtain ⟨i31, hi31, hz0, hz1, hz2⟩ := info_parts Try.info31
  go_enter Try.func5, Try.ntmps5
  go_wp2_with fail
  refine (examples_ok _).mono ?_
  rintro e w1 ⟨rfl, F1⟩
  have hsz1 := F1.size
  rw [World.size_alloc] at hsz1
  have A0 : Hid (Agr w first w.heap.size [] (.slice none 0 0) w1) := Lib.hid ⟨Win.nil _ _ _, (fun k hk => by cases hk), (Blk.new w 24 _).fr0 F1, ((Fr.refl Nil w).alloc _).trans F1, (fun n hn => by simp at hn), (fun j hj => by simp at hj)⟩
  clear F1
  go_wp2_with fail
  go_loopw [11, 12] (fun v i wr => ∃ (k : Nat) (L : List N) (a1 : Option Addr) (c1 : Nat), k ≤ l.length ∧ k ≤ 60 ∧ L.length = k ∧ i = .int .i64 (k : Int) ∧ v = .slice a1 k c1 ∧ Hid (Agr w first w.heap.size L (.slice a1 k c1) wr ∧ w.heap.size + 1 ≤ wr.heap.size)) (fun _ i _ => 60 - (intOf i).toNat)
  case atStart => exact ⟨0, [], none, 0, Nat.zero_le _, by omega, rfl, rfl, rfl, Lib.hid ⟨A0.out, hsz1⟩⟩
  case round =>
    clear A0 hsz1
    obtain ⟨k, L, a1, c1, hk, hk60, hLk, rfl, rfl, AA⟩ := hrel
    have HL := Lib.hid hLk
    clear hLk
    by_cases hgo : k < l.length ∧ k < 60
    · obtain ⟨hlt, h60⟩ := hgo
      obtain ⟨b, off, ha, hb, q0, q1, q2, q3⟩ := (HM.out.fr AA.out.1.fr) k l[k] (List.getElem?_eq_getElem hlt)
      have h60' : (k : Int) < 60 := by omega
      subst ha
      have hOK := OK.out _ (List.getElem_mem hlt)
      generalize l[k] = n at *
      obtain ⟨nk, nc, na, nw⟩ := n
      have HOK := Lib.hid hOK
      obtain ⟨k0, k1, d0, d1, b0, b1, w0', w1'⟩ := hOK
      dsimp only at *
      by_cases h5 : nk = 5
      · subst h5
        have AW := Lib.hid (AA.out.1.to ((Fr.refl Nil wr).alloc (.cells #[.int .i64 5, .int .i64 nc, .int .u64 na, .int .u32 nw] 31)))
        have hcap1 : k ≤ c1 := by obtain ⟨_, _, he, h, _, _⟩ := AA.out.1.win.shape; cases he; rw [HL.out] at h; exact h
        have N1 : Hid (Nts (wr.alloc (.cells #[.int .i64 5, .int .i64 nc, .int .u64 na, .int .u32 nw] 31)) a1 L) := Lib.hid (by
          have := AW.out.win
          rw [HL.out] at this
          exact this.nts)
        have NEX := Lib.hid (show (Value.slice a1 k c1).ownBlock ≠ some wr.heap.size from fun e => by have := AA.out.1.win.lt e; omega)
        have cbx : (wr.alloc (.cells #[.int .i64 5, .int .i64 nc, .int .u64 na, .int .u32 nw] 31)).cell? ⟨w.heap.size, 0, none⟩ = some (.int .u32 first) := AW.out.box.cellv rfl
        cases hok : mayOk nc na L with
        | false =>
          have NO := Lib.hid (may_no L AW.out.ok nc na first b0 b1 a1 c1 _ (by unfold maxLen; have := HL.out; omega) (by rw [HL.out]; exact hcap1) N1.out hok)
          rw [HL.out] at NO
          clear hok
          go_wp2_with fail
          refine NO.out.mono ?_
          rintro e w5 ⟨rfl, F5⟩
          have FF := Lib.hid (AW.out.fr.trans F5)
          clear F5
          go_wp2_with fail
          go_ret
          exact ⟨rfl, FF.out⟩
        | true =>
          have hpos := may_pos nc na first L
          have hlen := may_len nc na first L
          rw [HL.out] at hlen
          have YES := Lib.hid (may_yes2 L HL.out AW.out.ok nc na first b0 b1 a1 c1 _ (by have := HL.out; omega) hcap1 N1.out hok rfl rfl)
          clear hok
          have WB := Lib.hid (fun x (hx : x ∈ may nc na first L) => show N.Ok ⟨5, nc, na, x⟩ from by
            have := may_word nc na first L AW.out.ok x0 x1 x hx
            exact okN _ _ _ _ (by omega))
          have MM := Lib.hid (fun x (hx : x ∈ may nc na first L) => show badAt first L ⟨5, nc, na, x⟩ = false by rw [bad_may, show (may nc na first L).contains x = true from List.contains_iff_mem.2 hx]; rfl)
          generalize may nc na first L = B at *
          go_wp2_with fail
          refine YES.out.mono ?_
          rintro e w5 ⟨a5, c5, rfl, F5, D5, q5, _⟩
          have A5 := Lib.hid (AW.out.to F5)
          have BN := Lib.hid ((Blk.new wr 31 #[.int .i64 5, .int .i64 nc, .int .u64 na, .int .u32 nw]).fr0 F5)
          have S5 := Lib.hid (show w.heap.size + 1 ≤ wr.heap.size from AA.out.2)
          have S6 := Lib.hid (show w.heap.size + 1 ≤ w5.heap.size from by have := F5.size; rw [World.size_alloc] at this; have := AA.out.2; omega)
          have D5' := Lib.hid D5
          have HZ5 := Lib.hid (fun i (hi : i < lenp) => show ∃ b off, ap = some ⟨b, off, none⟩ ∧ w5.cell? ⟨b, off + i, none⟩ = some (.int .i64 (Z i)) ∧ (Lit.int .i64 (Z i)).wf = true by
            obtain ⟨b, off, h1, h2, h3, h4⟩ := HZ.out i hi
            exact ⟨b, off, h1, (A5.out.fr.cell (p := ⟨b, off + i, none⟩) h2 id).trans h3, h4⟩)
          have e0 : (B.length : Int) ≠ 0 := by omega
          have p0 : (0 : Int) < (B.length : Int) := by omega
          clear F5 D5 q5 AA AW N1 YES cbx q0 q1 q2 q3 hb
          -- the pick
          have pick : ∀ kk : Int, 0 ≤ kk → ∃ m : Nat, kk % (B.length : Int) = (m : Int) ∧ m < B.length := fun kk hkk => ⟨(kk % (B.length : Int)).toNat, by have := Int.emod_nonneg kk e0; omega, by have := Int.emod_lt_of_pos kk p0; have := Int.emod_nonneg kk e0; omega⟩
          have PK := Lib.hid pick
          clear pick e0
          have hpk : (lenp ≤ k ∧ decide (k < lenp) = false) ∨ (k < lenp ∧ 0 ≤ Z k) ∨ (k < lenp ∧ Z k < 0) := by simp; omega
          rcases hpk with ⟨h1, h2⟩ | ⟨h1, h2⟩ | ⟨h1, h2⟩
          · have hml : 0 < B.length := hpos
            obtain ⟨b5, o5, ha5, hb5, cx⟩ := D5'.out 0 _ (List.getElem?_eq_getElem hml)
            subst ha5
            rw [Nat.add_zero] at cx
            have cz3 : w5.cell? ⟨wr.heap.size, 3, none⟩ = some (.int .u32 nw) := BN.out.cellv rfl
            have fz : w5.frozen? ⟨wr.heap.size, 3, none⟩ = false := BN.out.frozen 3
            have BM := Lib.hid (MM.out _ (List.getElem_mem hml))
            have B6 := Lib.hid (BN.out.set_ 3 (.int .u32 B[0]))
            have A6 := Lib.hid (A5.out.set (xb := wr.heap.size) (i := 3) rfl NEX.out S5.out (.int .u32 B[0]))
            have S7 := Lib.hid (show w.heap.size + 1 ≤ (w5.setCell ⟨wr.heap.size, 3, none⟩ (.int .u32 B[0])).heap.size from by have := S6.out; simpa [World.setCell] using this)
            have HWB := Lib.hid (WB.out _ (List.getElem_mem hml))
            go_upto_region 22 with fail
            generalize (w5.setCell ⟨wr.heap.size, 3, none⟩ (.int .u32 B[0])) = W6 at *
            generalize B[0] = x at *
            clear cx fz cz3
            generalize wr.heap.size = xb at *
            have c0 : W6.cell? ⟨xb, 0, none⟩ = some (.int .i64 5) := B6.out.cellv rfl
            have c1' : W6.cell? ⟨xb, 1, none⟩ = some (.int .i64 nc) := B6.out.cellv rfl
            have c2 : W6.cell? ⟨xb, 2, none⟩ = some (.int .u64 na) := B6.out.cellv rfl
            have c3 : W6.cell? ⟨xb, 3, none⟩ = some (.int .u32 x) := B6.out.cellv rfl
            have WN : Hid (Win W6 31 4 (.slice a1 k c1) k (ncs L)) := Lib.hid (by have := A6.out.win; rw [HL.out] at this; exact this)
            go_wp2_with (refine wpList_append_win _ rfl (.tmp 82) (.tmp 84) 22 rfl 31 i31 _ 4 32 Try.underlying22 hi31 hz0 hz1 hz2 rfl (by decide) _ _ _ rfl (WN.out.alloc _) ⟨W6.heap.size, 0, none⟩ 1 1 [.int .i64 5, .int .i64 nc, .int .u64 na, .int .u32 x] rfl rfl (news4 W6 _ _ _ _ _) (by simp [Value.oneCell']) (by omega) (by simp only [maxLen]; omega) (by omega) (W6.heap.size + 1) (by simp) ?_; intro g7 o7 cp7 w7 hw hg hat; have P7 := Lib.hid (And.intro (A6.out.push (n := ⟨5, nc, na, x⟩) rfl S7.out (by rw [HL.out]; exact hw) ((World.grownBy_alloc W6 _ _).trans hg) hat HWB.out BM.out) (show w.heap.size + 1 ≤ w7.heap.size from Nat.le_trans S7.out ((World.grownBy_alloc W6 _ _).trans hg).size)); clear hw hg hat)
            go_roundw
            case rel => exact ⟨k + 1, L ++ [⟨5, nc, na, x⟩], _, _, by omega, by omega, by rw [List.length_append, HL.out]; rfl, by go_num, rfl, by have := P7.out; rw [HL.out] at this; exact Lib.hid this⟩
            case measure => simp [intOf]; omega
          · obtain ⟨m, hm, hml⟩ := PK.out (Z k) h2
            obtain ⟨bp, op, hap, cz, wz⟩ := HZ5.out k h1
            obtain ⟨z0, z1⟩ := i64_rng wz
            subst hap
            clear wz
            obtain ⟨b5, o5, ha5, hb5, cx⟩ := D5'.out m _ (List.getElem?_eq_getElem hml)
            subst ha5
            have cz3 : w5.cell? ⟨wr.heap.size, 3, none⟩ = some (.int .u32 nw) := BN.out.cellv rfl
            have fz : w5.frozen? ⟨wr.heap.size, 3, none⟩ = false := BN.out.frozen 3
            have BM := Lib.hid (MM.out _ (List.getElem_mem hml))
            have B6 := Lib.hid (BN.out.set_ 3 (.int .u32 B[m]))
            have A6 := Lib.hid (A5.out.set (xb := wr.heap.size) (i := 3) rfl NEX.out S5.out (.int .u32 B[m]))
            have S7 := Lib.hid (show w.heap.size + 1 ≤ (w5.setCell ⟨wr.heap.size, 3, none⟩ (.int .u32 B[m])).heap.size from by have := S6.out; simpa [World.setCell] using this)
            have HWB := Lib.hid (WB.out _ (List.getElem_mem hml))
            go_upto_region 22 with fail
            generalize (w5.setCell ⟨wr.heap.size, 3, none⟩ (.int .u32 B[m])) = W6 at *
            generalize B[m] = x at *
            clear cx fz cz3
            generalize wr.heap.size = xb at *
            have c0 : W6.cell? ⟨xb, 0, none⟩ = some (.int .i64 5) := B6.out.cellv rfl
            have c1' : W6.cell? ⟨xb, 1, none⟩ = some (.int .i64 nc) := B6.out.cellv rfl
            have c2 : W6.cell? ⟨xb, 2, none⟩ = some (.int .u64 na) := B6.out.cellv rfl
            have c3 : W6.cell? ⟨xb, 3, none⟩ = some (.int .u32 x) := B6.out.cellv rfl
            have WN : Hid (Win W6 31 4 (.slice a1 k c1) k (ncs L)) := Lib.hid (by have := A6.out.win; rw [HL.out] at this; exact this)
            go_wp2_with (refine wpList_append_win _ rfl (.tmp 82) (.tmp 84) 22 rfl 31 i31 _ 4 32 Try.underlying22 hi31 hz0 hz1 hz2 rfl (by decide) _ _ _ rfl (WN.out.alloc _) ⟨W6.heap.size, 0, none⟩ 1 1 [.int .i64 5, .int .i64 nc, .int .u64 na, .int .u32 x] rfl rfl (news4 W6 _ _ _ _ _) (by simp [Value.oneCell']) (by omega) (by simp only [maxLen]; omega) (by omega) (W6.heap.size + 1) (by simp) ?_; intro g7 o7 cp7 w7 hw hg hat; have P7 := Lib.hid (And.intro (A6.out.push (n := ⟨5, nc, na, x⟩) rfl S7.out (by rw [HL.out]; exact hw) ((World.grownBy_alloc W6 _ _).trans hg) hat HWB.out BM.out) (show w.heap.size + 1 ≤ w7.heap.size from Nat.le_trans S7.out ((World.grownBy_alloc W6 _ _).trans hg).size)); clear hw hg hat)
            go_roundw
            case rel => exact ⟨k + 1, L ++ [⟨5, nc, na, x⟩], _, _, by omega, by omega, by rw [List.length_append, HL.out]; rfl, by go_num, rfl, by have := P7.out; rw [HL.out] at this; exact Lib.hid this⟩
            case measure => simp [intOf]; omega
          · obtain ⟨kk, hkk⟩ : ∃ kk, -(Z k + 1) = kk := ⟨_, rfl⟩
            have hneg : 0 ≤ kk := by omega
            obtain ⟨m, hm, hml⟩ := PK.out kk hneg
            obtain ⟨bp, op, hap, cz, wz⟩ := HZ5.out k h1
            obtain ⟨z0, z1⟩ := i64_rng wz
            have hmx : kk ≤ 9223372036854775807 := by omega
            subst hap
            clear wz
            obtain ⟨b5, o5, ha5, hb5, cx⟩ := D5'.out m _ (List.getElem?_eq_getElem hml)
            subst ha5
            have cz3 : w5.cell? ⟨wr.heap.size, 3, none⟩ = some (.int .u32 nw) := BN.out.cellv rfl
            have fz : w5.frozen? ⟨wr.heap.size, 3, none⟩ = false := BN.out.frozen 3
            have BM := Lib.hid (MM.out _ (List.getElem_mem hml))
            have B6 := Lib.hid (BN.out.set_ 3 (.int .u32 B[m]))
            have A6 := Lib.hid (A5.out.set (xb := wr.heap.size) (i := 3) rfl NEX.out S5.out (.int .u32 B[m]))
            have S7 := Lib.hid (show w.heap.size + 1 ≤ (w5.setCell ⟨wr.heap.size, 3, none⟩ (.int .u32 B[m])).heap.size from by have := S6.out; simpa [World.setCell] using this)
            have HWB := Lib.hid (WB.out _ (List.getElem_mem hml))
            go_upto_region 22 with fail
            generalize (w5.setCell ⟨wr.heap.size, 3, none⟩ (.int .u32 B[m])) = W6 at *
            generalize B[m] = x at *
            clear cx fz cz3
            generalize wr.heap.size = xb at *
            have c0 : W6.cell? ⟨xb, 0, none⟩ = some (.int .i64 5) := B6.out.cellv rfl
            have c1' : W6.cell? ⟨xb, 1, none⟩ = some (.int .i64 nc) := B6.out.cellv rfl
            have c2 : W6.cell? ⟨xb, 2, none⟩ = some (.int .u64 na) := B6.out.cellv rfl
            have c3 : W6.cell? ⟨xb, 3, none⟩ = some (.int .u32 x) := B6.out.cellv rfl
            have WN : Hid (Win W6 31 4 (.slice a1 k c1) k (ncs L)) := Lib.hid (by have := A6.out.win; rw [HL.out] at this; exact this)
            go_wp2_with (refine wpList_append_win _ rfl (.tmp 82) (.tmp 84) 22 rfl 31 i31 _ 4 32 Try.underlying22 hi31 hz0 hz1 hz2 rfl (by decide) _ _ _ rfl (WN.out.alloc _) ⟨W6.heap.size, 0, none⟩ 1 1 [.int .i64 5, .int .i64 nc, .int .u64 na, .int .u32 x] rfl rfl (news4 W6 _ _ _ _ _) (by simp [Value.oneCell']) (by omega) (by simp only [maxLen]; omega) (by omega) (W6.heap.size + 1) (by simp) ?_; intro g7 o7 cp7 w7 hw hg hat; have P7 := Lib.hid (And.intro (A6.out.push (n := ⟨5, nc, na, x⟩) rfl S7.out (by rw [HL.out]; exact hw) ((World.grownBy_alloc W6 _ _).trans hg) hat HWB.out BM.out) (show w.heap.size + 1 ≤ w7.heap.size from Nat.le_trans S7.out ((World.grownBy_alloc W6 _ _).trans hg).size)); clear hw hg hat)
            go_roundw
            case rel => exact ⟨k + 1, L ++ [⟨5, nc, na, x⟩], _, _, by omega, by omega, by rw [List.length_append, HL.out]; rfl, by go_num, rfl, by have := P7.out; rw [HL.out] at this; exact Lib.hid this⟩
            case measure => simp [intOf]; omega
      · have h5' : (nk == 5) = false := by simp [h5]
        have AW := Lib.hid (AA.out.1.to ((Fr.refl Nil wr).alloc (.cells #[.int .i64 nk, .int .i64 nc, .int .u64 na, .int .u32 nw] 31)))
        have SW := Lib.hid (show w.heap.size + 1 ≤ (wr.alloc (.cells #[.int .i64 nk, .int .i64 nc, .int .u64 na, .int .u32 nw] 31)).heap.size from by rw [World.size_alloc]; have := AA.out.2; omega)
        have hb5 := Lib.hid (show badAt first L ⟨nk, nc, na, nw⟩ = false by simp [badAt, h5])
        have WN : Hid (Win (wr.alloc (.cells #[.int .i64 nk, .int .i64 nc, .int .u64 na, .int .u32 nw] 31)) 31 4 (.slice a1 k c1) k (ncs L)) := Lib.hid (by have := AW.out.win; rw [HL.out] at this; exact this)
        clear h5 AA
        go_upto_region 22 with fail
        have BN := Lib.hid (Blk.new wr 31 #[.int .i64 nk, .int .i64 nc, .int .u64 na, .int .u32 nw])
        generalize (wr.alloc (.cells #[.int .i64 nk, .int .i64 nc, .int .u64 na, .int .u32 nw] 31)) = W6 at *
        generalize wr.heap.size = xb at *
        have c0 : W6.cell? ⟨xb, 0, none⟩ = some (.int .i64 nk) := BN.out.cellv rfl
        have c1' : W6.cell? ⟨xb, 1, none⟩ = some (.int .i64 nc) := BN.out.cellv rfl
        have c2 : W6.cell? ⟨xb, 2, none⟩ = some (.int .u64 na) := BN.out.cellv rfl
        have c3 : W6.cell? ⟨xb, 3, none⟩ = some (.int .u32 nw) := BN.out.cellv rfl
        go_wp2_with (refine wpList_append_win _ rfl (.tmp 82) (.tmp 84) 22 rfl 31 i31 _ 4 32 Try.underlying22 hi31 hz0 hz1 hz2 rfl (by decide) _ _ _ rfl (WN.out.alloc _) ⟨W6.heap.size, 0, none⟩ 1 1 [.int .i64 nk, .int .i64 nc, .int .u64 na, .int .u32 nw] rfl rfl (news4 W6 _ _ _ _ _) (by simp [Value.oneCell']) (by omega) (by simp only [maxLen]; omega) (by omega) (W6.heap.size + 1) (by simp) ?_; intro g7 o7 cp7 w7 hw hg hat; have P7 := Lib.hid (And.intro (AW.out.push (n := ⟨nk, nc, na, nw⟩) rfl SW.out (by rw [HL.out]; exact hw) ((World.grownBy_alloc W6 _ _).trans hg) hat HOK.out hb5.out) (show w.heap.size + 1 ≤ w7.heap.size from Nat.le_trans SW.out ((World.grownBy_alloc W6 _ _).trans hg).size)); clear hw hg hat)
        go_roundw
        case rel => exact ⟨k + 1, L ++ [⟨nk, nc, na, nw⟩], _, _, by omega, by omega, by rw [List.length_append, HL.out]; rfl, by go_num, rfl, by have := P7.out; rw [HL.out] at this; exact Lib.hid this⟩
        case measure => simp [intOf]; omega
    · have hend : (k < l.length ∧ decide ((k : Int) < 60) = false) ∨ decide (k < l.length) = false := by simp; omega
      have hcap1 : k ≤ c1 := by obtain ⟨_, _, he, h, _, _⟩ := AA.out.1.win.shape; cases he; rw [HL.out] at h; exact h
      have N1 : Hid (Nts wr a1 L) := Lib.hid (by have := AA.out.1.win; rw [HL.out] at this; exact this.nts)
      have CL := Lib.hid AA.out.1.clean.all
      cases hr : rightL L with
      | false =>
        have CB := Lib.hid (check_bad L AA.out.1.ok a1 c1 (.func (.func 13) #[] #[.pointer (some ⟨w.heap.size, 0, none⟩)]) wr (by unfold maxLen; have := HL.out; omega) (by rw [HL.out]; exact hcap1) N1.out hr)
        rw [HL.out] at CB
        clear hr
        rcases hend with ⟨h1, h2⟩ | h2
        all_goals
          go_wp2_with fail
          refine CB.out.mono ?_
          rintro e w5 ⟨rfl, F5⟩
          have FF := Lib.hid (AA.out.1.fr.trans F5)
          clear F5
          go_wp2_with fail
          go_ret
          exact ⟨rfl, FF.out⟩
      | true =>
        have CB := Lib.hid (check_none2 first w.heap.size L HL.out CL.out AA.out.1.ok a1 c1 wr (by have := HL.out; omega) hcap1 N1.out hr AA.out.1.box)
        have hok : mayOk 1 64 L = true := by simp [mayOk, hr]
        have YES := Lib.hid (fun W h => may_yes2 L HL.out AA.out.1.ok 1 64 first (by omega) (by omega) a1 c1 W (by have := HL.out; omega) hcap1 h hok rfl rfl)
        have hlen := may_len 1 64 first L
        rw [HL.out] at hlen
        have HR := Lib.hid (show rightL (L ++ [⟨5, 1, 64, bad⟩]) = true by rw [rightL_append, hr]; simp [rightL, rightN])
        have CH := Lib.hid (chk_snoc first [] L ⟨5, 1, 64, bad⟩ CL.out)
        rw [List.nil_append, bad_may, HL.out] at CH
        clear hr hok
        generalize may 1 64 first L = B at *
        rcases hend with ⟨h1, h2⟩ | h2
        all_goals
          go_wp2_with fail
          refine CB.out.mono ?_
          rintro e w5 ⟨rfl, F5⟩
          have A5 := Lib.hid (AA.out.1.to F5)
          have S5 := Lib.hid (Nat.le_trans AA.out.2 F5.size)
          have cbx : w5.cell? ⟨w.heap.size, 0, none⟩ = some (.int .u32 first) := A5.out.box.cellv rfl
          have N5 := Lib.hid (N1.out.fr F5)
          clear F5
          go_wp2_with fail
          refine (YES.out w5 N5.out).mono ?_
          rintro e w6 ⟨a6, c6, rfl, F6, D6, q6, K6⟩
          have A6 := Lib.hid (A5.out.to F6)
          have S6 := Lib.hid (Nat.le_trans S5.out F6.size)
          have D6' := Lib.hid D6
          have Q6 := Lib.hid q6
          have K6' := Lib.hid (show ∀ b off, a6 = some ⟨b, off, none⟩ → (Value.slice a1 k c1).ownBlock ≠ some b from fun b off h e => by have h1 := K6 b off h; have h2 := A5.out.win.lt e; omega)
          have WN : Hid (Win w6 31 4 (.slice a1 k c1) k (ncs L)) := Lib.hid (by have := A6.out.win; rw [HL.out] at this; exact this)
          clear F6 D6 q6 K6 cbx
          go_wp2_with (refine wpList_append_win _ rfl (.tmp 106) (.tmp 109) 22 rfl 31 i31 _ 4 32 Try.underlying22 hi31 hz0 hz1 hz2 rfl (by decide) _ _ _ rfl (WN.out.alloc _) ⟨w6.heap.size, 0, none⟩ 1 1 [.int .i64 5, .int .i64 1, .int .u64 64, .int .u32 bad] rfl rfl (news4 w6 _ _ _ _ _) (by simp [Value.oneCell']) (by omega) (by simp only [maxLen]; omega) (by omega) (w6.heap.size + 1) (by simp) ?_; intro g7 o7 cp7 w7 hw hg hat; have G7 := Lib.hid ((World.grownBy_alloc w6 _ _).trans hg); have W7 := Lib.hid hw; clear hw hg hat)
          have BX7 := Lib.hid (A6.out.box.grown G7.out fun e => by have := A6.out.own _ e.symm; omega)
          have FR7 := Lib.hid (A6.out.fr.grown G7.out fun k hk => .inr (by have := A6.out.own _ hk; omega))
          have D7 : Hid (Wds w7 a6 B) := Lib.hid (fun i x hi => by
            obtain ⟨b, off, h1, h2, h3⟩ := D6'.out i x hi
            exact ⟨b, off, h1, Nat.lt_of_lt_of_le h2 G7.out.size, cell_grown h3 G7.out h2 fun k hk e => by subst e; exact K6'.out _ _ h1 hk⟩)
          have N7 : Hid (Nts w7 (some ⟨g7, o7, none⟩) (L ++ [⟨5, 1, 64, bad⟩])) := Lib.hid (by
            have := W7.out
            rw [show ([.int .i64 5, .int .i64 1, .int .u64 64, .int .u32 bad] : List Value) = ncs [⟨5, 1, 64, bad⟩] from rfl, ← ncs_append] at this
            exact this.nts)
          have Q7 : Hid (k + 1 ≤ cp7) := Lib.hid (by obtain ⟨_, _, he, h, _, _⟩ := W7.out.shape; cases he; exact h)
          have OKN := Lib.hid (show ∀ n ∈ L ++ [⟨5, 1, 64, bad⟩], n.Ok from fun n hn => by rcases List.mem_append.1 hn with h | h; exact A6.out.ok n h; rw [List.mem_singleton.1 h]; exact okN _ _ _ _ (by omega))
          cases hq : B.contains bad with
          | true =>
            rw [hq] at CH
            have C2 := Lib.hid (check_none2 (v := -1) first w.heap.size (L ++ [⟨5, 1, 64, bad⟩]) (by rw [List.length_append, HL.out]; rfl) CH.out OKN.out (some ⟨g7, o7, none⟩) cp7 w7 (by rw [List.length_append, HL.out]; simp; omega) Q7.out N7.out HR.out BX7.out)
            refine C2.out.mono ?_
            rintro e w8 ⟨rfl, F8⟩
            have F8' := Lib.hid F8
            clear F8
            go_wp2_with fail
            have IN := Lib.hid (in_ok B bad a6 c6 w8 (by unfold maxLen; omega) Q6.out (D7.out.fr F8'.out))
            rw [hq] at IN
            clear hq
            refine IN.out.mono ?_
            rintro e w' ⟨rfl, rfl⟩
            go_wp2_with fail
            go_ret
            exact ⟨rfl, FR7.out.trans F8'.out⟩
          | false =>
            rw [hq] at CH
            have C2 := Lib.hid (check_none2 (v := (k : Int)) first w.heap.size (L ++ [⟨5, 1, 64, bad⟩]) (by rw [List.length_append, HL.out]; rfl) CH.out OKN.out (some ⟨g7, o7, none⟩) cp7 w7 (by rw [List.length_append, HL.out]; simp; omega) Q7.out N7.out HR.out BX7.out)
            refine C2.out.mono ?_
            rintro e w8 ⟨rfl, F8⟩
            have F8' := Lib.hid F8
            clear F8
            go_wp2_with fail
            have IN := Lib.hid (in_ok B bad a6 c6 w8 (by unfold maxLen; omega) Q6.out (D7.out.fr F8'.out))
            rw [hq] at IN
            clear hq
            refine IN.out.mono ?_
            rintro e w' ⟨rfl, rfl⟩
            go_wp2_with fail
            go_ret
            exact ⟨rfl, FR7.out.trans F8'.out⟩
theorem fetchAgrees_walk (a0 : Option Addr) (len cap : Nat) (V : Nat → Nat → Int) (a1 : Option Addr) (len1 cap1 : Nat) (Z : Nat → Int) (first bad : Int) (w : World) (hl : len ≤ cap) (hcap : cap ≤ maxLen) (hs : SlRows [.i64, .i64, .u64, .u32] w a0 len V) (hl1 : len1 ≤ cap1) (hcap1 : cap1 ≤ maxLen) (hs1 : SlInts .i64 w a1 len1 Z) (w1 : (Lit.int .u32 first).wf = true) (w2 : (Lit.int .u32 bad).wf = true) :
    Calls Try.prog 5 #[.slice a0 len cap, .slice a1 len1 cap1, .int .u32 first, .int .u32 bad] w fun e w' => e = .returned (.bool true) ∧ Below w.heap.size w w' := by
  obtain ⟨x0, x1⟩ := u32_rng w1
  obtain ⟨y0, y1⟩ := u32_rng w2
  have h := agrees_gen (lN V len) (lN_ok hs) a0 a1 cap len1 cap1 Z first bad w (by rw [lN_length]; omega) (by rw [lN_length]; exact hl) (lN_nts hs) hl1 hcap1 hs1 x0 x1 y0 y1
  rw [lN_length] at h
  exact h.mono fun e w' h => ⟨h.1, Fr.bel h.2⟩
end Go.Proofs.Ytdbgfnkcphbgfaa
