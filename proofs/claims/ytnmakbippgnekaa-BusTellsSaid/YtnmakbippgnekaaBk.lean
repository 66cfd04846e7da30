/- The bus: the law's own bus; the examples, walked. -/
import Derived.Test.YtnmakbippgnekaaBn
set_option linter.unusedSimpArgs false
set_option linter.unusedVariables false
set_option linter.unusedSectionVars false
namespace Go.Proofs.Ytnmakbippgnekaa
open Go.RowKit
set_option maxRecDepth 100000

/-- A bus that the law itself made: w0 is where the law began. -/
structure Bw (w0 w : World) (bb gb tb : Nat) (B : BS) : Prop where
  mem : Bk (fun k => k < w0.heap.size) w bb gb tb B
  fr : Fr (Not fun k => k < w0.heap.size) w0 w
def Bv (w0 : World) (bb gb tb : Nat) (B : BS) (v : Value) (e : Ending) (w' : World) : Prop := e = .returned v ∧ Bw w0 w' bb gb tb B
section
variable {w0 w w' : World} {bb gb tb : Nat} {B B' : BS} {v : Value} {f : FuncId} {args : Array Value}
theorem Bw.of (h : Bw w0 w bb gb tb B) (c : Calls Try.prog f args w (Bn (fun k => k < w0.heap.size) bb gb tb w B' v)) : Calls Try.prog f args w (Bv w0 bb gb tb B' v) := by
  refine c.mono ?_
  rintro e w' ⟨rfl, h1, f1⟩
  exact ⟨rfl, h1, h.fr.trans f1⟩
theorem Bw.ofR (h : Bw w0 w bb gb tb B) (c : Calls Try.prog f args w fun e w' => e = .returned v ∧ Fr Nil w w') : Calls Try.prog f args w (Bv w0 bb gb tb B v) := by
  refine c.mono ?_
  rintro e w' ⟨rfl, f1⟩
  exact ⟨rfl, h.mem.still f1, h.fr.trans f1.nil⟩
theorem Bw.still (h : Bw w0 w bb gb tb B) (f : Fr Nil w w') : Bw w0 w' bb gb tb B := ⟨h.mem.still f, h.fr.trans f.nil⟩
theorem Bw.below (h : Bw w0 w bb gb tb B) : Below w0.heap.size w0 w := h.fr.below (Nat.le_refl _) fun k hk hn => hn hk
theorem Bw.write (h : Bw w0 w bb gb tb B) (c a x : Int) (a0 : 0 ≤ a) (a1 : a ≤ 18446744073709551615) (x0 : 0 ≤ x) (x1 : x ≤ 18446744073709551615) {y : Int} (hy : wrF B c a = y) {B' : BS} (hB : wrB B c a x = B') :
    Calls Try.prog 9 #[.pointer (some ⟨bb, 0, none⟩), .int .i64 c, .int .u64 a, .int .u64 x] w (Bv w0 bb gb tb B' (.int .i64 y)) := by
  subst hy
  subst hB
  exact h.of (write_ok c a x w h.mem a0 a1 x0 x1)
theorem Bw.read (h : Bw w0 w bb gb tb B) (c a : Int) (a0 : 0 ≤ a) (a1 : a ≤ 18446744073709551615) {x y : Int} (hx : rdB B c a = (x, y)) :
    Calls Try.prog 13 #[.pointer (some ⟨bb, 0, none⟩), .int .i64 c, .int .u64 a] w (Bv w0 bb gb tb B (.tuple #[.int .u64 x, .int .i64 y])) := by
  have := read_ok c a w h.mem a0 a1
  rw [hx] at this
  exact h.ofR this
theorem Bw.set_ (h : Bw w0 w bb gb tb B) (c el sy x : Int) (x0 : 0 ≤ x) (x1 : x ≤ 18446744073709551615) (n : Nat) (hn : n ≤ 1000) (ha : AtLe B.g n) {y : Int} (hy : setV B c el sy = y) {B' : BS} (hB : setS B c el sy x = B') :
    Calls Try.prog 11 #[.pointer (some ⟨bb, 0, none⟩), .int .i64 c, .int .i64 el, .int .i64 sy, .int .u64 x] w (Bv w0 bb gb tb B' (.int .i64 y)) := by
  subst hy
  subst hB
  exact h.of (setsys_ok c el sy x w h.mem x0 x1 n hn ha)
theorem Bw.sys (h : Bw w0 w bb gb tb B) (c el sy : Int) (n : Nat) (hn : n ≤ 1000) (ha : AtLe B.g n) {x y : Int} (hy : sysV B c el sy = (x, y)) {B' : BS} (hB : sysS B c el sy = B') :
    Calls Try.prog 17 #[.pointer (some ⟨bb, 0, none⟩), .int .i64 c, .int .i64 el, .int .i64 sy] w (Bv w0 bb gb tb B' (.tuple #[.int .u64 x, .int .i64 y])) := by
  have := sys_ok c el sy w h.mem n hn ha
  rw [hy, hB] at this
  exact h.of this
theorem Bw.tick (h : Bw w0 w bb gb tb B) (x : Int) {B' : BS} (hB : B.lined { B.t with t := IntKind.u64.wrap (B.t.t + x) } = B') :
    Calls Try.prog 16 #[.pointer (some ⟨bb, 0, none⟩), .int .u64 x] w (Bv w0 bb gb tb B' (.tuple #[])) := by
  subst hB
  exact h.of (tick_ok x w h.mem)
theorem Bw.pend (h : Bw w0 w bb gb tb B) (c id : Int) {x : Bool} (hx : B.g.tellB I.pn c id = x) : Calls Try.prog 21 #[.pointer (some ⟨gb, 0, none⟩), .int .i64 c, .int .i64 id] w (Bv w0 bb gb tb B (.bool x)) := by
  subst hx
  refine h.ofR ((h.mem.gicR fun K' hg => hg.pending c id).mono ?_)
  rintro e w' ⟨rfl, rfl⟩
  exact ⟨rfl, Fr.refl _ _⟩
theorem Bw.rate (h : Bw w0 w bb gb tb B) (c id : Int) {x : Int} (hx : B.g.rate c id = x) : Calls Try.prog 19 #[.pointer (some ⟨gb, 0, none⟩), .int .i64 c, .int .i64 id] w (Bv w0 bb gb tb B (.int .i64 x)) := by
  subst hx
  refine h.ofR ((h.mem.gicR fun K' hg => hg.rate c id).mono ?_)
  rintro e w' ⟨rfl, rfl⟩
  exact ⟨rfl, Fr.refl _ _⟩
theorem Bw.gicp (h : Bw w0 w bb gb tb B) : Calls Try.prog 18 #[.pointer (some ⟨bb, 0, none⟩)] w (Bv w0 bb gb tb B (.pointer (some ⟨gb, 0, none⟩))) := by
  refine h.ofR ((gicp_ok w h.mem).mono ?_)
  rintro e w' ⟨rfl, rfl⟩
  exact ⟨rfl, Fr.refl _ _⟩
theorem Bw.timp (h : Bw w0 w bb gb tb B) : Calls Try.prog 20 #[.pointer (some ⟨bb, 0, none⟩)] w (Bv w0 bb gb tb B (.pointer (some ⟨tb, 0, none⟩))) := by
  refine h.ofR ((timp_ok w h.mem).mono ?_)
  rintro e w' ⟨rfl, rfl⟩
  exact ⟨rfl, Fr.refl _ _⟩
theorem Bw.out (h : Bw w0 w bb gb tb B) {l : List UInt8} (hl : B.o = l) : Calls Try.prog 15 #[.pointer (some ⟨bb, 0, none⟩)] w (Bv w0 bb gb tb B (.string ⟨l.toArray⟩)) := by
  subst hl
  refine h.ofR ((out_ok w h.mem).mono ?_)
  rintro e w' ⟨rfl, rfl⟩
  exact ⟨rfl, Fr.refl _ _⟩
end
def BwTo (w0 : World) (n : Nat) (e : Ending) (w' : World) : Prop := ∃ bb gb tb, e = .returned (.tuple #[.pointer (some ⟨bb, 0, none⟩), .int .i64 0]) ∧ Bw w0 w' bb gb tb (B0 n)
theorem bw_new {w0 w : World} (f : Fr (Not fun k => k < w0.heap.size) w0 w) (n : Nat) {z : Int} (hz : z = (n : Int)) (h1 : 1 ≤ n) (h8 : n ≤ 8) : Calls Try.prog 8 #[.int .i64 z] w (BwTo w0 n) := by
  refine (bnew_ok (fun k => k < w0.heap.size) n w hz h1 h8 fun k hk => Nat.lt_of_lt_of_le hk f.size).mono ?_
  rintro e w' ⟨bb, gb, tb, rfl, h, f2⟩
  exact ⟨bb, gb, tb, rfl, h, f.trans f2.nil⟩
theorem put_at (s : GS) (c id : Nat) (y : I) : (s.put c id y).at_ = s.at_ := by unfold GS.put; split <;> rfl
theorem setF_at (s : GS) (c id : Int) (f : I → I) : (s.setF c id f).at_ = s.at_ := by
  unfold GS.setF
  split
  · exact put_at _ _ _ _
  · rfl
theorem line_at (s : GS) (c id : Int) (v : Bool) : (s.line c id v).at_ = s.at_ := by
  unfold GS.line
  split
  · exact setF_at _ _ _ _
  · rfl
theorem rank_at (s : GS) (c id v : Int) : (s.rank c id v).at_ = s.at_ := by
  unfold GS.rank
  split
  · exact setF_at _ _ _ _
  · rfl
theorem route_at (s : GS) (id v : Int) : (s.route id v).at_ = s.at_ := by
  unfold GS.route
  split
  · exact setF_at _ _ _ _
  · rfl
theorem mask_at (s : GS) (c v : Int) : (s.mask c v).at_ = s.at_ := by unfold GS.mask; split <;> rfl
theorem sendK_at (s : GS) (t : Int) (id : Nat) : ∀ k, (s.sendK t id k).at_ = s.at_
  | 0 => rfl
  | k + 1 => by
    unfold GS.sendK
    split
    · exact (put_at _ _ _ _).trans (sendK_at s t id k)
    · exact sendK_at s t id k
theorem send_at (s : GS) (t id : Int) : (s.send t id).at_ = s.at_ := by
  unfold GS.send
  split
  · exact sendK_at _ _ _ _
  · rfl
theorem linesG_at (t : Tim.Ts) (g : GS) : ∀ k, (linesG t k g).at_ = g.at_
  | 0 => rfl
  | k + 1 => (line_at _ _ _ _).trans (linesG_at t g k)
theorem allG_at (f : GS → Nat → GS) (hf : ∀ g k, (f g k).at_ = g.at_) (v : Int) (g : GS) : ∀ k, (allG f v k g).at_ = g.at_
  | 0 => rfl
  | k + 1 => by
    unfold allG
    split
    · exact (hf _ _).trans (allG_at f hf v g k)
    · exact allG_at f hf v g k
theorem AtLe.same {s s' : GS} {n : Nat} (h : AtLe s n) (hc : s'.c = s.c) (ha : s'.at_ = s.at_) : AtLe s' n := by
  intro i hi
  rw [ha]
  exact h i (by rw [← hc]; exact hi)
theorem AtLe.up {s : GS} {n m : Nat} (h : AtLe s n) (hm : n ≤ m) : AtLe s m := fun i hi => Nat.le_trans (h i hi) hm
theorem AtLe.wr {B : BS} {n : Nat} (h : AtLe B.g n) (c a v : Int) : AtLe (wrB B c a v).g n := by
  unfold wrB
  split
  · split
    · rename_i J hJ
      have a2 := (whereP_some hJ).1
      have : J = 0 ∨ J = 1 ∨ J = 2 ∨ J = 3 ∨ J = 4 ∨ J = 5 := by omega
      rcases this with rfl | rfl | rfl | rfl | rfl | rfl
      · exact h.same (allG_c _ (fun g k => enable_c g _ _ _) _ _ _) (allG_at _ (fun g k => setF_at g _ _ _) _ _ _)
      · exact h.same (allG_c _ (fun g k => pend_c g _ _ _) _ _ _) (allG_at _ (fun g k => setF_at g _ _ _) _ _ _)
      · exact h
      · exact h.same (rank_c _ _ _ _) (rank_at _ _ _ _)
      · unfold wrReg
        simp only
        split
        · exact h.same (route_c _ _ _) (route_at _ _ _)
        · exact h
      · exact h
    · exact h
  · exact h
theorem AtLe.lined {B : BS} {n : Nat} (h : AtLe B.g n) (t : Tim.Ts) : AtLe (B.lined t).g n := h.same (linesG_c _ _ _) (linesG_at _ _ _)
theorem dropI_len (l : List Mo) (x : Int) : (dropI l x).length ≤ l.length := by
  unfold dropI; exact List.length_eraseP_le
theorem AtLe.set_ {B : BS} {n : Nat} (h : AtLe B.g n) (c el sy v : Int) : AtLe (setS B c el sy v).g n := by
  unfold setS
  split
  · split
    · exact h.lined _
    · split
      · exact h.same (mask_c _ _ _) (mask_at _ _ _)
      · split
        · intro i hi
          have hi' : i < B.g.c := by rw [← eoi_c B.g c (v % 16777216)]; exact hi
          refine Nat.le_trans ?_ (h i hi')
          show ((B.g.eoi c (v % 16777216)).at_ i).length ≤ _
          unfold GS.eoi GS.eoiN
          split
          · split
            · show (upd B.g.at_ _ _ i).length ≤ _
              unfold upd
              split
              · rename_i e
                rw [e]
                exact dropI_len _ _
              · exact Nat.le_refl _
            · exact Nat.le_refl _
          · exact Nat.le_refl _
        · split
          · exact h.same (send_c _ _ _) (send_at _ _ _)
          · exact h
  · exact h
theorem AtLe.sys {B : BS} {n : Nat} (h : AtLe B.g n) (c el sy : Int) : AtLe (sysS B c el sy).g (n + 1) := by
  unfold sysS
  split
  · intro i hi
    have hi' : i < B.g.c := by rw [← ack_c B.g c]; exact hi
    have := h i hi'
    show ((B.g.ack c).at_ i).length ≤ _
    unfold GS.ack GS.take
    split
    · show (upd B.g.at_ _ _ i).length ≤ _
      unfold upd
      split
      · rename_i e
        subst e
        simp
        omega
      · omega
    · omega
  · exact h.up (Nat.le_succ n)
theorem AtLe.b0 (n : Nat) : AtLe (B0 n).g 0 := fun i _ => Nat.le_refl 0
end Go.Proofs.Ytnmakbippgnekaa
