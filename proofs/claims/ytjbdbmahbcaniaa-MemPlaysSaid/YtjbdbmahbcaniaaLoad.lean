/- Contract of Load. -/
import Derived.Test.YtjbdbmahbcaniaaBak
set_option linter.unusedSimpArgs false
set_option linter.unusedSectionVars false
namespace Go.Proofs.Ytjbdbmahbcaniaa
open Go.RowKit Go.Shelf
set_option linter.unusedVariables false
attribute [local go_sem] Oper.semAt_some

/-- The newest store to an address. -/
def findL (l : List L) (a : Int) : Option L := l.reverse.find? fun x => x.a == a
def St.load (s : St) (i k : Nat) : Int × Nat := match findL (s.H i) (8 * (k : Int)) with
  | some x => (x.v, x.t)
  | none => (s.V k, s.T k)
set_option maxRecDepth 100000 in
set_option maxHeartbeats 2000000 in
theorem load_ok (q : Bs) (s : St) (i : Nat) (a : Int) (k : Nat) (w : World) (hm : MemAt w q s) (hi : i < s.c) (hk : k < s.n) (hn : s.n ≤ 8192) (ha : a = 8 * (k : Int)) (hl : (s.H i).length ≤ 1000000) :
    Calls Try.prog 15 #[.pointer (some ⟨q.b, 0, none⟩), .int .i64 (i : Int), .int .u64 a] w fun e w' => e = .returned (.tuple #[.int .u64 (s.load i k).1, .int .i64 ((s.load i k).2 : Int), .int .i64 0]) ∧ Fr Nil w w' := by
  have HM := Lib.hid hm
  have HA := Lib.hid (fun w' (h : MemAt w' q s) => at_ok q s a k w' h hk hn ha)
  have HC := Lib.hid (fun w' (h : MemAt w' q s) => core_ok q s (i : Int) w' h)
  have hd : decide (0 ≤ (i : Int) ∧ (i : Int) < (s.c : Int)) = true := by simp; omega
  rw [hd] at HC
  clear hd
  refine (callsIn_wide (n := 5)).1 ?_
  refine callsIn_of_wp_marks Try.func15 rfl trivial ?_ rfl
  simp only [Try.ntmps15, List.size_toArray, List.length_cons, List.length_nil, Nat.reduceAdd, Nat.reduceSub, Array.replicate_succ, Array.replicate_zero, List.push_toArray, List.append_toArray, List.nil_append, List.cons_append]
  have HA2 := Lib.hid ha
  clear ha
  gi_wp2_with fail
  have F0 : Fr Nil w ((((w.alloc (.cells #[.int .u64 a] 22)).alloc (.cells #[.int .u64 0] 22)).alloc (.cells #[.int .i64 0] 3)).alloc (.cells #[.int .i64 0] 25)) := ((((Fr.refl Nil w).alloc _).alloc _).alloc _).alloc _
  have b5 : Boxed ((((w.alloc (.cells #[.int .u64 a] 22)).alloc (.cells #[.int .u64 0] 22)).alloc (.cells #[.int .i64 0] 3)).alloc (.cells #[.int .i64 0] 25)) w.heap.size 22 (.int .u64 a) := (((Boxed.new w 22 (.int .u64 a)).alloc _).alloc _).alloc _
  have b6 : Boxed ((((w.alloc (.cells #[.int .u64 a] 22)).alloc (.cells #[.int .u64 0] 22)).alloc (.cells #[.int .i64 0] 3)).alloc (.cells #[.int .i64 0] 25)) (w.heap.size + 1) 22 (.int .u64 0) := (by simpa using (((Boxed.new (w.alloc (.cells #[.int .u64 a] 22)) 22 (.int .u64 0)).alloc _).alloc _))
  have b7 : Boxed ((((w.alloc (.cells #[.int .u64 a] 22)).alloc (.cells #[.int .u64 0] 22)).alloc (.cells #[.int .i64 0] 3)).alloc (.cells #[.int .i64 0] 25)) (w.heap.size + 1 + 1) 3 (.int .i64 0) := (by simpa using ((Boxed.new ((w.alloc (.cells #[.int .u64 a] 22)).alloc (.cells #[.int .u64 0] 22)) 3 (.int .i64 0)).alloc _))
  have b8 : Boxed ((((w.alloc (.cells #[.int .u64 a] 22)).alloc (.cells #[.int .u64 0] 22)).alloc (.cells #[.int .i64 0] 3)).alloc (.cells #[.int .i64 0] 25)) (w.heap.size + 1 + 1 + 1) 25 (.int .i64 0) := (by simpa using (Boxed.new (((w.alloc (.cells #[.int .u64 a] 22)).alloc (.cells #[.int .u64 0] 22)).alloc (.cells #[.int .i64 0] 3)) 25 (.int .i64 0)))
  have hsz : ((((w.alloc (.cells #[.int .u64 a] 22)).alloc (.cells #[.int .u64 0] 22)).alloc (.cells #[.int .i64 0] 3)).alloc (.cells #[.int .i64 0] 25)).heap.size = w.heap.size + 4 := by simp
  generalize ((((w.alloc (.cells #[.int .u64 a] 22)).alloc (.cells #[.int .u64 0] 22)).alloc (.cells #[.int .i64 0] 3)).alloc (.cells #[.int .i64 0] 25)) = W0 at *
  have M0 := HM.out.fr0 F0
  have hlt : ∀ k, Foot q s k → k < w.heap.size := fun k => HM.out.lt
  have HLT := Lib.hid hlt
  clear hlt
  have hB0 : Below w.heap.size w W0 := ⟨F0.os, F0.tape, F0.output, F0.size, fun k hk => F0.block k hk id⟩
  refine ⟨trivial, (callsIn_wide.2 (HA.out _ M0)).mono ?_⟩
  rintro e w' ⟨rfl, rfl⟩
  gi_wp2_with fail
  refine ⟨trivial, (callsIn_wide.2 (HC.out _ M0)).mono ?_⟩
  rintro e w' ⟨rfl, rfl⟩
  have c1 : W0.cell? ⟨q.b, 1, none⟩ = some (.slice (some ⟨q.bh, 0, none⟩) s.c s.c) := M0.top.cellv rfl
  have c2 : W0.cell? ⟨q.bh, i, none⟩ = some (q.hv i) := M0.held.cellv (hvs_get hi)
  obtain ⟨ao, cap, hv, _, _, _⟩ := (M0.own i hi).shape
  rw [hv] at c2
  have i0 : (0 : Int) ≤ (i : Int) := by omega
  have i1 : (i : Int) < (s.c : Int) := by omega
  have HV := Lib.hid hv
  clear hv
  gi_wp2_with fail
  refine ⟨trivial, (back_in Fence.wide 4 trivial rfl _ _ _ _).mono ?_⟩
  rintro e w' ⟨rfl, rfl⟩
  have hown : ∀ k, (Value.slice ao (s.H i).length cap).ownBlock = some k → k < W0.heap.size := fun k hk => (M0.own i hi).lt (by rw [HV.out]; exact hk)
  have hw0 : Win W0 47 3 (.slice ao (s.H i).length cap) (s.H i).length (lcs (s.H i)) := by rw [← HV.out]; exact M0.own i hi
  have bN := Boxed.new W0 33 (.slice ao (s.H i).length cap)
  have hw1 := hw0.alloc (.cells #[.slice ao (s.H i).length cap] 33)
  have b51 := b5.alloc (.cells #[.slice ao (s.H i).length cap] 33)
  have b61 := b6.alloc (.cells #[.slice ao (s.H i).length cap] 33)
  have b71 := b7.alloc (.cells #[.slice ao (s.H i).length cap] 33)
  have b81 := b8.alloc (.cells #[.slice ao (s.H i).length cap] 33)
  have M1 := M0.fr0 ((Fr.refl Nil W0).alloc (.cells #[.slice ao (s.H i).length cap] 33))
  have hB1 : Below w.heap.size w (W0.alloc (.cells #[.slice ao (s.H i).length cap] 33)) := hB0.alloc hB0.size _
  have hsz1 : (W0.alloc (.cells #[.slice ao (s.H i).length cap] 33)).heap.size = w.heap.size + 5 := by simp [hsz]
  rw [hsz] at bN hown
  gi_wp2_with fail
  generalize (W0.alloc (.cells #[.slice ao (s.H i).length cap] 33)) = W1 at *
  clear b5 b6 b7 b8 M0 hB0 hw0 hsz F0 c1 c2 i0 i1
  refine wpIn_rangeFunc_ownH rfl (by decide) (gf := 53) (lb := #[.pointer (some ⟨w.heap.size + 4, 0, none⟩)]) rfl trivial (enters_of Try.func53 (by kernel_rfl) rfl)
    (back_stops Fence.wide 4 trivial rfl (by decide) (w.heap.size + 4) (w.heap.size + 5) _ (s.H i) hl W1 (by omega) (by omega) bN.cell hw1 (fun k hk => by have := hown k hk; omega)) belowK_t (belowK_b (by omega)) (Below.refl _ _) (fun _ => rfl)
    (fun pre W => (∀ p ∈ pre, p.2.a ≠ a) ∧ Below (w.heap.size + 5) W1 W)
    (fun c pre W => (c = .ret ∧ ∃ ini last, pre = ini ++ [last] ∧ (∀ p ∈ ini, p.2.a ≠ a) ∧ last.2.a = a ∧ Boxed W (w.heap.size + 1) 22 (.int .u64 last.2.v) ∧ Boxed W (w.heap.size + 1 + 1) 3 (.int .i64 (last.2.t : Int)) ∧ Boxed W (w.heap.size + 1 + 1 + 1) 25 (.int .i64 0)) ∧ Below w.heap.size W1 W)
    (OwnFrom.and (ownFrom_pure _ _) (ownFrom_below (by omega) (by omega)))
    (fun c => OwnFrom.and (Own.from (fun s A B row hs hg hr => by obtain ⟨hc, ini, last, e1, e2, e3, e4, e5, e6⟩ := hs; exact ⟨hc, ini, last, e1, e2, e3, boxed_own _ _ (fun _ => _) () A B row e4 hg hr, boxed_own _ _ (fun _ => _) () A B row e5 hg hr, boxed_own _ _ (fun _ => _) () A B row e6 hg hr⟩) _) (ownFrom_below (by omega) (by omega)))
    ⟨by simp, Below.refl _ _⟩
    (fun x a' W => ∃ Bx, w.heap.size + 5 ≤ Bx ∧ Blk W Bx 47 #[.int .u64 x.2.a, .int .u64 x.2.v, .int .i64 (x.2.t : Int)] ∧ a' = { tmps := #[Value.pointer (some ⟨q.b, 0, none⟩), Value.int IntKind.i64 ↑i, Value.int IntKind.u64 a, undef, undef, Value.pointer (some ⟨w.heap.size, 0, none⟩), Value.pointer (some ⟨w.heap.size + 1, 0, none⟩), Value.pointer (some ⟨w.heap.size + 1 + 1, 0, none⟩), Value.pointer (some ⟨w.heap.size + 1 + 1 + 1, 0, none⟩), Value.pointer (some ⟨q.bw, k * 2, none⟩), undef, Value.pointer (some ⟨Bx, 0, none⟩), Value.pointer (some ⟨q.b, 0, none⟩), Value.int IntKind.u64 a, Value.pointer (some ⟨q.bw, k * 2, none⟩), Value.pointer (some ⟨q.bw, k * 2, none⟩), Value.bool false, Value.bool false, Value.pointer (some ⟨q.b, 0, none⟩), Value.int IntKind.i64 ↑i, Value.bool true, Value.bool false, Value.bool false, Value.pointer (some ⟨q.b, 0, none⟩), Value.pointer (some ⟨q.b, 0, none⟩), Value.pointer (some ⟨q.b, 1, none⟩), Value.slice (some ⟨q.bh, 0, none⟩) s.c s.c, Value.int IntKind.i64 ↑i, Value.pointer (some ⟨q.bh, i, none⟩), Value.slice ao (s.H i).length cap, .func (.func 53) #[] #[.pointer (some ⟨w.heap.size + 4, 0, none⟩)], .int .i64 (x.1 : Int), .agg #[.int .u64 x.2.a, .int .u64 x.2.v, .int .i64 (x.2.t : Int)], undef, undef, undef, undef, undef, undef, undef, undef, undef, undef, undef, undef, undef, undef, undef, undef], defers := [] })
    (fun x a' _ X Y row hs hg hr => by obtain ⟨Bx, h1, h2, h3⟩ := hs; exact ⟨Bx, h1, h2.grown hg (fun e => by obtain ⟨_, o, ho, hc⟩ := hr _ e.symm; rw [show X.heap[Bx]? = _ from h2] at ho; cases ho; cases hc), h3⟩)
    ?assign ?body ?done ?stop
  case assign =>
    rintro l pre x W K ⟨hp, hB⟩ hK
    gi_wp2
    have hs := hB.size
    exact hK _ _ ((KeepsOthers.alloc _ _).from _) ((Below.refl _ W).alloc (by omega) _) ⟨hp, hB.alloc (by omega) _⟩ ⟨W.heap.size, by omega, Blk.new W 47 _, rfl⟩
  case body =>
    rintro l pre x a' W hl ⟨r, hr⟩ ⟨hp, hB⟩ ⟨Bx, hBx, bX, rfl⟩ hlt
    have cx0 : W.cell? ⟨Bx, 0, none⟩ = some (.int .u64 x.2.a) := bX.cellv rfl
    have cx1 : W.cell? ⟨Bx, 1, none⟩ = some (.int .u64 x.2.v) := bX.cellv rfl
    have cx2 : W.cell? ⟨Bx, 2, none⟩ = some (.int .i64 (x.2.t : Int)) := bX.cellv rfl
    have d5 : Boxed W w.heap.size 22 (.int .u64 a) := (hB.block _ (by omega)).trans b51
    have d6 : Boxed W (w.heap.size + 1) 22 (.int .u64 0) := (hB.block _ (by omega)).trans b61
    have d7 : Boxed W (w.heap.size + 1 + 1) 3 (.int .i64 0) := (hB.block _ (by omega)).trans b71
    have d8 : Boxed W (w.heap.size + 1 + 1 + 1) 25 (.int .i64 0) := (hB.block _ (by omega)).trans b81
    have e5 := d5.cell
    have e6 := d6.cell
    have e7 := d7.cell
    have e8 := d8.cell
    have g6 := d6.frozen
    have g7 := d7.frozen
    have g8 := d8.frozen
    by_cases hx : x.2.a = a
    · have hx' : (x.2.a == a) = true := by simp [hx]
      have HX := Lib.hid hx
      clear hx
      gi_wp2
      have KK : KeepsFrom W1.heap.size W (((W.setCell ⟨w.heap.size + 1, 0, none⟩ (.int .u64 x.2.v)).setCell ⟨w.heap.size + 1 + 1, 0, none⟩ (.int .i64 (x.2.t : Int))).setCell ⟨w.heap.size + 1 + 1 + 1, 0, none⟩ (.int .i64 0)).drew :=
        ((((KeepsOthers.setCell _ _ _).trans (KeepsOthers.setCell _ _ _)).trans (KeepsOthers.setCell _ _ _)).trans (KeepsOthers.drew _)).from _
      have BB : Below w.heap.size W1 (((W.setCell ⟨w.heap.size + 1, 0, none⟩ (.int .u64 x.2.v)).setCell ⟨w.heap.size + 1 + 1, 0, none⟩ (.int .i64 (x.2.t : Int))).setCell ⟨w.heap.size + 1 + 1 + 1, 0, none⟩ (.int .i64 0)).drew :=
        ((((hB.mono (by omega)).setCell (p := ⟨w.heap.size + 1, 0, none⟩) (by simp) _).setCell (p := ⟨w.heap.size + 1 + 1, 0, none⟩) (by simp; omega) _).setCell (p := ⟨w.heap.size + 1 + 1 + 1, 0, none⟩) (by simp; omega) _).drew
      have o6 : Boxed (((W.setCell ⟨w.heap.size + 1, 0, none⟩ (.int .u64 x.2.v)).setCell ⟨w.heap.size + 1 + 1, 0, none⟩ (.int .i64 (x.2.t : Int))).setCell ⟨w.heap.size + 1 + 1 + 1, 0, none⟩ (.int .i64 0)).drew (w.heap.size + 1) 22 (.int .u64 x.2.v) := ((d6.set _).other (by omega) _).other (by omega) _
      have o7 : Boxed (((W.setCell ⟨w.heap.size + 1, 0, none⟩ (.int .u64 x.2.v)).setCell ⟨w.heap.size + 1 + 1, 0, none⟩ (.int .i64 (x.2.t : Int))).setCell ⟨w.heap.size + 1 + 1 + 1, 0, none⟩ (.int .i64 0)).drew (w.heap.size + 1 + 1) 3 (.int .i64 (x.2.t : Int)) := ((d7.other (by omega) _).set _).other (by omega) _
      have o8 : Boxed (((W.setCell ⟨w.heap.size + 1, 0, none⟩ (.int .u64 x.2.v)).setCell ⟨w.heap.size + 1 + 1, 0, none⟩ (.int .i64 (x.2.t : Int))).setCell ⟨w.heap.size + 1 + 1 + 1, 0, none⟩ (.int .i64 0)).drew (w.heap.size + 1 + 1 + 1) 25 (.int .i64 0) := ((d8.other (by omega) _).other (by omega) _).set _
      have fin : KeepsFrom W1.heap.size W _ ∧ ((∃ ini last, pre ++ [x] = ini ++ [last] ∧ (∀ p ∈ ini, p.2.a ≠ a) ∧ last.2.a = a ∧ Boxed _ (w.heap.size + 1) 22 (.int .u64 last.2.v) ∧ Boxed _ (w.heap.size + 1 + 1) 3 (.int .i64 (last.2.t : Int)) ∧ Boxed _ (w.heap.size + 1 + 1 + 1) 25 (.int .i64 0)) ∧ Below w.heap.size W1 _) :=
        ⟨KK, ⟨pre, x, rfl, hp, HX.out, o6, o7, o8⟩, BB⟩
      clear KK BB o6 o7 o8
      have FIN := Lib.hid fin
      clear fin
      gi_region
      all_goals
        gi_wp2
        exact ⟨FIN.out.1, ⟨rfl, FIN.out.2.1⟩, FIN.out.2.2⟩
    · have hx' : (x.2.a == a) = false := by simp [hx]
      have HX := Lib.hid hx
      gi_wp2
      exact ⟨KeepsFrom.refl _ _, Below.refl _ _, fun p hp' => (List.mem_append.1 hp').elim (hp p) (fun e => by simp at e; subst e; exact HX.out), hB⟩
  case done =>
    rintro D zs W hD rfl ⟨hp, hB⟩ hK
    have m1 := M1.top
    have M2 : MemAt W q s := by
      refine M1.fr (S := fun k => w.heap.size + 5 ≤ k) ⟨hB.os, hB.tape, hB.output, hB.size, fun k _ hs => hB.block k (by omega)⟩ fun k hk hs => ?_
      have := HLT.out k hk
      omega
    have c4 : W.cell? ⟨q.bw, k * 2, none⟩ = some (.int .u64 (s.V k)) := M2.words.cellv (wcs_v hk)
    have c5 : W.cell? ⟨q.bw, k * 2 + 1, none⟩ = some (.int .i64 (s.T k : Int)) := M2.words.cellv (wcs_t hk)
    have d6 : Boxed W (w.heap.size + 1) 22 (.int .u64 0) := (hB.block _ (by omega)).trans b61
    have d7 : Boxed W (w.heap.size + 1 + 1) 3 (.int .i64 0) := (hB.block _ (by omega)).trans b71
    have d8 : Boxed W (w.heap.size + 1 + 1 + 1) 25 (.int .i64 0) := (hB.block _ (by omega)).trans b81
    have e6 := d6.cell
    have e7 := d7.cell
    have e8 := d8.cell
    have g6 := d6.frozen
    have g7 := d7.frozen
    have g8 := d8.frozen
    clear M2
    have BB : Below w.heap.size W1 (((W.setCell ⟨w.heap.size + 1, 0, none⟩ (.int .u64 (s.V k))).setCell ⟨w.heap.size + 1 + 1, 0, none⟩ (.int .i64 (s.T k : Int))).setCell ⟨w.heap.size + 1 + 1 + 1, 0, none⟩ (.int .i64 0)).drew :=
        ((((hB.mono (by omega)).setCell (p := ⟨w.heap.size + 1, 0, none⟩) (by simp) _).setCell (p := ⟨w.heap.size + 1 + 1, 0, none⟩) (by simp; omega) _).setCell (p := ⟨w.heap.size + 1 + 1 + 1, 0, none⟩) (by simp; omega) _).drew
    have o6 : Boxed (((W.setCell ⟨w.heap.size + 1, 0, none⟩ (.int .u64 (s.V k))).setCell ⟨w.heap.size + 1 + 1, 0, none⟩ (.int .i64 (s.T k : Int))).setCell ⟨w.heap.size + 1 + 1 + 1, 0, none⟩ (.int .i64 0)).drew (w.heap.size + 1) 22 (.int .u64 (s.V k)) := ((d6.set _).other (by omega) _).other (by omega) _
    have o7 : Boxed (((W.setCell ⟨w.heap.size + 1, 0, none⟩ (.int .u64 (s.V k))).setCell ⟨w.heap.size + 1 + 1, 0, none⟩ (.int .i64 (s.T k : Int))).setCell ⟨w.heap.size + 1 + 1 + 1, 0, none⟩ (.int .i64 0)).drew (w.heap.size + 1 + 1) 3 (.int .i64 (s.T k : Int)) := ((d7.other (by omega) _).set _).other (by omega) _
    have o8 : Boxed (((W.setCell ⟨w.heap.size + 1, 0, none⟩ (.int .u64 (s.V k))).setCell ⟨w.heap.size + 1 + 1, 0, none⟩ (.int .i64 (s.T k : Int))).setCell ⟨w.heap.size + 1 + 1 + 1, 0, none⟩ (.int .i64 0)).drew (w.heap.size + 1 + 1 + 1) 25 (.int .i64 0) := ((d8.other (by omega) _).other (by omega) _).set _
    have hK' : (((W.setCell ⟨w.heap.size + 1, 0, none⟩ (.int .u64 (s.V k))).setCell ⟨w.heap.size + 1 + 1, 0, none⟩ (.int .i64 (s.T k : Int))).setCell ⟨w.heap.size + 1 + 1 + 1, 0, none⟩ (.int .i64 0)).drew.heap[D]? = some (.deferred (some [])) :=
      ((((KeepsOthers.setCell _ _ _).trans (KeepsOthers.setCell _ _ _)).trans (KeepsOthers.setCell _ _ _)).trans (KeepsOthers.drew _)).same D _ hK rfl
    have hfind : findL (s.H i) a = none := by
      unfold findL
      rw [List.find?_eq_none]
      intro y hy
      rw [List.mem_reverse] at hy
      obtain ⟨j, hj, rfl⟩ := List.getElem_of_mem hy
      have := hp (bk (s.H i) ((s.H i).length - 1 - j)) (List.mem_map.2 ⟨_, List.mem_range.2 (by omega), rfl⟩)
      have e : (s.H i).length - 1 - ((s.H i).length - 1 - j) = j := by omega
      simp only [bk, e, List.getElem?_eq_getElem hj, Option.getD_some] at this
      simpa using this
    have hres : s.load i k = (s.V k, s.T k) := by unfold St.load; rw [← HA2.out, hfind]
    have RES := Lib.hid hres
    have FIND := Lib.hid hfind
    have BBH := Lib.hid BB
    have O6 := Lib.hid o6
    have O7 := Lib.hid o7
    have O8 := Lib.hid o8
    have HK' := Lib.hid hK'
    clear hres hfind BB o6 o7 o8 hK'
    gi_wp2
    gi_region
    all_goals
      gi_wp2
      refine ⟨by simp, .inl ⟨_, _, rfl, run_takeDeferred HK'.out, ?_⟩⟩
      have p6 := (boxed_own (β := Unit) _ _ (fun _ => _) () _ _ _ O6.out (grownBy_putObj' _ D (.deferred none)) (fun r e => by cases e; exact ⟨_, HK'.out, rfl⟩)).cell
      have p7 := (boxed_own (β := Unit) _ _ (fun _ => _) () _ _ _ O7.out (grownBy_putObj' _ D (.deferred none)) (fun r e => by cases e; exact ⟨_, HK'.out, rfl⟩)).cell
      have p8 := (boxed_own (β := Unit) _ _ (fun _ => _) () _ _ _ O8.out (grownBy_putObj' _ D (.deferred none)) (fun r e => by cases e; exact ⟨_, HK'.out, rfl⟩)).cell
      refine ⟨.tuple #[.int .u64 (s.V k), .int .i64 (s.T k : Int), .int .i64 0], ?_, ?_, ?_⟩
      · simp [results, Try.f15, go_sem, p6, p7, p8]
      · rw [RES.out]
      · exact Fr.of_below ((hB1.trans BBH.out).trans (belowK_b (w := w) (Nat.le_refl _) _ D _ _ (by omega) HK'.out rfl rfl))
  case stop =>
    rintro D c pre W hD ⟨j, hj, rfl⟩ ⟨⟨rfl, ini, last, e1, e2, e3, e4, e5, e6⟩, hB⟩ hK
    gi_wp2
    have hjl : j = (ini.length) + 1 := by have := congrArg List.length e1; simpa [bks_length] using this
    subst hjl
    rw [bks_succ] at e1
    obtain ⟨e7, e8⟩ := List.append_inj' e1 rfl
    obtain rfl : bk (s.H i) ini.length = last := by simpa using e8
    have hlt : (s.H i).length - 1 - ini.length < (s.H i).length := by omega
    have hfind : findL (s.H i) a = some ((s.H i)[(s.H i).length - 1 - ini.length]) := by
      unfold findL
      have hr : (s.H i).reverse[ini.length]? = some ((s.H i)[(s.H i).length - 1 - ini.length]) := by
        rw [List.getElem?_reverse (by omega), List.getElem?_eq_getElem]
      have hlr : ini.length < (s.H i).reverse.length := by simp; omega
      rw [List.find?_eq_some_iff_getElem]
      refine ⟨?_, ini.length, hlr, ?_, fun m hm => ?_⟩
      · simp only [bk, List.getElem?_eq_getElem hlt, Option.getD_some] at e3
        simpa using e3
      · rw [List.getElem?_eq_getElem hlr] at hr
        injection hr
      · have := e2 (bk (s.H i) m) (by rw [← e7]; exact List.mem_map.2 ⟨_, List.mem_range.2 hm, rfl⟩)
        simp only [bk] at this
        rw [List.getElem?_eq_getElem (by omega), Option.getD_some] at this
        rw [List.getElem_reverse]
        simpa using this
    have hres : s.load i k = ((bk (s.H i) ini.length).2.v, (bk (s.H i) ini.length).2.t) := by
      unfold St.load
      rw [← HA2.out, hfind]
      simp [bk, List.getElem?_eq_getElem hlt]
    refine ⟨by simp, .inl ⟨_, _, rfl, run_takeDeferred hK, ?_⟩⟩
    have p6 := (boxed_own (β := Unit) _ _ (fun _ => _) () _ _ _ e4 (grownBy_putObj' _ D (.deferred none)) (fun r e => by cases e; exact ⟨_, hK, rfl⟩)).cell
    have p7 := (boxed_own (β := Unit) _ _ (fun _ => _) () _ _ _ e5 (grownBy_putObj' _ D (.deferred none)) (fun r e => by cases e; exact ⟨_, hK, rfl⟩)).cell
    have p8 := (boxed_own (β := Unit) _ _ (fun _ => _) () _ _ _ e6 (grownBy_putObj' _ D (.deferred none)) (fun r e => by cases e; exact ⟨_, hK, rfl⟩)).cell
    refine ⟨.tuple #[.int .u64 (bk (s.H i) ini.length).2.v, .int .i64 ((bk (s.H i) ini.length).2.t : Int), .int .i64 0], ?_, ?_, ?_⟩
    · simp [results, Try.f15, go_sem, p6, p7, p8]
    · rw [hres]
    · exact Fr.of_below ((hB1.trans hB).trans (belowK_b (w := w) (Nat.le_refl _) _ D _ _ (by omega) hK rfl rfl))
end Go.Proofs.Ytjbdbmahbcaniaa
