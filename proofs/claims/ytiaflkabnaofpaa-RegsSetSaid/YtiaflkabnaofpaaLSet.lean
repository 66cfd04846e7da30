/- The walk of RegsSet. -/
import Derived.Test.YtiaflkabnaofpaaLSystem
namespace Go.Proofs.Ytiaflkabnaofpaa
open Go.RowKit
set_option linter.unusedVariables false
attribute [local go_sem] fold0

set_option maxRecDepth 100000 in
set_option maxHeartbeats 4000000 in
theorem set_bad (c : Cr) (sys v va : Int) (ok : Bool) (w : World)
    (hg : ∀ w, Calls Try.prog 25 #[.agg (cv c), .int .i64 sys] w (GetPost w va ok))
    (hs : ∀ w, Calls Try.prog 27 #[.agg (cv c), .int .i64 sys, .int .u64 v] w fun e w' => e = .returned (.tuple #[.agg (cv zeroC), .bool false]) ∧ Fr Nil w w') :
    Calls Try.prog 8 #[.agg (cv c), .int .i64 sys, .int .u64 v] w fun e w' => e = .returned (.bool true) ∧ Below w.heap.size w w' := by
  have HG := Lib.hid hg
  have HS := Lib.hid hs
  clear hg hs
  have heq : ∀ W : World, (binOp .eql 26 (.agg (cv zeroC)) (.agg (cv zeroC))).run Try.prog W = .ok (.bool true) W := fun W => by rw [run_eq_core, crEq_rfl]
  go_enter Try.func8, Try.ntmps8
  go_wp2_with fail
  refine (examples_ok _).mono ?_
  rintro e w2 ⟨rfl, hf2⟩
  have gch2 : Blk w2 w.heap.size 26 (cv c) := Blk.fr0 (Blk.new _ _ _) hf2
  have F2 := ((Fr.refl Nil w).alloc (.cells (cv c) 26)).trans hf2
  clear hf2
  generalize hgc : w.heap.size = gc at *
  have Hgc := Lib.hid hgc
  clear hgc
  go_wp2_with (refine wpList_load_blk rfl 26 (.tmp 3) rfl gc rfl _ gch2 Try.underlying26 rfl info26 ?_)
  refine (HG.out _).mono ?_
  rintro e w3 ⟨rfl, hf3⟩
  have gch3 := Blk.fr0 gch2 hf3
  have F3 := F2.trans hf3
  clear gch2 F2 hf3
  go_wp2_with (refine wpList_load_blk rfl 26 (.tmp 3) rfl gc rfl _ gch3 Try.underlying26 rfl info26 ?_)
  refine (HS.out _).mono ?_
  rintro e w4 ⟨rfl, hf4⟩
  have gch4 := Blk.fr0 gch3 hf4
  have F4 := F3.trans hf4
  clear gch3 F3 hf4
  have gcl5 := gch4.lt
  go_upto_region 7 with (refine wpList_store_blk0 rfl 26 (.tmp 10) (.tmp 38) rfl w4.heap.size rfl (cv zeroC) rfl (Blk.new _ _ _) info26 rfl (one_cv _) ?_; intro w5 hf5 gah5)
  have gch5 := Blk.fr1 (Blk.alloc gch4 (.cells (cv zeroC) 26)) hf5 (by omega)
  have F5 := (F4.alloc (.cells (cv zeroC) 26)).own1 hf5 F4.size
  clear gch4 F4 hf5
  generalize w4.heap.size = ga at *
  go_wp2_with (refine wpList_load_blkg rfl 26 (.tmp 10) rfl ga rfl _ gah5 Try.underlying26 rfl info26 ?_)
  all_goals go_ret
  all_goals exact ⟨by first | rfl | simp [*], F5.below (by rw [Hgc.out]; exact Nat.le_refl _) (fun _ _ => id)⟩
set_option maxRecDepth 100000 in
set_option maxHeartbeats 4000000 in
theorem set_same (c D T M A U : Cr) (sys v va vd vb : Int) (w : World)
    (hg : ∀ w, Calls Try.prog 25 #[.agg (cv c), .int .i64 sys] w (GetPost w va true))
    (hs : ∀ w, Calls Try.prog 27 #[.agg (cv c), .int .i64 sys, .int .u64 v] w fun e w' => e = .returned (.tuple #[.agg (cv D), .bool true]) ∧ Fr Nil w w')
    (hgd : ∀ w, Calls Try.prog 25 #[.agg (cv D), .int .i64 sys] w (GetPost w vd true))
    (ht : ∀ w, Calls Try.prog 27 #[.agg (cv D), .int .i64 sys, .int .u64 v] w fun e w' => e = .returned (.tuple #[.agg (cv T), .bool true]) ∧ Fr Nil w w')
    (hm : ∀ w, Calls Try.prog 27 #[.agg (cv D), .int .i64 sys, .int .u64 vd] w fun e w' => e = .returned (.tuple #[.agg (cv M), .bool true]) ∧ Fr Nil w w')
    (ha : ∀ w, Calls Try.prog 27 #[.agg (cv D), .int .i64 sys, .int .u64 va] w fun e w' => e = .returned (.tuple #[.agg (cv A), .bool true]) ∧ Fr Nil w w')
    (hb : ∀ w, Calls Try.prog 25 #[.agg (cv A), .int .i64 sys] w (GetPost w va true))
    (hu : ∀ w, Calls Try.prog 27 #[.agg (cv c), .int .i64 sys, .int .u64 va] w fun e w' => e = .returned (.tuple #[.agg (cv U), .bool true]) ∧ Fr Nil w w')
    (e1 : crEq T D = true) (e2 : crEq M D = true) (e3 : crEq A U = true) (hand : bits .and .u64 vd v = vd) :
    Calls Try.prog 8 #[.agg (cv c), .int .i64 sys, .int .u64 v] w fun e w' => e = .returned (.bool true) ∧ Below w.heap.size w w' := by
  have HG := Lib.hid hg
  have HS := Lib.hid hs
  have HGD := Lib.hid hgd
  have HT := Lib.hid ht
  have HM := Lib.hid hm
  have HA := Lib.hid ha
  have HB := Lib.hid hb
  have HU := Lib.hid hu
  clear hg hs hgd ht hm ha hb hu
  have q1 : ∀ W : World, (binOp .eql 26 (.agg (cv T)) (.agg (cv D))).run Try.prog W = .ok (.bool true) W := fun W => by rw [run_eq_core, e1]
  have q2 : ∀ W : World, (binOp .eql 26 (.agg (cv M)) (.agg (cv D))).run Try.prog W = .ok (.bool true) W := fun W => by rw [run_eq_core, e2]
  have q3 : ∀ W : World, (binOp .eql 26 (.agg (cv A)) (.agg (cv U))).run Try.prog W = .ok (.bool true) W := fun W => by rw [run_eq_core, e3]
  clear e1 e2 e3
  go_enter Try.func8, Try.ntmps8
  go_wp2_with fail
  refine (examples_ok _).mono ?_
  rintro e w2 ⟨rfl, hf2⟩
  have gch2 : Blk w2 w.heap.size 26 (cv c) := Blk.fr0 (Blk.new _ _ _) hf2
  have F2 := ((Fr.refl Nil w).alloc (.cells (cv c) 26)).trans hf2
  clear hf2
  generalize hgc : w.heap.size = gc at *
  have Hgc := Lib.hid hgc
  clear hgc
  go_wp2_with (refine wpList_load_blk rfl 26 (.tmp 3) rfl gc rfl _ gch2 Try.underlying26 rfl info26 ?_)
  refine (HG.out _).mono ?_
  rintro e w3 ⟨rfl, hf3⟩
  have gch3 := Blk.fr0 gch2 hf3
  have F3 := F2.trans hf3
  clear gch2 F2 hf3
  go_wp2_with (refine wpList_load_blk rfl 26 (.tmp 3) rfl gc rfl _ gch3 Try.underlying26 rfl info26 ?_)
  refine (HS.out _).mono ?_
  rintro e w4 ⟨rfl, hf4⟩
  have gch4 := Blk.fr0 gch3 hf4
  have F4 := F3.trans hf4
  clear gch3 F3 hf4
  have gcl5 := gch4.lt
  go_upto_region 8 with (refine wpList_store_blk0 rfl 26 (.tmp 10) (.tmp 38) rfl w4.heap.size rfl (cv D) rfl (Blk.new _ _ _) info26 rfl (one_cv _) ?_; intro w5 hf5 gah5)
  have gch5 := Blk.fr1 (Blk.alloc gch4 (.cells (cv zeroC) 26)) hf5 (by omega)
  have F5 := (F4.alloc (.cells (cv zeroC) 26)).own1 hf5 F4.size
  clear gch4 F4 hf5
  generalize w4.heap.size = ga at *
  go_wp2_with (refine wpList_load_blk rfl 26 (.tmp 10) rfl ga rfl _ gah5 Try.underlying26 rfl info26 ?_)
  refine (HGD.out _).mono ?_
  rintro e w6 ⟨rfl, hf6⟩
  have gch6 := Blk.fr0 gch5 hf6
  have gah6 := Blk.fr0 gah5 hf6
  have F6 := F5.trans hf6
  clear gch5 gah5 F5 hf6
  go_wp2_with (refine wpList_load_blk rfl 26 (.tmp 10) rfl ga rfl _ gah6 Try.underlying26 rfl info26 ?_)
  refine (HT.out _).mono ?_
  rintro e w7 ⟨rfl, hf7⟩
  have gch7 := Blk.fr0 gch6 hf7
  have gah7 := Blk.fr0 gah6 hf7
  have F7 := F6.trans hf7
  clear gch6 gah6 F6 hf7
  have gcl8 := gch7.lt
  have gal8 := gah7.lt
  go_upto_region 10 with (refine wpList_store_blk0 rfl 26 (.tmp 14) (.tmp 59) rfl w7.heap.size rfl (cv T) rfl (Blk.new _ _ _) info26 rfl (one_cv _) ?_; intro w8 hf8 gth8)
  have gch8 := Blk.fr1 (Blk.alloc gch7 (.cells (cv zeroC) 26)) hf8 (by omega)
  have gah8 := Blk.fr1 (Blk.alloc gah7 (.cells (cv zeroC) 26)) hf8 (by omega)
  have F8 := (F7.alloc (.cells (cv zeroC) 26)).own1 hf8 F7.size
  clear gch7 gah7 F7 hf8
  generalize w7.heap.size = gt at *
  go_wp2_with (refine wpList_load_blk rfl 26 (.tmp 10) rfl ga rfl _ gah8 Try.underlying26 rfl info26 ?_)
  refine (HM.out _).mono ?_
  rintro e w9 ⟨rfl, hf9⟩
  have gch9 := Blk.fr0 gch8 hf9
  have gah9 := Blk.fr0 gah8 hf9
  have gth9 := Blk.fr0 gth8 hf9
  have F9 := F8.trans hf9
  clear gch8 gah8 gth8 F8 hf9
  have gcl10 := gch9.lt
  have gal10 := gah9.lt
  have gtl10 := gth9.lt
  go_upto_region 11 with (refine wpList_store_blk0 rfl 26 (.tmp 16) (.tmp 66) rfl w9.heap.size rfl (cv M) rfl (Blk.new _ _ _) info26 rfl (one_cv _) ?_; intro w10 hf10 gsh10)
  have gch10 := Blk.fr1 (Blk.alloc gch9 (.cells (cv zeroC) 26)) hf10 (by omega)
  have gah10 := Blk.fr1 (Blk.alloc gah9 (.cells (cv zeroC) 26)) hf10 (by omega)
  have gth10 := Blk.fr1 (Blk.alloc gth9 (.cells (cv zeroC) 26)) hf10 (by omega)
  have F10 := (F9.alloc (.cells (cv zeroC) 26)).own1 hf10 F9.size
  clear gch9 gah9 gth9 F9 hf10
  generalize w9.heap.size = gs at *
  go_wp2_with (refine wpList_load_blk rfl 26 (.tmp 10) rfl ga rfl _ gah10 Try.underlying26 rfl info26 ?_)
  refine (HA.out _).mono ?_
  rintro e w11 ⟨rfl, hf11⟩
  have gch11 := Blk.fr0 gch10 hf11
  have gah11 := Blk.fr0 gah10 hf11
  have gth11 := Blk.fr0 gth10 hf11
  have gsh11 := Blk.fr0 gsh10 hf11
  have F11 := F10.trans hf11
  clear gch10 gah10 gth10 gsh10 F10 hf11
  have gcl12 := gch11.lt
  have gal12 := gah11.lt
  have gtl12 := gth11.lt
  have gsl12 := gsh11.lt
  go_upto_region 12 with (refine wpList_store_blk0 rfl 26 (.tmp 18) (.tmp 73) rfl w11.heap.size rfl (cv A) rfl (Blk.new _ _ _) info26 rfl (one_cv _) ?_; intro w12 hf12 gqh12)
  have gch12 := Blk.fr1 (Blk.alloc gch11 (.cells (cv zeroC) 26)) hf12 (by omega)
  have gah12 := Blk.fr1 (Blk.alloc gah11 (.cells (cv zeroC) 26)) hf12 (by omega)
  have gth12 := Blk.fr1 (Blk.alloc gth11 (.cells (cv zeroC) 26)) hf12 (by omega)
  have gsh12 := Blk.fr1 (Blk.alloc gsh11 (.cells (cv zeroC) 26)) hf12 (by omega)
  have F12 := (F11.alloc (.cells (cv zeroC) 26)).own1 hf12 F11.size
  clear gch11 gah11 gth11 gsh11 F11 hf12
  generalize w11.heap.size = gq at *
  go_wp2_with (refine wpList_load_blk rfl 26 (.tmp 18) rfl gq rfl _ gqh12 Try.underlying26 rfl info26 ?_)
  refine (HB.out _).mono ?_
  rintro e w13 ⟨rfl, hf13⟩
  have gch13 := Blk.fr0 gch12 hf13
  have gah13 := Blk.fr0 gah12 hf13
  have gth13 := Blk.fr0 gth12 hf13
  have gsh13 := Blk.fr0 gsh12 hf13
  have gqh13 := Blk.fr0 gqh12 hf13
  have F13 := F12.trans hf13
  clear gch12 gah12 gth12 gsh12 gqh12 F12 hf13
  go_wp2_with (refine wpList_load_blk rfl 26 (.tmp 3) rfl gc rfl _ gch13 Try.underlying26 rfl info26 ?_)
  refine (HU.out _).mono ?_
  rintro e w14 ⟨rfl, hf14⟩
  have gch14 := Blk.fr0 gch13 hf14
  have gah14 := Blk.fr0 gah13 hf14
  have gth14 := Blk.fr0 gth13 hf14
  have gsh14 := Blk.fr0 gsh13 hf14
  have gqh14 := Blk.fr0 gqh13 hf14
  have F14 := F13.trans hf14
  clear gch13 gah13 gth13 gsh13 gqh13 F13 hf14
  have gcl15 := gch14.lt
  have gal15 := gah14.lt
  have gtl15 := gth14.lt
  have gsl15 := gsh14.lt
  have gql15 := gqh14.lt
  go_upto_region 14 with (refine wpList_store_blk0 rfl 26 (.tmp 22) (.tmp 86) rfl w14.heap.size rfl (cv U) rfl (Blk.new _ _ _) info26 rfl (one_cv _) ?_; intro w15 hf15 guh15)
  have gch15 := Blk.fr1 (Blk.alloc gch14 (.cells (cv zeroC) 26)) hf15 (by omega)
  have gah15 := Blk.fr1 (Blk.alloc gah14 (.cells (cv zeroC) 26)) hf15 (by omega)
  have gth15 := Blk.fr1 (Blk.alloc gth14 (.cells (cv zeroC) 26)) hf15 (by omega)
  have gsh15 := Blk.fr1 (Blk.alloc gsh14 (.cells (cv zeroC) 26)) hf15 (by omega)
  have gqh15 := Blk.fr1 (Blk.alloc gqh14 (.cells (cv zeroC) 26)) hf15 (by omega)
  have F15 := (F14.alloc (.cells (cv zeroC) 26)).own1 hf15 F14.size
  clear gch14 gah14 gth14 gsh14 gqh14 F14 hf15
  generalize w14.heap.size = gu at *
  go_wp2_with (first | (refine wpList_load_blkg rfl 26 (.tmp 14) rfl gt rfl _ gth15 Try.underlying26 rfl info26 ?_) | (refine wpList_load_blkg rfl 26 (.tmp 10) rfl ga rfl _ gah15 Try.underlying26 rfl info26 ?_) | (refine wpList_load_blkg rfl 26 (.tmp 16) rfl gs rfl _ gsh15 Try.underlying26 rfl info26 ?_) | (refine wpList_load_blkg rfl 26 (.tmp 18) rfl gq rfl _ gqh15 Try.underlying26 rfl info26 ?_) | (refine wpList_load_blkg rfl 26 (.tmp 22) rfl gu rfl _ guh15 Try.underlying26 rfl info26 ?_))
  all_goals go_ret
  all_goals exact ⟨by first | rfl | simp [*], F15.below (by rw [Hgc.out]; exact Nat.le_refl _) (fun _ _ => id)⟩
set_option maxRecDepth 100000 in
set_option maxHeartbeats 4000000 in
theorem set_diff (c D T M A U : Cr) (sys v va vd vb : Int) (w : World)
    (hg : ∀ w, Calls Try.prog 25 #[.agg (cv c), .int .i64 sys] w (GetPost w va true))
    (hs : ∀ w, Calls Try.prog 27 #[.agg (cv c), .int .i64 sys, .int .u64 v] w fun e w' => e = .returned (.tuple #[.agg (cv D), .bool true]) ∧ Fr Nil w w')
    (hgd : ∀ w, Calls Try.prog 25 #[.agg (cv D), .int .i64 sys] w (GetPost w vd true))
    (ht : ∀ w, Calls Try.prog 27 #[.agg (cv D), .int .i64 sys, .int .u64 v] w fun e w' => e = .returned (.tuple #[.agg (cv T), .bool true]) ∧ Fr Nil w w')
    (hm : ∀ w, Calls Try.prog 27 #[.agg (cv D), .int .i64 sys, .int .u64 vd] w fun e w' => e = .returned (.tuple #[.agg (cv M), .bool true]) ∧ Fr Nil w w')
    (ha : ∀ w, Calls Try.prog 27 #[.agg (cv D), .int .i64 sys, .int .u64 va] w fun e w' => e = .returned (.tuple #[.agg (cv A), .bool true]) ∧ Fr Nil w w')
    (hb : ∀ w, Calls Try.prog 25 #[.agg (cv A), .int .i64 sys] w (GetPost w vb true))
    (hu : ∀ w, Calls Try.prog 27 #[.agg (cv c), .int .i64 sys, .int .u64 va] w fun e w' => e = .returned (.tuple #[.agg (cv U), .bool true]) ∧ Fr Nil w w')
    (e1 : crEq T D = true) (e2 : crEq M D = true) (e3 : crEq A U = true) (hand : bits .and .u64 vd v = vd) (e4 : crEq U c = false) (hne : (vb == va) = false) :
    Calls Try.prog 8 #[.agg (cv c), .int .i64 sys, .int .u64 v] w fun e w' => e = .returned (.bool true) ∧ Below w.heap.size w w' := by
  have HG := Lib.hid hg
  have HS := Lib.hid hs
  have HGD := Lib.hid hgd
  have HT := Lib.hid ht
  have HM := Lib.hid hm
  have HA := Lib.hid ha
  have HB := Lib.hid hb
  have HU := Lib.hid hu
  clear hg hs hgd ht hm ha hb hu
  have q4 : ∀ W : World, (binOp .neq 26 (.agg (cv U)) (.agg (cv c))).run Try.prog W = .ok (.bool true) W := fun W => by rw [run_neq_core, e4]; rfl
  clear e4
  have q1 : ∀ W : World, (binOp .eql 26 (.agg (cv T)) (.agg (cv D))).run Try.prog W = .ok (.bool true) W := fun W => by rw [run_eq_core, e1]
  have q2 : ∀ W : World, (binOp .eql 26 (.agg (cv M)) (.agg (cv D))).run Try.prog W = .ok (.bool true) W := fun W => by rw [run_eq_core, e2]
  have q3 : ∀ W : World, (binOp .eql 26 (.agg (cv A)) (.agg (cv U))).run Try.prog W = .ok (.bool true) W := fun W => by rw [run_eq_core, e3]
  clear e1 e2 e3
  go_enter Try.func8, Try.ntmps8
  go_wp2_with fail
  refine (examples_ok _).mono ?_
  rintro e w2 ⟨rfl, hf2⟩
  have gch2 : Blk w2 w.heap.size 26 (cv c) := Blk.fr0 (Blk.new _ _ _) hf2
  have F2 := ((Fr.refl Nil w).alloc (.cells (cv c) 26)).trans hf2
  clear hf2
  generalize hgc : w.heap.size = gc at *
  have Hgc := Lib.hid hgc
  clear hgc
  go_wp2_with (refine wpList_load_blk rfl 26 (.tmp 3) rfl gc rfl _ gch2 Try.underlying26 rfl info26 ?_)
  refine (HG.out _).mono ?_
  rintro e w3 ⟨rfl, hf3⟩
  have gch3 := Blk.fr0 gch2 hf3
  have F3 := F2.trans hf3
  clear gch2 F2 hf3
  go_wp2_with (refine wpList_load_blk rfl 26 (.tmp 3) rfl gc rfl _ gch3 Try.underlying26 rfl info26 ?_)
  refine (HS.out _).mono ?_
  rintro e w4 ⟨rfl, hf4⟩
  have gch4 := Blk.fr0 gch3 hf4
  have F4 := F3.trans hf4
  clear gch3 F3 hf4
  have gcl5 := gch4.lt
  go_upto_region 8 with (refine wpList_store_blk0 rfl 26 (.tmp 10) (.tmp 38) rfl w4.heap.size rfl (cv D) rfl (Blk.new _ _ _) info26 rfl (one_cv _) ?_; intro w5 hf5 gah5)
  have gch5 := Blk.fr1 (Blk.alloc gch4 (.cells (cv zeroC) 26)) hf5 (by omega)
  have F5 := (F4.alloc (.cells (cv zeroC) 26)).own1 hf5 F4.size
  clear gch4 F4 hf5
  generalize w4.heap.size = ga at *
  go_wp2_with (refine wpList_load_blk rfl 26 (.tmp 10) rfl ga rfl _ gah5 Try.underlying26 rfl info26 ?_)
  refine (HGD.out _).mono ?_
  rintro e w6 ⟨rfl, hf6⟩
  have gch6 := Blk.fr0 gch5 hf6
  have gah6 := Blk.fr0 gah5 hf6
  have F6 := F5.trans hf6
  clear gch5 gah5 F5 hf6
  go_wp2_with (refine wpList_load_blk rfl 26 (.tmp 10) rfl ga rfl _ gah6 Try.underlying26 rfl info26 ?_)
  refine (HT.out _).mono ?_
  rintro e w7 ⟨rfl, hf7⟩
  have gch7 := Blk.fr0 gch6 hf7
  have gah7 := Blk.fr0 gah6 hf7
  have F7 := F6.trans hf7
  clear gch6 gah6 F6 hf7
  have gcl8 := gch7.lt
  have gal8 := gah7.lt
  go_upto_region 10 with (refine wpList_store_blk0 rfl 26 (.tmp 14) (.tmp 59) rfl w7.heap.size rfl (cv T) rfl (Blk.new _ _ _) info26 rfl (one_cv _) ?_; intro w8 hf8 gth8)
  have gch8 := Blk.fr1 (Blk.alloc gch7 (.cells (cv zeroC) 26)) hf8 (by omega)
  have gah8 := Blk.fr1 (Blk.alloc gah7 (.cells (cv zeroC) 26)) hf8 (by omega)
  have F8 := (F7.alloc (.cells (cv zeroC) 26)).own1 hf8 F7.size
  clear gch7 gah7 F7 hf8
  generalize w7.heap.size = gt at *
  go_wp2_with (refine wpList_load_blk rfl 26 (.tmp 10) rfl ga rfl _ gah8 Try.underlying26 rfl info26 ?_)
  refine (HM.out _).mono ?_
  rintro e w9 ⟨rfl, hf9⟩
  have gch9 := Blk.fr0 gch8 hf9
  have gah9 := Blk.fr0 gah8 hf9
  have gth9 := Blk.fr0 gth8 hf9
  have F9 := F8.trans hf9
  clear gch8 gah8 gth8 F8 hf9
  have gcl10 := gch9.lt
  have gal10 := gah9.lt
  have gtl10 := gth9.lt
  go_upto_region 11 with (refine wpList_store_blk0 rfl 26 (.tmp 16) (.tmp 66) rfl w9.heap.size rfl (cv M) rfl (Blk.new _ _ _) info26 rfl (one_cv _) ?_; intro w10 hf10 gsh10)
  have gch10 := Blk.fr1 (Blk.alloc gch9 (.cells (cv zeroC) 26)) hf10 (by omega)
  have gah10 := Blk.fr1 (Blk.alloc gah9 (.cells (cv zeroC) 26)) hf10 (by omega)
  have gth10 := Blk.fr1 (Blk.alloc gth9 (.cells (cv zeroC) 26)) hf10 (by omega)
  have F10 := (F9.alloc (.cells (cv zeroC) 26)).own1 hf10 F9.size
  clear gch9 gah9 gth9 F9 hf10
  generalize w9.heap.size = gs at *
  go_wp2_with (refine wpList_load_blk rfl 26 (.tmp 10) rfl ga rfl _ gah10 Try.underlying26 rfl info26 ?_)
  refine (HA.out _).mono ?_
  rintro e w11 ⟨rfl, hf11⟩
  have gch11 := Blk.fr0 gch10 hf11
  have gah11 := Blk.fr0 gah10 hf11
  have gth11 := Blk.fr0 gth10 hf11
  have gsh11 := Blk.fr0 gsh10 hf11
  have F11 := F10.trans hf11
  clear gch10 gah10 gth10 gsh10 F10 hf11
  have gcl12 := gch11.lt
  have gal12 := gah11.lt
  have gtl12 := gth11.lt
  have gsl12 := gsh11.lt
  go_upto_region 12 with (refine wpList_store_blk0 rfl 26 (.tmp 18) (.tmp 73) rfl w11.heap.size rfl (cv A) rfl (Blk.new _ _ _) info26 rfl (one_cv _) ?_; intro w12 hf12 gqh12)
  have gch12 := Blk.fr1 (Blk.alloc gch11 (.cells (cv zeroC) 26)) hf12 (by omega)
  have gah12 := Blk.fr1 (Blk.alloc gah11 (.cells (cv zeroC) 26)) hf12 (by omega)
  have gth12 := Blk.fr1 (Blk.alloc gth11 (.cells (cv zeroC) 26)) hf12 (by omega)
  have gsh12 := Blk.fr1 (Blk.alloc gsh11 (.cells (cv zeroC) 26)) hf12 (by omega)
  have F12 := (F11.alloc (.cells (cv zeroC) 26)).own1 hf12 F11.size
  clear gch11 gah11 gth11 gsh11 F11 hf12
  generalize w11.heap.size = gq at *
  go_wp2_with (refine wpList_load_blk rfl 26 (.tmp 18) rfl gq rfl _ gqh12 Try.underlying26 rfl info26 ?_)
  refine (HB.out _).mono ?_
  rintro e w13 ⟨rfl, hf13⟩
  have gch13 := Blk.fr0 gch12 hf13
  have gah13 := Blk.fr0 gah12 hf13
  have gth13 := Blk.fr0 gth12 hf13
  have gsh13 := Blk.fr0 gsh12 hf13
  have gqh13 := Blk.fr0 gqh12 hf13
  have F13 := F12.trans hf13
  clear gch12 gah12 gth12 gsh12 gqh12 F12 hf13
  go_wp2_with (refine wpList_load_blk rfl 26 (.tmp 3) rfl gc rfl _ gch13 Try.underlying26 rfl info26 ?_)
  refine (HU.out _).mono ?_
  rintro e w14 ⟨rfl, hf14⟩
  have gch14 := Blk.fr0 gch13 hf14
  have gah14 := Blk.fr0 gah13 hf14
  have gth14 := Blk.fr0 gth13 hf14
  have gsh14 := Blk.fr0 gsh13 hf14
  have gqh14 := Blk.fr0 gqh13 hf14
  have F14 := F13.trans hf14
  clear gch13 gah13 gth13 gsh13 gqh13 F13 hf14
  have gcl15 := gch14.lt
  have gal15 := gah14.lt
  have gtl15 := gth14.lt
  have gsl15 := gsh14.lt
  have gql15 := gqh14.lt
  go_upto_region 14 with (refine wpList_store_blk0 rfl 26 (.tmp 22) (.tmp 86) rfl w14.heap.size rfl (cv U) rfl (Blk.new _ _ _) info26 rfl (one_cv _) ?_; intro w15 hf15 guh15)
  have gch15 := Blk.fr1 (Blk.alloc gch14 (.cells (cv zeroC) 26)) hf15 (by omega)
  have gah15 := Blk.fr1 (Blk.alloc gah14 (.cells (cv zeroC) 26)) hf15 (by omega)
  have gth15 := Blk.fr1 (Blk.alloc gth14 (.cells (cv zeroC) 26)) hf15 (by omega)
  have gsh15 := Blk.fr1 (Blk.alloc gsh14 (.cells (cv zeroC) 26)) hf15 (by omega)
  have gqh15 := Blk.fr1 (Blk.alloc gqh14 (.cells (cv zeroC) 26)) hf15 (by omega)
  have F15 := (F14.alloc (.cells (cv zeroC) 26)).own1 hf15 F14.size
  clear gch14 gah14 gth14 gsh14 gqh14 F14 hf15
  generalize w14.heap.size = gu at *
  go_wp2_with (first | (refine wpList_load_blkg rfl 26 (.tmp 14) rfl gt rfl _ gth15 Try.underlying26 rfl info26 ?_) | (refine wpList_load_blkg rfl 26 (.tmp 10) rfl ga rfl _ gah15 Try.underlying26 rfl info26 ?_) | (refine wpList_load_blkg rfl 26 (.tmp 16) rfl gs rfl _ gsh15 Try.underlying26 rfl info26 ?_) | (refine wpList_load_blkg rfl 26 (.tmp 18) rfl gq rfl _ gqh15 Try.underlying26 rfl info26 ?_) | (refine wpList_load_blkg rfl 26 (.tmp 22) rfl gu rfl _ guh15 Try.underlying26 rfl info26 ?_) | (refine wpList_load_blkg rfl 26 (.tmp 3) rfl gc rfl _ gch15 Try.underlying26 rfl info26 ?_))
  all_goals go_ret
  all_goals exact ⟨by first | rfl | simp [*], F15.below (by rw [Hgc.out]; exact Nat.le_refl _) (fun _ _ => id)⟩
theorem and2k (n k : Nat) : n &&& 2 ^ k = 2 ^ k * (n / 2 ^ k % 2) := by
  apply Nat.eq_of_testBit_eq
  intro i
  rw [Nat.testBit_and, Nat.testBit_two_pow]
  by_cases hi : k = i
  · subst hi
    rw [Nat.testBit_eq_decide_div_mod_eq]
    rcases Nat.mod_two_eq_zero_or_one (n / 2 ^ k) with h | h
    · simp [h]
    · rw [h, Nat.mul_one, Nat.testBit_two_pow]; simp
  · rcases Nat.mod_two_eq_zero_or_one (n / 2 ^ k) with h | h
    · simp [h, hi]
    · rw [h, Nat.mul_one, Nat.testBit_two_pow]
      simp [hi]
theorem nz_bit (c : Cr) : bitB (nzP c 4) 2147483648 = c.N ∧ bitB (nzP c 4) 1073741824 = c.Z ∧ bitB (nzP c 4) 536870912 = c.C ∧ bitB (nzP c 4) 268435456 = c.V ∧ 0 ≤ nzP c 4 ∧ nzP c 4 ≤ 18446744073709551615 := by
  unfold nzP
  cases c.N <;> cases c.Z <;> cases c.C <;> cases c.V <;> simp <;> decide
theorem setF_self (c d : Cr) (hN : c.N = d.N) (hZ : c.Z = d.Z) (hC : c.C = d.C) (hV : c.V = d.V) : setF c (nzP d 4) 4 = c := by
  obtain ⟨h1, h2, h3, h4, _, _⟩ := nz_bit d
  simp only [setF, h1, h2, h3, h4, ← hN, ← hZ, ← hC, ← hV]
theorem nzP_eq (c d : Cr) (hN : c.N = d.N) (hZ : c.Z = d.Z) (hC : c.C = d.C) (hV : c.V = d.V) : nzP c 4 = nzP d 4 := by
  unfold nzP
  rw [hN, hZ, hC, hV]
theorem bitB_nat (n d : Nat) (hn : n < 2 ^ 64) (hd : 0 < d) : bitB (n : Int) (d : Int) = (n / d % 2 == 1) := by
  unfold bitB
  rw [bit_mod (n : Int) (d : Int) (by omega) (by omega) (by omega)]
  have e : (n : Int) / (d : Int) % 2 = ((n / d % 2 : Nat) : Int) := by rw [Int.natCast_emod, Int.natCast_ediv]; rfl
  rw [e]
  rcases Nat.mod_two_eq_zero_or_one (n / d) with h | h <;> rw [h] <;> rfl
theorem nz_and (c : Cr) (v : Int) (h0 : 0 ≤ v) (h1 : v ≤ 18446744073709551615) : bits .and .u64 (nzP (setF c v 4) 4) v = nzP (setF c v 4) 4 := by
  obtain ⟨n, rfl⟩ := nat_of h0
  have hn : n < 2 ^ 64 := by omega
  have b31 := bitB_nat n 2147483648 hn (by decide)
  have b30 := bitB_nat n 1073741824 hn (by decide)
  have b29 := bitB_nat n 536870912 hn (by decide)
  have b28 := bitB_nat n 268435456 hn (by decide)
  have a31 := and2k n 31
  have a30 := and2k n 30
  have a29 := and2k n 29
  have a28 := and2k n 28
  simp only [Nat.reducePow] at a31 a30 a29 a28
  have key : ∀ p q r s : Bool, (n / 2147483648 % 2 == 1) = p → (n / 1073741824 % 2 == 1) = q → (n / 536870912 % 2 == 1) = r → (n / 268435456 % 2 == 1) = s →
      n &&& ((if p = true then 2147483648 else 0) ||| (if q = true then 1073741824 else 0) ||| (if r = true then 536870912 else 0) ||| (if s = true then 268435456 else 0)) = ((if p = true then 2147483648 else 0) ||| (if q = true then 1073741824 else 0) ||| (if r = true then 536870912 else 0) ||| (if s = true then 268435456 else 0)) := by
    intro p q r s hp hq hr hs
    simp only [Nat.and_or_distrib_left]
    have f : ∀ (b : Bool) (d : Nat), (n / d % 2 == 1) = b → n &&& d = d * (n / d % 2) → n &&& (if b = true then d else 0) = (if b = true then d else 0) := by
      intro b d hb hd
      cases b with
      | false => simp
      | true =>
        rw [if_pos rfl, hd]
        have : n / d % 2 = 1 := by simpa using hb
        rw [this, Nat.mul_one]
    rw [f p _ hp a31, f q _ hq a30, f r _ hr a29, f s _ hs a28]
  have hv : ∀ p q r s : Bool, ((if 0 < 4 ∧ p = true then 2147483648 else 0) + (if 1 < 4 ∧ q = true then 1073741824 else 0) + (if 2 < 4 ∧ r = true then 536870912 else 0) + (if 3 < 4 ∧ s = true then 268435456 else 0) : Int) =
      (((if p = true then 2147483648 else 0) ||| (if q = true then 1073741824 else 0) ||| (if r = true then 536870912 else 0) ||| (if s = true then 268435456 else 0) : Nat) : Int) := by
    intro p q r s
    cases p <;> cases q <;> cases r <;> cases s <;> rfl
  have hm : ∀ p q r s : Bool, ((if p = true then 2147483648 else 0) ||| (if q = true then 1073741824 else 0) ||| (if r = true then 536870912 else 0) ||| (if s = true then 268435456 else 0) : Nat) < 2 ^ 64 := by
    intro p q r s
    cases p <;> cases q <;> cases r <;> cases s <;> decide
  have e : nzP (setF c n 4) 4 = (((if (n / 2147483648 % 2 == 1) = true then 2147483648 else 0) ||| (if (n / 1073741824 % 2 == 1) = true then 1073741824 else 0) ||| (if (n / 536870912 % 2 == 1) = true then 536870912 else 0) ||| (if (n / 268435456 % 2 == 1) = true then 268435456 else 0) : Nat) : Int) := by
    rw [← hv]
    unfold nzP
    simp only [setF]
    rw [show (2147483648 : Int) = ((2147483648 : Nat) : Int) from rfl, show (1073741824 : Int) = ((1073741824 : Nat) : Int) from rfl, show (536870912 : Int) = ((536870912 : Nat) : Int) from rfl, show (268435456 : Int) = ((268435456 : Nat) : Int) from rfl, b31, b30, b29, b28]
  rw [e, bitsN _ _ (hm _ _ _ _) hn, Nat.and_comm, key _ _ _ _ rfl rfl rfl rfl]
theorem and_same (v : Int) (h0 : 0 ≤ v) (h1 : v ≤ 18446744073709551615) : bits .and .u64 v v = v := by
  obtain ⟨n, rfl⟩ := nat_of h0
  rw [bitsN n n (by omega) (by omega), Nat.and_self]
theorem low11_and (v : Int) (h0 : 0 ≤ v) (h1 : v ≤ 18446744073709551615) : bits .and .u64 (bits .andNot .u64 v 2047) v = bits .andNot .u64 v 2047 := by
  obtain ⟨n, rfl⟩ := nat_of h0
  have hn : n < 2 ^ 64 := by omega
  have e := andNotN n 2047 hn (by decide)
  have e3 : ((2047 : Nat) : Int) = 2047 := rfl
  rw [e3] at e
  rw [e, bitsN _ _ (BitVec.isLt _) hn]
  have : (BitVec.ofNat 64 n &&& ~~~ BitVec.ofNat 64 2047).toNat &&& n = (BitVec.ofNat 64 n &&& ~~~ BitVec.ofNat 64 2047).toNat := by
    rw [BitVec.toNat_and, BitVec.toNat_ofNat, Nat.mod_eq_of_lt hn, Nat.and_comm, ← Nat.and_assoc, Nat.and_self]
  rw [this]
theorem low32_and (v : Int) (h0 : 0 ≤ v) (h1 : v ≤ 18446744073709551615) : bits .and .u64 (bits .and .u64 v 4294967295) v = bits .and .u64 v 4294967295 := by
  obtain ⟨n, rfl⟩ := nat_of h0
  have hn : n < 2 ^ 64 := by omega
  have e := bitsN n 4294967295 hn (by decide)
  have e3 : ((4294967295 : Nat) : Int) = 4294967295 := rfl
  rw [e3] at e
  have hle : n &&& 4294967295 ≤ n := Nat.and_le_left
  rw [e, bitsN _ _ (by omega) hn, Nat.and_comm, ← Nat.and_assoc, Nat.and_self]
theorem daif_and (v : Int) (b : Bool) (h0 : 0 ≤ v) (h1 : v ≤ 18446744073709551615) (hb : (bits .and .u64 v 128 != 0) = b) : bits .and .u64 (if b = true then 128 else 0) v = (if b = true then 128 else 0) := by
  obtain ⟨n, rfl⟩ := nat_of h0
  have hn : n < 2 ^ 64 := by omega
  have e := bitsN n 128 hn (by decide)
  have e3 : ((128 : Nat) : Int) = 128 := rfl
  rw [e3] at e
  have a7 := and2k n 7
  simp only [Nat.reducePow] at a7
  cases b with
  | false =>
    have := bitsN 0 n (by decide) hn
    simpa using this
  | true =>
    rw [if_pos rfl]
    have e5 := bitsN 128 n (by decide) hn
    rw [e3] at e5
    rw [e5, Nat.and_comm, a7]
    rw [e, a7] at hb
    rcases Nat.mod_two_eq_zero_or_one (n / 128) with h | h
    · rw [h] at hb
      simp at hb
    · rw [h]; rfl
theorem daif_M (b : Bool) : (bits .and .u64 (if b = true then 128 else 0) 128 != 0) = b := by cases b <;> decide
theorem vbar_ne (c : Cr) (x : Int) (h : ¬ x = c.Vbar) : crEq { c with Vbar := x } c = false := by simp [crEq, h]
theorem esr_ne (c : Cr) (x : Int) (h : ¬ x = c.Esr) : crEq { c with Esr := x } c = false := by simp [crEq, h]
theorem low11_idem (v : Int) (h0 : 0 ≤ v) (h1 : v ≤ 18446744073709551615) : bits .andNot .u64 (bits .andNot .u64 v 2047) 2047 = bits .andNot .u64 v 2047 := by
  rw [low11 v h0 h1, low11 _ (by omega) (by omega)]
  omega
theorem low32_idem (v : Int) (h0 : 0 ≤ v) (h1 : v ≤ 18446744073709551615) : bits .and .u64 (bits .and .u64 v 4294967295) 4294967295 = bits .and .u64 v 4294967295 := by
  rw [low32 v h0 h1, low32 _ (by omega) (by omega)]
  omega
theorem regsSet_walk (c : Cr) (a1 a2 : Int) (w : World) (w0 : WfC c) (w1 : (Lit.int .i64 a1).wf = true) (w2 : (Lit.int .u64 a2).wf = true) :
    Calls Try.prog 8 #[.agg (cv c), .int .i64 a1, .int .u64 a2] w fun e w' => e = .returned (.bool true) ∧ Below w.heap.size w w' := by
  obtain ⟨h0, h1⟩ := u64_rng w2
  by_cases k_elr : a1 = 16897
  · subst k_elr
    exact set_same c _ _ _ _ _ 16897 a2 _ _ 0 w (fun w => get_elr c w) (fun w => set_elr c a2 w) (fun w => get_elr _ w) (fun w => set_elr _ a2 w) (fun w => set_elr _ _ w) (fun w => set_elr _ _ w) (fun w => get_elr _ w) (fun w => set_elr c _ w) (crEq_rfl _) (crEq_rfl _) (crEq_rfl _) (and_same a2 h0 h1)
  by_cases k_spsr : a1 = 16896
  · subst k_spsr
    exact set_same c _ _ _ _ _ 16896 a2 _ _ 0 w (fun w => get_spsr c w) (fun w => set_spsr c a2 w) (fun w => get_spsr _ w) (fun w => set_spsr _ a2 w) (fun w => set_spsr _ _ w) (fun w => set_spsr _ _ w) (fun w => get_spsr _ w) (fun w => set_spsr c _ w) (crEq_rfl _) (crEq_rfl _) (crEq_rfl _) (and_same a2 h0 h1)
  by_cases k_far : a1 = 17152
  · subst k_far
    exact set_same c _ _ _ _ _ 17152 a2 _ _ 0 w (fun w => get_far c w) (fun w => set_far c a2 w) (fun w => get_far _ w) (fun w => set_far _ a2 w) (fun w => set_far _ _ w) (fun w => set_far _ _ w) (fun w => get_far _ w) (fun w => set_far c _ w) (crEq_rfl _) (crEq_rfl _) (crEq_rfl _) (and_same a2 h0 h1)
  by_cases k_sp0 : a1 = 16904
  · subst k_sp0
    exact set_same c _ _ _ _ _ 16904 a2 _ _ 0 w (fun w => get_sp0 c w) (fun w => set_sp0 c a2 w) (fun w => get_sp0 _ w) (fun w => set_sp0 _ a2 w) (fun w => set_sp0 _ _ w) (fun w => set_sp0 _ _ w) (fun w => get_sp0 _ w) (fun w => set_sp0 c _ w) (crEq_rfl _) (crEq_rfl _) (crEq_rfl _) (and_same a2 h0 h1)
  by_cases k_tpidr : a1 = 24194
  · subst k_tpidr
    exact set_same c _ _ _ _ _ 24194 a2 _ _ 0 w (fun w => get_tpidr c w) (fun w => set_tpidr c a2 w) (fun w => get_tpidr _ w) (fun w => set_tpidr _ a2 w) (fun w => set_tpidr _ _ w) (fun w => set_tpidr _ _ w) (fun w => get_tpidr _ w) (fun w => set_tpidr c _ w) (crEq_rfl _) (crEq_rfl _) (crEq_rfl _) (and_same a2 h0 h1)
  by_cases k_vbar : a1 = 17920
  · subst k_vbar
    obtain ⟨p0, p1⟩ := u64_rng w0.Vbar
    by_cases hn : bits .andNot .u64 c.Vbar 2047 = c.Vbar
    · exact set_same c _ _ _ _ _ 17920 a2 _ _ 0 w (fun w => get_vbar c w) (fun w => set_vbar c a2 w) (fun w => get_vbar _ w) (fun w => set_vbar _ a2 w) (fun w => set_vbar _ _ w) (fun w => set_vbar _ _ w) (fun w => by have := get_vbar { c with Vbar := bits .andNot .u64 c.Vbar 2047 } w; rw [hn] at this ⊢; exact this) (fun w => set_vbar c _ w) (crEq_rfl _) (by rw [low11_idem a2 h0 h1]; exact crEq_rfl _) (crEq_rfl _) (low11_and a2 h0 h1)
    · exact set_diff c _ _ _ _ _ 17920 a2 _ _ _ w (fun w => get_vbar c w) (fun w => set_vbar c a2 w) (fun w => get_vbar _ w) (fun w => set_vbar _ a2 w) (fun w => set_vbar _ _ w) (fun w => set_vbar _ _ w) (fun w => get_vbar _ w) (fun w => set_vbar c _ w) (crEq_rfl _) (by rw [low11_idem a2 h0 h1]; exact crEq_rfl _) (crEq_rfl _) (low11_and a2 h0 h1) (vbar_ne c _ hn) (by simpa using hn)
  by_cases k_esr : a1 = 17040
  · subst k_esr
    obtain ⟨p0, p1⟩ := u64_rng w0.Esr
    by_cases hn : bits .and .u64 c.Esr 4294967295 = c.Esr
    · exact set_same c _ _ _ _ _ 17040 a2 _ _ 0 w (fun w => get_esr c w) (fun w => set_esr c a2 w) (fun w => get_esr _ w) (fun w => set_esr _ a2 w) (fun w => set_esr _ _ w) (fun w => set_esr _ _ w) (fun w => by have := get_esr { c with Esr := bits .and .u64 c.Esr 4294967295 } w; rw [hn] at this ⊢; exact this) (fun w => set_esr c _ w) (crEq_rfl _) (by rw [low32_idem a2 h0 h1]; exact crEq_rfl _) (crEq_rfl _) (low32_and a2 h0 h1)
    · exact set_diff c _ _ _ _ _ 17040 a2 _ _ _ w (fun w => get_esr c w) (fun w => set_esr c a2 w) (fun w => get_esr _ w) (fun w => set_esr _ a2 w) (fun w => set_esr _ _ w) (fun w => set_esr _ _ w) (fun w => get_esr _ w) (fun w => set_esr c _ w) (crEq_rfl _) (by rw [low32_idem a2 h0 h1]; exact crEq_rfl _) (crEq_rfl _) (low32_and a2 h0 h1) (esr_ne c _ hn) (by simpa using hn)
  by_cases k_nz : a1 = 23056
  · subst k_nz
    obtain ⟨b1, b2, b3, b4, n0, n1⟩ := nz_bit c
    obtain ⟨d1, d2, d3, d4, m0, m1⟩ := nz_bit (setF c a2 4)
    have eA : setF (setF c a2 4) (nzP c 4) 4 = setF c (nzP c 4) 4 := rfl
    have eU : setF c (nzP c 4) 4 = c := setF_self c c rfl rfl rfl rfl
    exact set_same c _ _ _ _ _ 23056 a2 _ _ 0 w (fun w => get_nzcv c w) (fun w => set_nzcv c a2 w h0 h1) (fun w => get_nzcv _ w) (fun w => set_nzcv _ a2 w h0 h1) (fun w => set_nzcv _ _ w m0 m1) (fun w => set_nzcv _ _ w n0 n1)
      (fun w => by have := get_nzcv (setF (setF c a2 4) (nzP c 4) 4) w; rw [eA, eU] at this ⊢; exact this) (fun w => set_nzcv c _ w n0 n1) (crEq_rfl _) (by rw [setF_self _ _ rfl rfl rfl rfl]; exact crEq_rfl _) (crEq_rfl _) (nz_and c a2 h0 h1)
  by_cases k_da : a1 = 23057
  · subst k_da
    exact set_same c _ _ _ _ _ 23057 a2 _ _ 0 w (fun w => get_daif c w) (fun w => set_daif c a2 w) (fun w => get_daif _ w) (fun w => set_daif _ a2 w) (fun w => set_daif _ _ w) (fun w => set_daif _ _ w)
      (fun w => by have := get_daif { c with M := bits .and .u64 (if c.M = true then 128 else 0) 128 != 0 } w; simp only [daif_M] at this ⊢; exact this) (fun w => set_daif c _ w) (crEq_rfl _) (by rw [daif_M]; exact crEq_rfl _) (crEq_rfl _) (daif_and a2 _ h0 h1 rfl)
  have hp : noPlace a1 := ⟨k_vbar, k_elr, k_spsr, k_esr, k_far, k_sp0, k_tpidr⟩
  have hs : noSet a1 := ⟨k_nz, k_da⟩
  by_cases k_mp : a1 = 16389
  · subst k_mp
    exact set_bad c 16389 a2 _ true w (fun w => get_mpid c w) (fun w => set_no c _ a2 w hp hs)
  by_cases k_el : a1 = 16914
  · subst k_el
    exact set_bad c 16914 a2 _ true w (fun w => get_el c w) (fun w => set_no c _ a2 w hp hs)
  have hg : noGet a1 := ⟨k_nz, k_da, k_mp, k_el⟩
  exact set_bad c a1 a2 _ false w (fun w => get_no c a1 w hp hg) (fun w => set_no c a1 a2 w hp hs)
end Go.Proofs.Ytiaflkabnaofpaa
