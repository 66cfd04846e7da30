/- The walk of RegsX. -/
import Derived.Test.YtiaflkabnaofpaaLSystem
import Derived.Test.YtiaflkabnaofpaaRX
namespace Go.Proofs.Ytiaflkabnaofpaa
open Go.RowKit
set_option linter.unusedVariables false
attribute [local go_sem] fold0

set_option maxRecDepth 100000 in
set_option maxHeartbeats 4000000 in
theorem x_walk_ok_bad (c D : Cr) (id r v xv : Int) (w : World)
    (hx : ∀ w, Calls Try.prog 16 #[.agg (cv c), .int .i64 r] w fun e w' => e = .returned (.tuple #[.int .u64 xv, .int .i64 0]) ∧ Fr Nil w w')
    (hrx : ∀ w, Calls Try.prog 18 #[.agg (cv c), .int .i64 r] w fun e w' => e = .returned (.tuple #[.int .u64 xv, .bool true]) ∧ Fr Nil w w')
    (hs : ∀ w, Calls Try.prog 17 #[.agg (cv c), .int .i64 r, .int .u64 v] w fun e w' => e = .returned (.tuple #[.agg (cv D), .int .i64 0]) ∧ Fr Nil w w')
    (hrs : ∀ w, Calls Try.prog 19 #[.agg (cv c), .int .i64 r, .int .u64 v] w fun e w' => e = .returned (.tuple #[.agg (cv D), .bool true]) ∧ Fr Nil w w') (hl : levelF c = false) (n0 : ¬ c.EL = 0) (n1 : ¬ c.EL = 1) :
    Calls Try.prog 6 #[.agg (cv c), .int .i64 id, .int .i64 r, .int .u64 v] w fun e w' => e = .returned (.bool true) ∧ Below w.heap.size w w' := by
  have HX := Lib.hid hx
  have HRX := Lib.hid hrx
  have HS := Lib.hid hs
  have HRS := Lib.hid hrs
  have HL := Lib.hid hl
  have N0 := Lib.hid n0
  have N1 := Lib.hid n1
  clear hx hrx hs hrs hl n0 n1
  have qD : ∀ W : World, (binOp .neq 26 (.agg (cv D)) (.agg (cv D))).run Try.prog W = .ok (.bool false) W := fun W => by rw [run_neq_core, crEq_rfl]; rfl
  have qN : ∀ W : World, (binOp .neq 26 (.agg (cv (newC id v))) (.agg (cv (newC id v)))).run Try.prog W = .ok (.bool false) W := fun W => by rw [run_neq_core, crEq_rfl]; rfl
  have hfold : ((((cv zeroC).setIfInBounds 46 (.int .i64 id)).setIfInBounds 33 (.int .u64 v)).setIfInBounds 38 (.int .i64 1)).setIfInBounds 39 (.bool true) = cv (newC id v) := rfl
  have qT : ∀ W : World, (binOp .eql 26 (.agg (cv zeroC)) (.agg (cv zeroC))).run Try.prog W = .ok (.bool true) W := fun W => by rw [run_eq_core, crEq_rfl]
  go_enter Try.func6, Try.ntmps6
  go_wp2_with fail
  refine (examples_ok _).mono ?_
  rintro e w2 ⟨rfl, hf2⟩
  have gch2 : Blk w2 w.heap.size 26 (cv c) := Blk.fr0 (Blk.new _ _ _) hf2
  have F2 := ((Fr.refl Nil w).alloc (.cells (cv c) 26)).trans hf2
  clear hf2
  generalize hgc : w.heap.size = gc at *
  have Hgc := Lib.hid hgc
  clear hgc
  go_wp2_with (refine wpList_load_blk rfl 26 (.tmp 4) rfl gc rfl _ gch2 Try.underlying26 rfl info26 ?_)
  refine (HX.out _).mono ?_
  rintro e w3 ⟨rfl, hf3⟩
  have gch3 := Blk.fr0 gch2 hf3
  have F3 := F2.trans hf3
  clear gch2 F2 hf3
  go_wp2_with (refine wpList_load_blk rfl 26 (.tmp 4) rfl gc rfl _ gch3 Try.underlying26 rfl info26 ?_)
  refine (HRX.out _).mono ?_
  rintro e w4 ⟨rfl, hf4⟩
  have gch4 := Blk.fr0 gch3 hf4
  have F4 := F3.trans hf4
  clear gch3 F3 hf4
  go_wp2_with (refine wpList_load_blk rfl 26 (.tmp 4) rfl gc rfl _ gch4 Try.underlying26 rfl info26 ?_)
  refine (HS.out _).mono ?_
  rintro e w5 ⟨rfl, hf5⟩
  have gch5 := Blk.fr0 gch4 hf5
  have F5 := F4.trans hf5
  clear gch4 F4 hf5
  have gcl6 := gch5.lt
  go_upto_region 7 with (refine wpList_store_blk0 rfl 26 (.tmp 14) (.tmp 44) rfl w5.heap.size rfl (cv D) rfl (Blk.new _ _ _) info26 rfl (one_cv _) ?_; intro w6 hf6 gah6)
  have gch6 := Blk.fr1 (Blk.alloc gch5 (.cells (cv zeroC) 26)) hf6 (by omega)
  have F6 := (F5.alloc (.cells (cv zeroC) 26)).own1 hf6 F5.size
  clear gch5 F5 hf6
  generalize w5.heap.size = ga at *
  go_wp2_with (refine wpList_load_blk rfl 26 (.tmp 4) rfl gc rfl _ gch6 Try.underlying26 rfl info26 ?_)
  refine (HRS.out _).mono ?_
  rintro e w7 ⟨rfl, hf7⟩
  have gch7 := Blk.fr0 gch6 hf7
  have gah7 := Blk.fr0 gah6 hf7
  have F7 := F6.trans hf7
  clear gch6 gah6 F6 hf7
  have gcl8 := gch7.lt
  have gal8 := gah7.lt
  go_upto_region 8 with (refine wpList_store_blk0 rfl 26 (.tmp 16) (.tmp 51) rfl w7.heap.size rfl (cv D) rfl (Blk.new _ _ _) info26 rfl (one_cv _) ?_; intro w8 hf8 gbh8)
  have gch8 := Blk.fr1 (Blk.alloc gch7 (.cells (cv zeroC) 26)) hf8 (by omega)
  have gah8 := Blk.fr1 (Blk.alloc gah7 (.cells (cv zeroC) 26)) hf8 (by omega)
  have F8 := (F7.alloc (.cells (cv zeroC) 26)).own1 hf8 F7.size
  clear gch7 gah7 F7 hf8
  generalize w7.heap.size = gb at *
  go_wp2_with (refine wpList_load_blk rfl 26 (.tmp 4) rfl gc rfl _ gch8 Try.underlying26 rfl info26 ?_)
  refine (sp_bad c _ HL.out).mono ?_
  rintro e w9 ⟨rfl, hf9⟩
  have gch9 := Blk.fr0 gch8 hf9
  have gah9 := Blk.fr0 gah8 hf9
  have gbh9 := Blk.fr0 gbh8 hf9
  have F9 := F8.trans hf9
  clear gch8 gah8 gbh8 F8 hf9
  go_wp2_with (refine wpList_load_blk rfl 26 (.tmp 4) rfl gc rfl _ gch9 Try.underlying26 rfl info26 ?_)
  refine (setsp_bad c v _ HL.out).mono ?_
  rintro e w10 ⟨rfl, hf10⟩
  have gch10 := Blk.fr0 gch9 hf10
  have gah10 := Blk.fr0 gah9 hf10
  have gbh10 := Blk.fr0 gbh9 hf10
  have F10 := F9.trans hf10
  clear gch9 gah9 gbh9 F9 hf10
  have gcl11 := gch10.lt
  have gal11 := gah10.lt
  have gbl11 := gbh10.lt
  go_upto_region 10 with (refine wpList_store_blk0 rfl 26 (.tmp 20) (.tmp 62) rfl w10.heap.size rfl (cv zeroC) rfl (Blk.new _ _ _) info26 rfl (one_cv _) ?_; intro w11 hf11 gth11)
  have gch11 := Blk.fr1 (Blk.alloc gch10 (.cells (cv zeroC) 26)) hf11 (by omega)
  have gah11 := Blk.fr1 (Blk.alloc gah10 (.cells (cv zeroC) 26)) hf11 (by omega)
  have gbh11 := Blk.fr1 (Blk.alloc gbh10 (.cells (cv zeroC) 26)) hf11 (by omega)
  have F11 := (F10.alloc (.cells (cv zeroC) 26)).own1 hf11 F10.size
  clear gch10 gah10 gbh10 F10 hf11
  generalize w10.heap.size = gt at *
  go_wp2_with (refine wpList_load_blk rfl 26 (.tmp 4) rfl gc rfl _ gch11 Try.underlying26 rfl info26 ?_)
  refine (rright_ok c _).mono ?_
  rintro e w12 ⟨rfl, hf12⟩
  have gch12 := Blk.fr0 gch11 hf12
  have gah12 := Blk.fr0 gah11 hf12
  have gbh12 := Blk.fr0 gbh11 hf12
  have gth12 := Blk.fr0 gth11 hf12
  have F12 := F11.trans hf12
  clear gch11 gah11 gbh11 gth11 F11 hf12
  generalize hrr : rightF c = rr at *
  have Hrr := Lib.hid hrr
  clear hrr
  go_wp2_with (first | (refine wpList_load_blkg rfl 26 (.tmp 14) rfl ga rfl _ gah12 Try.underlying26 rfl info26 ?_) | (refine wpList_load_blkg rfl 26 (.tmp 16) rfl gb rfl _ gbh12 Try.underlying26 rfl info26 ?_) | (refine wpList_load_blkg rfl 26 (.tmp 4) rfl gc rfl _ gch12 Try.underlying26 rfl info26 ?_))
  refine (right_ok c _).mono ?_
  rintro e w13 ⟨rfl, hf13⟩
  have gch13 := Blk.fr0 gch12 hf13
  have gah13 := Blk.fr0 gah12 hf13
  have gbh13 := Blk.fr0 gbh12 hf13
  have gth13 := Blk.fr0 gth12 hf13
  have F13 := F12.trans hf13
  clear gch12 gah12 gbh12 gth12 F12 hf13
  rw [Hrr.out]
  go_wp2_with fail
  refine (new_ok id v _).mono ?_
  rintro e w14 ⟨rfl, hf14⟩
  have gch14 := Blk.fr0 gch13 hf14
  have gah14 := Blk.fr0 gah13 hf14
  have gbh14 := Blk.fr0 gbh13 hf14
  have gth14 := Blk.fr0 gth13 hf14
  have F14 := F13.trans hf14
  clear gch13 gah13 gbh13 gth13 F13 hf14
  have d38 : w14.cell? ⟨gc, 38, none⟩ = some (.int .i64 c.EL) := gch14.cellv (cv_38 c)
  have m0 : (c.EL != 0) = true := by simpa using N0.out
  have m1 : (c.EL != 1) = true := by simpa using N1.out
  have m2 := N0.out
  have m3 := N1.out
  go_wp2_with (refine wpList_load_blkg rfl 26 (.tmp 20) rfl gt rfl _ gth14 Try.underlying26 rfl info26 ?_)
  all_goals go_ret
  all_goals exact ⟨by first | rfl | simp [*], F14.below (by rw [Hgc.out]; exact Nat.le_refl _) (fun _ _ h => h)⟩
set_option maxRecDepth 100000 in
set_option maxHeartbeats 4000000 in
theorem x_walk_ok_0 (c D : Cr) (id r v xv : Int) (w : World)
    (hx : ∀ w, Calls Try.prog 16 #[.agg (cv c), .int .i64 r] w fun e w' => e = .returned (.tuple #[.int .u64 xv, .int .i64 0]) ∧ Fr Nil w w')
    (hrx : ∀ w, Calls Try.prog 18 #[.agg (cv c), .int .i64 r] w fun e w' => e = .returned (.tuple #[.int .u64 xv, .bool true]) ∧ Fr Nil w w')
    (hs : ∀ w, Calls Try.prog 17 #[.agg (cv c), .int .i64 r, .int .u64 v] w fun e w' => e = .returned (.tuple #[.agg (cv D), .int .i64 0]) ∧ Fr Nil w w')
    (hrs : ∀ w, Calls Try.prog 19 #[.agg (cv c), .int .i64 r, .int .u64 v] w fun e w' => e = .returned (.tuple #[.agg (cv D), .bool true]) ∧ Fr Nil w w') (hl : c.EL = 0) :
    Calls Try.prog 6 #[.agg (cv c), .int .i64 id, .int .i64 r, .int .u64 v] w fun e w' => e = .returned (.bool true) ∧ Below w.heap.size w w' := by
  have HX := Lib.hid hx
  have HRX := Lib.hid hrx
  have HS := Lib.hid hs
  have HRS := Lib.hid hrs
  have HL := Lib.hid hl
  clear hx hrx hs hrs hl
  have qD : ∀ W : World, (binOp .neq 26 (.agg (cv D)) (.agg (cv D))).run Try.prog W = .ok (.bool false) W := fun W => by rw [run_neq_core, crEq_rfl]; rfl
  have qN : ∀ W : World, (binOp .neq 26 (.agg (cv (newC id v))) (.agg (cv (newC id v)))).run Try.prog W = .ok (.bool false) W := fun W => by rw [run_neq_core, crEq_rfl]; rfl
  have hfold : ((((cv zeroC).setIfInBounds 46 (.int .i64 id)).setIfInBounds 33 (.int .u64 v)).setIfInBounds 38 (.int .i64 1)).setIfInBounds 39 (.bool true) = cv (newC id v) := rfl
  have qT : ∀ W : World, (binOp .eql 26 (.agg (cv { c with S0 := v })) (.agg (cv { c with S0 := v }))).run Try.prog W = .ok (.bool true) W := fun W => by rw [run_eq_core, crEq_rfl]
  go_enter Try.func6, Try.ntmps6
  go_wp2_with fail
  refine (examples_ok _).mono ?_
  rintro e w2 ⟨rfl, hf2⟩
  have gch2 : Blk w2 w.heap.size 26 (cv c) := Blk.fr0 (Blk.new _ _ _) hf2
  have F2 := ((Fr.refl Nil w).alloc (.cells (cv c) 26)).trans hf2
  clear hf2
  generalize hgc : w.heap.size = gc at *
  have Hgc := Lib.hid hgc
  clear hgc
  go_wp2_with (refine wpList_load_blk rfl 26 (.tmp 4) rfl gc rfl _ gch2 Try.underlying26 rfl info26 ?_)
  refine (HX.out _).mono ?_
  rintro e w3 ⟨rfl, hf3⟩
  have gch3 := Blk.fr0 gch2 hf3
  have F3 := F2.trans hf3
  clear gch2 F2 hf3
  go_wp2_with (refine wpList_load_blk rfl 26 (.tmp 4) rfl gc rfl _ gch3 Try.underlying26 rfl info26 ?_)
  refine (HRX.out _).mono ?_
  rintro e w4 ⟨rfl, hf4⟩
  have gch4 := Blk.fr0 gch3 hf4
  have F4 := F3.trans hf4
  clear gch3 F3 hf4
  go_wp2_with (refine wpList_load_blk rfl 26 (.tmp 4) rfl gc rfl _ gch4 Try.underlying26 rfl info26 ?_)
  refine (HS.out _).mono ?_
  rintro e w5 ⟨rfl, hf5⟩
  have gch5 := Blk.fr0 gch4 hf5
  have F5 := F4.trans hf5
  clear gch4 F4 hf5
  have gcl6 := gch5.lt
  go_upto_region 7 with (refine wpList_store_blk0 rfl 26 (.tmp 14) (.tmp 44) rfl w5.heap.size rfl (cv D) rfl (Blk.new _ _ _) info26 rfl (one_cv _) ?_; intro w6 hf6 gah6)
  have gch6 := Blk.fr1 (Blk.alloc gch5 (.cells (cv zeroC) 26)) hf6 (by omega)
  have F6 := (F5.alloc (.cells (cv zeroC) 26)).own1 hf6 F5.size
  clear gch5 F5 hf6
  generalize w5.heap.size = ga at *
  go_wp2_with (refine wpList_load_blk rfl 26 (.tmp 4) rfl gc rfl _ gch6 Try.underlying26 rfl info26 ?_)
  refine (HRS.out _).mono ?_
  rintro e w7 ⟨rfl, hf7⟩
  have gch7 := Blk.fr0 gch6 hf7
  have gah7 := Blk.fr0 gah6 hf7
  have F7 := F6.trans hf7
  clear gch6 gah6 F6 hf7
  have gcl8 := gch7.lt
  have gal8 := gah7.lt
  go_upto_region 8 with (refine wpList_store_blk0 rfl 26 (.tmp 16) (.tmp 51) rfl w7.heap.size rfl (cv D) rfl (Blk.new _ _ _) info26 rfl (one_cv _) ?_; intro w8 hf8 gbh8)
  have gch8 := Blk.fr1 (Blk.alloc gch7 (.cells (cv zeroC) 26)) hf8 (by omega)
  have gah8 := Blk.fr1 (Blk.alloc gah7 (.cells (cv zeroC) 26)) hf8 (by omega)
  have F8 := (F7.alloc (.cells (cv zeroC) 26)).own1 hf8 F7.size
  clear gch7 gah7 F7 hf8
  generalize w7.heap.size = gb at *
  go_wp2_with (refine wpList_load_blk rfl 26 (.tmp 4) rfl gc rfl _ gch8 Try.underlying26 rfl info26 ?_)
  refine (sp_0 c _ HL.out).mono ?_
  rintro e w9 ⟨rfl, hf9⟩
  have gch9 := Blk.fr0 gch8 hf9
  have gah9 := Blk.fr0 gah8 hf9
  have gbh9 := Blk.fr0 gbh8 hf9
  have F9 := F8.trans hf9
  clear gch8 gah8 gbh8 F8 hf9
  go_wp2_with (refine wpList_load_blk rfl 26 (.tmp 4) rfl gc rfl _ gch9 Try.underlying26 rfl info26 ?_)
  refine (setsp_0 c v _ HL.out).mono ?_
  rintro e w10 ⟨rfl, hf10⟩
  have gch10 := Blk.fr0 gch9 hf10
  have gah10 := Blk.fr0 gah9 hf10
  have gbh10 := Blk.fr0 gbh9 hf10
  have F10 := F9.trans hf10
  clear gch9 gah9 gbh9 F9 hf10
  have gcl11 := gch10.lt
  have gal11 := gah10.lt
  have gbl11 := gbh10.lt
  go_upto_region 10 with (refine wpList_store_blk0 rfl 26 (.tmp 20) (.tmp 62) rfl w10.heap.size rfl (cv { c with S0 := v }) rfl (Blk.new _ _ _) info26 rfl (one_cv _) ?_; intro w11 hf11 gth11)
  have gch11 := Blk.fr1 (Blk.alloc gch10 (.cells (cv zeroC) 26)) hf11 (by omega)
  have gah11 := Blk.fr1 (Blk.alloc gah10 (.cells (cv zeroC) 26)) hf11 (by omega)
  have gbh11 := Blk.fr1 (Blk.alloc gbh10 (.cells (cv zeroC) 26)) hf11 (by omega)
  have F11 := (F10.alloc (.cells (cv zeroC) 26)).own1 hf11 F10.size
  clear gch10 gah10 gbh10 F10 hf11
  generalize w10.heap.size = gt at *
  go_wp2_with (refine wpList_load_blk rfl 26 (.tmp 4) rfl gc rfl _ gch11 Try.underlying26 rfl info26 ?_)
  refine (rright_ok c _).mono ?_
  rintro e w12 ⟨rfl, hf12⟩
  have gch12 := Blk.fr0 gch11 hf12
  have gah12 := Blk.fr0 gah11 hf12
  have gbh12 := Blk.fr0 gbh11 hf12
  have gth12 := Blk.fr0 gth11 hf12
  have F12 := F11.trans hf12
  clear gch11 gah11 gbh11 gth11 F11 hf12
  generalize hrr : rightF c = rr at *
  have Hrr := Lib.hid hrr
  clear hrr
  go_wp2_with (first | (refine wpList_load_blkg rfl 26 (.tmp 14) rfl ga rfl _ gah12 Try.underlying26 rfl info26 ?_) | (refine wpList_load_blkg rfl 26 (.tmp 16) rfl gb rfl _ gbh12 Try.underlying26 rfl info26 ?_) | (refine wpList_load_blkg rfl 26 (.tmp 4) rfl gc rfl _ gch12 Try.underlying26 rfl info26 ?_))
  refine (right_ok c _).mono ?_
  rintro e w13 ⟨rfl, hf13⟩
  have gch13 := Blk.fr0 gch12 hf13
  have gah13 := Blk.fr0 gah12 hf13
  have gbh13 := Blk.fr0 gbh12 hf13
  have gth13 := Blk.fr0 gth12 hf13
  have F13 := F12.trans hf13
  clear gch12 gah12 gbh12 gth12 F12 hf13
  rw [Hrr.out]
  go_wp2_with fail
  refine (new_ok id v _).mono ?_
  rintro e w14 ⟨rfl, hf14⟩
  have gch14 := Blk.fr0 gch13 hf14
  have gah14 := Blk.fr0 gah13 hf14
  have gbh14 := Blk.fr0 gbh13 hf14
  have gth14 := Blk.fr0 gth13 hf14
  have F14 := F13.trans hf14
  clear gch13 gah13 gbh13 gth13 F13 hf14
  have d38 : w14.cell? ⟨gc, 38, none⟩ = some (.int .i64 0) := by rw [← HL.out]; exact gch14.cellv (cv_38 c)
  have gcl15 := gch14.lt
  have gal15 := gah14.lt
  have gbl15 := gbh14.lt
  have gtl15 := gth14.lt
  go_upto_region 16 with (first | (refine wpList_load_blk rfl 26 (.tmp 4) rfl gc rfl _ gch14 Try.underlying26 rfl info26 ?_) | (refine wpList_store_blk0 rfl 26 (.tmp 23) (.tmp 143) rfl w14.heap.size rfl (cv c) rfl (Blk.new _ _ _) info26 rfl (one_cv _) ?_; intro w15 hf15 gyh15))
  have gch15 := Blk.fr1 (Blk.alloc gch14 (.cells (cv zeroC) 26)) hf15 (by omega)
  have gah15 := Blk.fr1 (Blk.alloc gah14 (.cells (cv zeroC) 26)) hf15 (by omega)
  have gbh15 := Blk.fr1 (Blk.alloc gbh14 (.cells (cv zeroC) 26)) hf15 (by omega)
  have gth15 := Blk.fr1 (Blk.alloc gth14 (.cells (cv zeroC) 26)) hf15 (by omega)
  have F15 := (F14.alloc (.cells (cv zeroC) 26)).own1 hf15 F14.size
  clear gch14 gah14 gbh14 gth14 F14 hf15
  generalize w14.heap.size = gy at *
  clear d38
  have hgy : w.heap.size ≤ gy := by have := Hgc.out; omega
  have d38 : w15.cell? ⟨gc, 38, none⟩ = some (.int .i64 0) := by rw [← HL.out]; exact gch15.cellv (cv_38 c)
  have dgy31 : w15.cell? ⟨gy, 31, none⟩ = some (.int .u64 c.S0) := gyh15.cellv (cv_31 _)
  have fgy31 : w15.frozen? ⟨gy, 31, none⟩ = false := gyh15.frozen _
  have negc16 : gc ≠ gy := by omega
  have nega16 : ga ≠ gy := by omega
  have negb16 : gb ≠ gy := by omega
  have negt16 : gt ≠ gy := by omega
  have gyh16 := (blk_setS0 gyh15 (v))
  have gch16 := (Blk.farc (b := gy) (i := 31) gch15 negc16 (.int .u64 (v)))
  have gah16 := (Blk.farc (b := gy) (i := 31) gah15 nega16 (.int .u64 (v)))
  have gbh16 := (Blk.farc (b := gy) (i := 31) gbh15 negb16 (.int .u64 (v)))
  have gth16 := (Blk.farc (b := gy) (i := 31) gth15 negt16 (.int .u64 (v)))
  have F16 := (Fr.setNew (g := gy) (i := 31) F15 hgy (.int .u64 (v)))
  go_upto_region 17 with fail
  generalize (w15.setCell ⟨gy, 31, none⟩ (.int .u64 (v))) = w16 at *
  clear dgy31 fgy31 gch15 gah15 gbh15 gth15 gyh15 F15
  clear d38
  have d38 : w16.cell? ⟨gc, 38, none⟩ = some (.int .i64 0) := by rw [← HL.out]; exact gch16.cellv (cv_38 c)
  have dS : w16.cell? ⟨gc, 31, none⟩ = some (.int .u64 c.S0) := gch16.cellv (cv_31 c)
  go_wp2_with (first | (refine wpList_load_blkg rfl 26 (.tmp 20) rfl gt rfl _ gth16 Try.underlying26 rfl info26 ?_) | (refine wpList_load_blkg rfl 26 (.tmp 23) rfl gy rfl _ gyh16 Try.underlying26 rfl info26 ?_))
  all_goals go_ret
  all_goals exact ⟨by first | rfl | simp [*], F16.below (by rw [Hgc.out]; exact Nat.le_refl _) (fun _ _ h => h)⟩
set_option maxRecDepth 100000 in
set_option maxHeartbeats 4000000 in
theorem x_walk_ok_1 (c D : Cr) (id r v xv : Int) (w : World)
    (hx : ∀ w, Calls Try.prog 16 #[.agg (cv c), .int .i64 r] w fun e w' => e = .returned (.tuple #[.int .u64 xv, .int .i64 0]) ∧ Fr Nil w w')
    (hrx : ∀ w, Calls Try.prog 18 #[.agg (cv c), .int .i64 r] w fun e w' => e = .returned (.tuple #[.int .u64 xv, .bool true]) ∧ Fr Nil w w')
    (hs : ∀ w, Calls Try.prog 17 #[.agg (cv c), .int .i64 r, .int .u64 v] w fun e w' => e = .returned (.tuple #[.agg (cv D), .int .i64 0]) ∧ Fr Nil w w')
    (hrs : ∀ w, Calls Try.prog 19 #[.agg (cv c), .int .i64 r, .int .u64 v] w fun e w' => e = .returned (.tuple #[.agg (cv D), .bool true]) ∧ Fr Nil w w') (hl : c.EL = 1) :
    Calls Try.prog 6 #[.agg (cv c), .int .i64 id, .int .i64 r, .int .u64 v] w fun e w' => e = .returned (.bool true) ∧ Below w.heap.size w w' := by
  have HX := Lib.hid hx
  have HRX := Lib.hid hrx
  have HS := Lib.hid hs
  have HRS := Lib.hid hrs
  have HL := Lib.hid hl
  clear hx hrx hs hrs hl
  have qD : ∀ W : World, (binOp .neq 26 (.agg (cv D)) (.agg (cv D))).run Try.prog W = .ok (.bool false) W := fun W => by rw [run_neq_core, crEq_rfl]; rfl
  have qN : ∀ W : World, (binOp .neq 26 (.agg (cv (newC id v))) (.agg (cv (newC id v)))).run Try.prog W = .ok (.bool false) W := fun W => by rw [run_neq_core, crEq_rfl]; rfl
  have hfold : ((((cv zeroC).setIfInBounds 46 (.int .i64 id)).setIfInBounds 33 (.int .u64 v)).setIfInBounds 38 (.int .i64 1)).setIfInBounds 39 (.bool true) = cv (newC id v) := rfl
  have qT : ∀ W : World, (binOp .eql 26 (.agg (cv { c with S1 := v })) (.agg (cv { c with S1 := v }))).run Try.prog W = .ok (.bool true) W := fun W => by rw [run_eq_core, crEq_rfl]
  go_enter Try.func6, Try.ntmps6
  go_wp2_with fail
  refine (examples_ok _).mono ?_
  rintro e w2 ⟨rfl, hf2⟩
  have gch2 : Blk w2 w.heap.size 26 (cv c) := Blk.fr0 (Blk.new _ _ _) hf2
  have F2 := ((Fr.refl Nil w).alloc (.cells (cv c) 26)).trans hf2
  clear hf2
  generalize hgc : w.heap.size = gc at *
  have Hgc := Lib.hid hgc
  clear hgc
  go_wp2_with (refine wpList_load_blk rfl 26 (.tmp 4) rfl gc rfl _ gch2 Try.underlying26 rfl info26 ?_)
  refine (HX.out _).mono ?_
  rintro e w3 ⟨rfl, hf3⟩
  have gch3 := Blk.fr0 gch2 hf3
  have F3 := F2.trans hf3
  clear gch2 F2 hf3
  go_wp2_with (refine wpList_load_blk rfl 26 (.tmp 4) rfl gc rfl _ gch3 Try.underlying26 rfl info26 ?_)
  refine (HRX.out _).mono ?_
  rintro e w4 ⟨rfl, hf4⟩
  have gch4 := Blk.fr0 gch3 hf4
  have F4 := F3.trans hf4
  clear gch3 F3 hf4
  go_wp2_with (refine wpList_load_blk rfl 26 (.tmp 4) rfl gc rfl _ gch4 Try.underlying26 rfl info26 ?_)
  refine (HS.out _).mono ?_
  rintro e w5 ⟨rfl, hf5⟩
  have gch5 := Blk.fr0 gch4 hf5
  have F5 := F4.trans hf5
  clear gch4 F4 hf5
  have gcl6 := gch5.lt
  go_upto_region 7 with (refine wpList_store_blk0 rfl 26 (.tmp 14) (.tmp 44) rfl w5.heap.size rfl (cv D) rfl (Blk.new _ _ _) info26 rfl (one_cv _) ?_; intro w6 hf6 gah6)
  have gch6 := Blk.fr1 (Blk.alloc gch5 (.cells (cv zeroC) 26)) hf6 (by omega)
  have F6 := (F5.alloc (.cells (cv zeroC) 26)).own1 hf6 F5.size
  clear gch5 F5 hf6
  generalize w5.heap.size = ga at *
  go_wp2_with (refine wpList_load_blk rfl 26 (.tmp 4) rfl gc rfl _ gch6 Try.underlying26 rfl info26 ?_)
  refine (HRS.out _).mono ?_
  rintro e w7 ⟨rfl, hf7⟩
  have gch7 := Blk.fr0 gch6 hf7
  have gah7 := Blk.fr0 gah6 hf7
  have F7 := F6.trans hf7
  clear gch6 gah6 F6 hf7
  have gcl8 := gch7.lt
  have gal8 := gah7.lt
  go_upto_region 8 with (refine wpList_store_blk0 rfl 26 (.tmp 16) (.tmp 51) rfl w7.heap.size rfl (cv D) rfl (Blk.new _ _ _) info26 rfl (one_cv _) ?_; intro w8 hf8 gbh8)
  have gch8 := Blk.fr1 (Blk.alloc gch7 (.cells (cv zeroC) 26)) hf8 (by omega)
  have gah8 := Blk.fr1 (Blk.alloc gah7 (.cells (cv zeroC) 26)) hf8 (by omega)
  have F8 := (F7.alloc (.cells (cv zeroC) 26)).own1 hf8 F7.size
  clear gch7 gah7 F7 hf8
  generalize w7.heap.size = gb at *
  go_wp2_with (refine wpList_load_blk rfl 26 (.tmp 4) rfl gc rfl _ gch8 Try.underlying26 rfl info26 ?_)
  refine (sp_1 c _ HL.out).mono ?_
  rintro e w9 ⟨rfl, hf9⟩
  have gch9 := Blk.fr0 gch8 hf9
  have gah9 := Blk.fr0 gah8 hf9
  have gbh9 := Blk.fr0 gbh8 hf9
  have F9 := F8.trans hf9
  clear gch8 gah8 gbh8 F8 hf9
  go_wp2_with (refine wpList_load_blk rfl 26 (.tmp 4) rfl gc rfl _ gch9 Try.underlying26 rfl info26 ?_)
  refine (setsp_1 c v _ HL.out).mono ?_
  rintro e w10 ⟨rfl, hf10⟩
  have gch10 := Blk.fr0 gch9 hf10
  have gah10 := Blk.fr0 gah9 hf10
  have gbh10 := Blk.fr0 gbh9 hf10
  have F10 := F9.trans hf10
  clear gch9 gah9 gbh9 F9 hf10
  have gcl11 := gch10.lt
  have gal11 := gah10.lt
  have gbl11 := gbh10.lt
  go_upto_region 10 with (refine wpList_store_blk0 rfl 26 (.tmp 20) (.tmp 62) rfl w10.heap.size rfl (cv { c with S1 := v }) rfl (Blk.new _ _ _) info26 rfl (one_cv _) ?_; intro w11 hf11 gth11)
  have gch11 := Blk.fr1 (Blk.alloc gch10 (.cells (cv zeroC) 26)) hf11 (by omega)
  have gah11 := Blk.fr1 (Blk.alloc gah10 (.cells (cv zeroC) 26)) hf11 (by omega)
  have gbh11 := Blk.fr1 (Blk.alloc gbh10 (.cells (cv zeroC) 26)) hf11 (by omega)
  have F11 := (F10.alloc (.cells (cv zeroC) 26)).own1 hf11 F10.size
  clear gch10 gah10 gbh10 F10 hf11
  generalize w10.heap.size = gt at *
  go_wp2_with (refine wpList_load_blk rfl 26 (.tmp 4) rfl gc rfl _ gch11 Try.underlying26 rfl info26 ?_)
  refine (rright_ok c _).mono ?_
  rintro e w12 ⟨rfl, hf12⟩
  have gch12 := Blk.fr0 gch11 hf12
  have gah12 := Blk.fr0 gah11 hf12
  have gbh12 := Blk.fr0 gbh11 hf12
  have gth12 := Blk.fr0 gth11 hf12
  have F12 := F11.trans hf12
  clear gch11 gah11 gbh11 gth11 F11 hf12
  generalize hrr : rightF c = rr at *
  have Hrr := Lib.hid hrr
  clear hrr
  go_wp2_with (first | (refine wpList_load_blkg rfl 26 (.tmp 14) rfl ga rfl _ gah12 Try.underlying26 rfl info26 ?_) | (refine wpList_load_blkg rfl 26 (.tmp 16) rfl gb rfl _ gbh12 Try.underlying26 rfl info26 ?_) | (refine wpList_load_blkg rfl 26 (.tmp 4) rfl gc rfl _ gch12 Try.underlying26 rfl info26 ?_))
  refine (right_ok c _).mono ?_
  rintro e w13 ⟨rfl, hf13⟩
  have gch13 := Blk.fr0 gch12 hf13
  have gah13 := Blk.fr0 gah12 hf13
  have gbh13 := Blk.fr0 gbh12 hf13
  have gth13 := Blk.fr0 gth12 hf13
  have F13 := F12.trans hf13
  clear gch12 gah12 gbh12 gth12 F12 hf13
  rw [Hrr.out]
  go_wp2_with fail
  refine (new_ok id v _).mono ?_
  rintro e w14 ⟨rfl, hf14⟩
  have gch14 := Blk.fr0 gch13 hf14
  have gah14 := Blk.fr0 gah13 hf14
  have gbh14 := Blk.fr0 gbh13 hf14
  have gth14 := Blk.fr0 gth13 hf14
  have F14 := F13.trans hf14
  clear gch13 gah13 gbh13 gth13 F13 hf14
  have d38 : w14.cell? ⟨gc, 38, none⟩ = some (.int .i64 1) := by rw [← HL.out]; exact gch14.cellv (cv_38 c)
  have gcl15 := gch14.lt
  have gal15 := gah14.lt
  have gbl15 := gbh14.lt
  have gtl15 := gth14.lt
  go_upto_region 16 with (first | (refine wpList_load_blk rfl 26 (.tmp 4) rfl gc rfl _ gch14 Try.underlying26 rfl info26 ?_) | (refine wpList_store_blk0 rfl 26 (.tmp 23) (.tmp 143) rfl w14.heap.size rfl (cv c) rfl (Blk.new _ _ _) info26 rfl (one_cv _) ?_; intro w15 hf15 gyh15))
  have gch15 := Blk.fr1 (Blk.alloc gch14 (.cells (cv zeroC) 26)) hf15 (by omega)
  have gah15 := Blk.fr1 (Blk.alloc gah14 (.cells (cv zeroC) 26)) hf15 (by omega)
  have gbh15 := Blk.fr1 (Blk.alloc gbh14 (.cells (cv zeroC) 26)) hf15 (by omega)
  have gth15 := Blk.fr1 (Blk.alloc gth14 (.cells (cv zeroC) 26)) hf15 (by omega)
  have F15 := (F14.alloc (.cells (cv zeroC) 26)).own1 hf15 F14.size
  clear gch14 gah14 gbh14 gth14 F14 hf15
  generalize w14.heap.size = gy at *
  clear d38
  have hgy : w.heap.size ≤ gy := by have := Hgc.out; omega
  have d38 : w15.cell? ⟨gc, 38, none⟩ = some (.int .i64 1) := by rw [← HL.out]; exact gch15.cellv (cv_38 c)
  have dgy32 : w15.cell? ⟨gy, 32, none⟩ = some (.int .u64 c.S1) := gyh15.cellv (cv_32 _)
  have fgy32 : w15.frozen? ⟨gy, 32, none⟩ = false := gyh15.frozen _
  have negc16 : gc ≠ gy := by omega
  have nega16 : ga ≠ gy := by omega
  have negb16 : gb ≠ gy := by omega
  have negt16 : gt ≠ gy := by omega
  have gyh16 := (blk_setS1 gyh15 (v))
  have gch16 := (Blk.farc (b := gy) (i := 32) gch15 negc16 (.int .u64 (v)))
  have gah16 := (Blk.farc (b := gy) (i := 32) gah15 nega16 (.int .u64 (v)))
  have gbh16 := (Blk.farc (b := gy) (i := 32) gbh15 negb16 (.int .u64 (v)))
  have gth16 := (Blk.farc (b := gy) (i := 32) gth15 negt16 (.int .u64 (v)))
  have F16 := (Fr.setNew (g := gy) (i := 32) F15 hgy (.int .u64 (v)))
  go_upto_region 17 with fail
  generalize (w15.setCell ⟨gy, 32, none⟩ (.int .u64 (v))) = w16 at *
  clear dgy32 fgy32 gch15 gah15 gbh15 gth15 gyh15 F15
  clear d38
  have d38 : w16.cell? ⟨gc, 38, none⟩ = some (.int .i64 1) := by rw [← HL.out]; exact gch16.cellv (cv_38 c)
  have dS : w16.cell? ⟨gc, 32, none⟩ = some (.int .u64 c.S1) := gch16.cellv (cv_32 c)
  go_wp2_with (first | (refine wpList_load_blkg rfl 26 (.tmp 20) rfl gt rfl _ gth16 Try.underlying26 rfl info26 ?_) | (refine wpList_load_blkg rfl 26 (.tmp 23) rfl gy rfl _ gyh16 Try.underlying26 rfl info26 ?_))
  all_goals go_ret
  all_goals exact ⟨by first | rfl | simp [*], F16.below (by rw [Hgc.out]; exact Nat.le_refl _) (fun _ _ h => h)⟩
set_option maxRecDepth 100000 in
set_option maxHeartbeats 4000000 in
theorem x_walk_bad_bad (c D : Cr) (id r v xv : Int) (w : World)
    (hx : ∀ w, Calls Try.prog 16 #[.agg (cv c), .int .i64 r] w fun e w' => e = .returned (.tuple #[.int .u64 xv, .int .i64 1]) ∧ Fr Nil w w')
    (hrx : ∀ w, Calls Try.prog 18 #[.agg (cv c), .int .i64 r] w fun e w' => e = .returned (.tuple #[.int .u64 xv, .bool false]) ∧ Fr Nil w w')
    (hs : ∀ w, Calls Try.prog 17 #[.agg (cv c), .int .i64 r, .int .u64 v] w fun e w' => e = .returned (.tuple #[.agg (cv D), .int .i64 1]) ∧ Fr Nil w w')
    (hrs : ∀ w, Calls Try.prog 19 #[.agg (cv c), .int .i64 r, .int .u64 v] w fun e w' => e = .returned (.tuple #[.agg (cv D), .bool false]) ∧ Fr Nil w w') (hl : levelF c = false) (n0 : ¬ c.EL = 0) (n1 : ¬ c.EL = 1) :
    Calls Try.prog 6 #[.agg (cv c), .int .i64 id, .int .i64 r, .int .u64 v] w fun e w' => e = .returned (.bool true) ∧ Below w.heap.size w w' := by
  have HX := Lib.hid hx
  have HRX := Lib.hid hrx
  have HS := Lib.hid hs
  have HRS := Lib.hid hrs
  have HL := Lib.hid hl
  have N0 := Lib.hid n0
  have N1 := Lib.hid n1
  clear hx hrx hs hrs hl n0 n1
  have qD : ∀ W : World, (binOp .neq 26 (.agg (cv D)) (.agg (cv D))).run Try.prog W = .ok (.bool false) W := fun W => by rw [run_neq_core, crEq_rfl]; rfl
  have qN : ∀ W : World, (binOp .neq 26 (.agg (cv (newC id v))) (.agg (cv (newC id v)))).run Try.prog W = .ok (.bool false) W := fun W => by rw [run_neq_core, crEq_rfl]; rfl
  have hfold : ((((cv zeroC).setIfInBounds 46 (.int .i64 id)).setIfInBounds 33 (.int .u64 v)).setIfInBounds 38 (.int .i64 1)).setIfInBounds 39 (.bool true) = cv (newC id v) := rfl
  have qT : ∀ W : World, (binOp .eql 26 (.agg (cv zeroC)) (.agg (cv zeroC))).run Try.prog W = .ok (.bool true) W := fun W => by rw [run_eq_core, crEq_rfl]
  go_enter Try.func6, Try.ntmps6
  go_wp2_with fail
  refine (examples_ok _).mono ?_
  rintro e w2 ⟨rfl, hf2⟩
  have gch2 : Blk w2 w.heap.size 26 (cv c) := Blk.fr0 (Blk.new _ _ _) hf2
  have F2 := ((Fr.refl Nil w).alloc (.cells (cv c) 26)).trans hf2
  clear hf2
  generalize hgc : w.heap.size = gc at *
  have Hgc := Lib.hid hgc
  clear hgc
  go_wp2_with (refine wpList_load_blk rfl 26 (.tmp 4) rfl gc rfl _ gch2 Try.underlying26 rfl info26 ?_)
  refine (HX.out _).mono ?_
  rintro e w3 ⟨rfl, hf3⟩
  have gch3 := Blk.fr0 gch2 hf3
  have F3 := F2.trans hf3
  clear gch2 F2 hf3
  go_wp2_with (refine wpList_load_blk rfl 26 (.tmp 4) rfl gc rfl _ gch3 Try.underlying26 rfl info26 ?_)
  refine (HRX.out _).mono ?_
  rintro e w4 ⟨rfl, hf4⟩
  have gch4 := Blk.fr0 gch3 hf4
  have F4 := F3.trans hf4
  clear gch3 F3 hf4
  go_wp2_with (refine wpList_load_blk rfl 26 (.tmp 4) rfl gc rfl _ gch4 Try.underlying26 rfl info26 ?_)
  refine (HS.out _).mono ?_
  rintro e w5 ⟨rfl, hf5⟩
  have gch5 := Blk.fr0 gch4 hf5
  have F5 := F4.trans hf5
  clear gch4 F4 hf5
  have gcl6 := gch5.lt
  go_upto_region 7 with (refine wpList_store_blk0 rfl 26 (.tmp 14) (.tmp 44) rfl w5.heap.size rfl (cv D) rfl (Blk.new _ _ _) info26 rfl (one_cv _) ?_; intro w6 hf6 gah6)
  have gch6 := Blk.fr1 (Blk.alloc gch5 (.cells (cv zeroC) 26)) hf6 (by omega)
  have F6 := (F5.alloc (.cells (cv zeroC) 26)).own1 hf6 F5.size
  clear gch5 F5 hf6
  generalize w5.heap.size = ga at *
  go_wp2_with (refine wpList_load_blk rfl 26 (.tmp 4) rfl gc rfl _ gch6 Try.underlying26 rfl info26 ?_)
  refine (HRS.out _).mono ?_
  rintro e w7 ⟨rfl, hf7⟩
  have gch7 := Blk.fr0 gch6 hf7
  have gah7 := Blk.fr0 gah6 hf7
  have F7 := F6.trans hf7
  clear gch6 gah6 F6 hf7
  have gcl8 := gch7.lt
  have gal8 := gah7.lt
  go_upto_region 8 with (refine wpList_store_blk0 rfl 26 (.tmp 16) (.tmp 51) rfl w7.heap.size rfl (cv D) rfl (Blk.new _ _ _) info26 rfl (one_cv _) ?_; intro w8 hf8 gbh8)
  have gch8 := Blk.fr1 (Blk.alloc gch7 (.cells (cv zeroC) 26)) hf8 (by omega)
  have gah8 := Blk.fr1 (Blk.alloc gah7 (.cells (cv zeroC) 26)) hf8 (by omega)
  have F8 := (F7.alloc (.cells (cv zeroC) 26)).own1 hf8 F7.size
  clear gch7 gah7 F7 hf8
  generalize w7.heap.size = gb at *
  go_wp2_with (refine wpList_load_blk rfl 26 (.tmp 4) rfl gc rfl _ gch8 Try.underlying26 rfl info26 ?_)
  refine (sp_bad c _ HL.out).mono ?_
  rintro e w9 ⟨rfl, hf9⟩
  have gch9 := Blk.fr0 gch8 hf9
  have gah9 := Blk.fr0 gah8 hf9
  have gbh9 := Blk.fr0 gbh8 hf9
  have F9 := F8.trans hf9
  clear gch8 gah8 gbh8 F8 hf9
  go_wp2_with (refine wpList_load_blk rfl 26 (.tmp 4) rfl gc rfl _ gch9 Try.underlying26 rfl info26 ?_)
  refine (setsp_bad c v _ HL.out).mono ?_
  rintro e w10 ⟨rfl, hf10⟩
  have gch10 := Blk.fr0 gch9 hf10
  have gah10 := Blk.fr0 gah9 hf10
  have gbh10 := Blk.fr0 gbh9 hf10
  have F10 := F9.trans hf10
  clear gch9 gah9 gbh9 F9 hf10
  have gcl11 := gch10.lt
  have gal11 := gah10.lt
  have gbl11 := gbh10.lt
  go_upto_region 10 with (refine wpList_store_blk0 rfl 26 (.tmp 20) (.tmp 62) rfl w10.heap.size rfl (cv zeroC) rfl (Blk.new _ _ _) info26 rfl (one_cv _) ?_; intro w11 hf11 gth11)
  have gch11 := Blk.fr1 (Blk.alloc gch10 (.cells (cv zeroC) 26)) hf11 (by omega)
  have gah11 := Blk.fr1 (Blk.alloc gah10 (.cells (cv zeroC) 26)) hf11 (by omega)
  have gbh11 := Blk.fr1 (Blk.alloc gbh10 (.cells (cv zeroC) 26)) hf11 (by omega)
  have F11 := (F10.alloc (.cells (cv zeroC) 26)).own1 hf11 F10.size
  clear gch10 gah10 gbh10 F10 hf11
  generalize w10.heap.size = gt at *
  go_wp2_with (refine wpList_load_blk rfl 26 (.tmp 4) rfl gc rfl _ gch11 Try.underlying26 rfl info26 ?_)
  refine (rright_ok c _).mono ?_
  rintro e w12 ⟨rfl, hf12⟩
  have gch12 := Blk.fr0 gch11 hf12
  have gah12 := Blk.fr0 gah11 hf12
  have gbh12 := Blk.fr0 gbh11 hf12
  have gth12 := Blk.fr0 gth11 hf12
  have F12 := F11.trans hf12
  clear gch11 gah11 gbh11 gth11 F11 hf12
  generalize hrr : rightF c = rr at *
  have Hrr := Lib.hid hrr
  clear hrr
  go_wp2_with (first | (refine wpList_load_blkg rfl 26 (.tmp 14) rfl ga rfl _ gah12 Try.underlying26 rfl info26 ?_) | (refine wpList_load_blkg rfl 26 (.tmp 16) rfl gb rfl _ gbh12 Try.underlying26 rfl info26 ?_) | (refine wpList_load_blkg rfl 26 (.tmp 4) rfl gc rfl _ gch12 Try.underlying26 rfl info26 ?_))
  refine (right_ok c _).mono ?_
  rintro e w13 ⟨rfl, hf13⟩
  have gch13 := Blk.fr0 gch12 hf13
  have gah13 := Blk.fr0 gah12 hf13
  have gbh13 := Blk.fr0 gbh12 hf13
  have gth13 := Blk.fr0 gth12 hf13
  have F13 := F12.trans hf13
  clear gch12 gah12 gbh12 gth12 F12 hf13
  rw [Hrr.out]
  go_wp2_with fail
  refine (new_ok id v _).mono ?_
  rintro e w14 ⟨rfl, hf14⟩
  have gch14 := Blk.fr0 gch13 hf14
  have gah14 := Blk.fr0 gah13 hf14
  have gbh14 := Blk.fr0 gbh13 hf14
  have gth14 := Blk.fr0 gth13 hf14
  have F14 := F13.trans hf14
  clear gch13 gah13 gbh13 gth13 F13 hf14
  have d38 : w14.cell? ⟨gc, 38, none⟩ = some (.int .i64 c.EL) := gch14.cellv (cv_38 c)
  have m0 : (c.EL != 0) = true := by simpa using N0.out
  have m1 : (c.EL != 1) = true := by simpa using N1.out
  have m2 := N0.out
  have m3 := N1.out
  go_wp2_with (refine wpList_load_blkg rfl 26 (.tmp 20) rfl gt rfl _ gth14 Try.underlying26 rfl info26 ?_)
  all_goals go_ret
  all_goals exact ⟨by first | rfl | simp [*], F14.below (by rw [Hgc.out]; exact Nat.le_refl _) (fun _ _ h => h)⟩
set_option maxRecDepth 100000 in
set_option maxHeartbeats 4000000 in
theorem x_walk_bad_0 (c D : Cr) (id r v xv : Int) (w : World)
    (hx : ∀ w, Calls Try.prog 16 #[.agg (cv c), .int .i64 r] w fun e w' => e = .returned (.tuple #[.int .u64 xv, .int .i64 1]) ∧ Fr Nil w w')
    (hrx : ∀ w, Calls Try.prog 18 #[.agg (cv c), .int .i64 r] w fun e w' => e = .returned (.tuple #[.int .u64 xv, .bool false]) ∧ Fr Nil w w')
    (hs : ∀ w, Calls Try.prog 17 #[.agg (cv c), .int .i64 r, .int .u64 v] w fun e w' => e = .returned (.tuple #[.agg (cv D), .int .i64 1]) ∧ Fr Nil w w')
    (hrs : ∀ w, Calls Try.prog 19 #[.agg (cv c), .int .i64 r, .int .u64 v] w fun e w' => e = .returned (.tuple #[.agg (cv D), .bool false]) ∧ Fr Nil w w') (hl : c.EL = 0) :
    Calls Try.prog 6 #[.agg (cv c), .int .i64 id, .int .i64 r, .int .u64 v] w fun e w' => e = .returned (.bool true) ∧ Below w.heap.size w w' := by
  have HX := Lib.hid hx
  have HRX := Lib.hid hrx
  have HS := Lib.hid hs
  have HRS := Lib.hid hrs
  have HL := Lib.hid hl
  clear hx hrx hs hrs hl
  have qD : ∀ W : World, (binOp .neq 26 (.agg (cv D)) (.agg (cv D))).run Try.prog W = .ok (.bool false) W := fun W => by rw [run_neq_core, crEq_rfl]; rfl
  have qN : ∀ W : World, (binOp .neq 26 (.agg (cv (newC id v))) (.agg (cv (newC id v)))).run Try.prog W = .ok (.bool false) W := fun W => by rw [run_neq_core, crEq_rfl]; rfl
  have hfold : ((((cv zeroC).setIfInBounds 46 (.int .i64 id)).setIfInBounds 33 (.int .u64 v)).setIfInBounds 38 (.int .i64 1)).setIfInBounds 39 (.bool true) = cv (newC id v) := rfl
  have qT : ∀ W : World, (binOp .eql 26 (.agg (cv { c with S0 := v })) (.agg (cv { c with S0 := v }))).run Try.prog W = .ok (.bool true) W := fun W => by rw [run_eq_core, crEq_rfl]
  go_enter Try.func6, Try.ntmps6
  go_wp2_with fail
  refine (examples_ok _).mono ?_
  rintro e w2 ⟨rfl, hf2⟩
  have gch2 : Blk w2 w.heap.size 26 (cv c) := Blk.fr0 (Blk.new _ _ _) hf2
  have F2 := ((Fr.refl Nil w).alloc (.cells (cv c) 26)).trans hf2
  clear hf2
  generalize hgc : w.heap.size = gc at *
  have Hgc := Lib.hid hgc
  clear hgc
  go_wp2_with (refine wpList_load_blk rfl 26 (.tmp 4) rfl gc rfl _ gch2 Try.underlying26 rfl info26 ?_)
  refine (HX.out _).mono ?_
  rintro e w3 ⟨rfl, hf3⟩
  have gch3 := Blk.fr0 gch2 hf3
  have F3 := F2.trans hf3
  clear gch2 F2 hf3
  go_wp2_with (refine wpList_load_blk rfl 26 (.tmp 4) rfl gc rfl _ gch3 Try.underlying26 rfl info26 ?_)
  refine (HRX.out _).mono ?_
  rintro e w4 ⟨rfl, hf4⟩
  have gch4 := Blk.fr0 gch3 hf4
  have F4 := F3.trans hf4
  clear gch3 F3 hf4
  go_wp2_with (refine wpList_load_blk rfl 26 (.tmp 4) rfl gc rfl _ gch4 Try.underlying26 rfl info26 ?_)
  refine (HS.out _).mono ?_
  rintro e w5 ⟨rfl, hf5⟩
  have gch5 := Blk.fr0 gch4 hf5
  have F5 := F4.trans hf5
  clear gch4 F4 hf5
  have gcl6 := gch5.lt
  go_upto_region 7 with (refine wpList_store_blk0 rfl 26 (.tmp 14) (.tmp 44) rfl w5.heap.size rfl (cv D) rfl (Blk.new _ _ _) info26 rfl (one_cv _) ?_; intro w6 hf6 gah6)
  have gch6 := Blk.fr1 (Blk.alloc gch5 (.cells (cv zeroC) 26)) hf6 (by omega)
  have F6 := (F5.alloc (.cells (cv zeroC) 26)).own1 hf6 F5.size
  clear gch5 F5 hf6
  generalize w5.heap.size = ga at *
  go_wp2_with (refine wpList_load_blk rfl 26 (.tmp 4) rfl gc rfl _ gch6 Try.underlying26 rfl info26 ?_)
  refine (HRS.out _).mono ?_
  rintro e w7 ⟨rfl, hf7⟩
  have gch7 := Blk.fr0 gch6 hf7
  have gah7 := Blk.fr0 gah6 hf7
  have F7 := F6.trans hf7
  clear gch6 gah6 F6 hf7
  have gcl8 := gch7.lt
  have gal8 := gah7.lt
  go_upto_region 8 with (refine wpList_store_blk0 rfl 26 (.tmp 16) (.tmp 51) rfl w7.heap.size rfl (cv D) rfl (Blk.new _ _ _) info26 rfl (one_cv _) ?_; intro w8 hf8 gbh8)
  have gch8 := Blk.fr1 (Blk.alloc gch7 (.cells (cv zeroC) 26)) hf8 (by omega)
  have gah8 := Blk.fr1 (Blk.alloc gah7 (.cells (cv zeroC) 26)) hf8 (by omega)
  have F8 := (F7.alloc (.cells (cv zeroC) 26)).own1 hf8 F7.size
  clear gch7 gah7 F7 hf8
  generalize w7.heap.size = gb at *
  go_wp2_with (refine wpList_load_blk rfl 26 (.tmp 4) rfl gc rfl _ gch8 Try.underlying26 rfl info26 ?_)
  refine (sp_0 c _ HL.out).mono ?_
  rintro e w9 ⟨rfl, hf9⟩
  have gch9 := Blk.fr0 gch8 hf9
  have gah9 := Blk.fr0 gah8 hf9
  have gbh9 := Blk.fr0 gbh8 hf9
  have F9 := F8.trans hf9
  clear gch8 gah8 gbh8 F8 hf9
  go_wp2_with (refine wpList_load_blk rfl 26 (.tmp 4) rfl gc rfl _ gch9 Try.underlying26 rfl info26 ?_)
  refine (setsp_0 c v _ HL.out).mono ?_
  rintro e w10 ⟨rfl, hf10⟩
  have gch10 := Blk.fr0 gch9 hf10
  have gah10 := Blk.fr0 gah9 hf10
  have gbh10 := Blk.fr0 gbh9 hf10
  have F10 := F9.trans hf10
  clear gch9 gah9 gbh9 F9 hf10
  have gcl11 := gch10.lt
  have gal11 := gah10.lt
  have gbl11 := gbh10.lt
  go_upto_region 10 with (refine wpList_store_blk0 rfl 26 (.tmp 20) (.tmp 62) rfl w10.heap.size rfl (cv { c with S0 := v }) rfl (Blk.new _ _ _) info26 rfl (one_cv _) ?_; intro w11 hf11 gth11)
  have gch11 := Blk.fr1 (Blk.alloc gch10 (.cells (cv zeroC) 26)) hf11 (by omega)
  have gah11 := Blk.fr1 (Blk.alloc gah10 (.cells (cv zeroC) 26)) hf11 (by omega)
  have gbh11 := Blk.fr1 (Blk.alloc gbh10 (.cells (cv zeroC) 26)) hf11 (by omega)
  have F11 := (F10.alloc (.cells (cv zeroC) 26)).own1 hf11 F10.size
  clear gch10 gah10 gbh10 F10 hf11
  generalize w10.heap.size = gt at *
  go_wp2_with (refine wpList_load_blk rfl 26 (.tmp 4) rfl gc rfl _ gch11 Try.underlying26 rfl info26 ?_)
  refine (rright_ok c _).mono ?_
  rintro e w12 ⟨rfl, hf12⟩
  have gch12 := Blk.fr0 gch11 hf12
  have gah12 := Blk.fr0 gah11 hf12
  have gbh12 := Blk.fr0 gbh11 hf12
  have gth12 := Blk.fr0 gth11 hf12
  have F12 := F11.trans hf12
  clear gch11 gah11 gbh11 gth11 F11 hf12
  generalize hrr : rightF c = rr at *
  have Hrr := Lib.hid hrr
  clear hrr
  go_wp2_with (first | (refine wpList_load_blkg rfl 26 (.tmp 14) rfl ga rfl _ gah12 Try.underlying26 rfl info26 ?_) | (refine wpList_load_blkg rfl 26 (.tmp 16) rfl gb rfl _ gbh12 Try.underlying26 rfl info26 ?_) | (refine wpList_load_blkg rfl 26 (.tmp 4) rfl gc rfl _ gch12 Try.underlying26 rfl info26 ?_))
  refine (right_ok c _).mono ?_
  rintro e w13 ⟨rfl, hf13⟩
  have gch13 := Blk.fr0 gch12 hf13
  have gah13 := Blk.fr0 gah12 hf13
  have gbh13 := Blk.fr0 gbh12 hf13
  have gth13 := Blk.fr0 gth12 hf13
  have F13 := F12.trans hf13
  clear gch12 gah12 gbh12 gth12 F12 hf13
  rw [Hrr.out]
  go_wp2_with fail
  refine (new_ok id v _).mono ?_
  rintro e w14 ⟨rfl, hf14⟩
  have gch14 := Blk.fr0 gch13 hf14
  have gah14 := Blk.fr0 gah13 hf14
  have gbh14 := Blk.fr0 gbh13 hf14
  have gth14 := Blk.fr0 gth13 hf14
  have F14 := F13.trans hf14
  clear gch13 gah13 gbh13 gth13 F13 hf14
  have d38 : w14.cell? ⟨gc, 38, none⟩ = some (.int .i64 0) := by rw [← HL.out]; exact gch14.cellv (cv_38 c)
  have gcl15 := gch14.lt
  have gal15 := gah14.lt
  have gbl15 := gbh14.lt
  have gtl15 := gth14.lt
  go_upto_region 16 with (first | (refine wpList_load_blk rfl 26 (.tmp 4) rfl gc rfl _ gch14 Try.underlying26 rfl info26 ?_) | (refine wpList_store_blk0 rfl 26 (.tmp 23) (.tmp 143) rfl w14.heap.size rfl (cv c) rfl (Blk.new _ _ _) info26 rfl (one_cv _) ?_; intro w15 hf15 gyh15))
  have gch15 := Blk.fr1 (Blk.alloc gch14 (.cells (cv zeroC) 26)) hf15 (by omega)
  have gah15 := Blk.fr1 (Blk.alloc gah14 (.cells (cv zeroC) 26)) hf15 (by omega)
  have gbh15 := Blk.fr1 (Blk.alloc gbh14 (.cells (cv zeroC) 26)) hf15 (by omega)
  have gth15 := Blk.fr1 (Blk.alloc gth14 (.cells (cv zeroC) 26)) hf15 (by omega)
  have F15 := (F14.alloc (.cells (cv zeroC) 26)).own1 hf15 F14.size
  clear gch14 gah14 gbh14 gth14 F14 hf15
  generalize w14.heap.size = gy at *
  clear d38
  have hgy : w.heap.size ≤ gy := by have := Hgc.out; omega
  have d38 : w15.cell? ⟨gc, 38, none⟩ = some (.int .i64 0) := by rw [← HL.out]; exact gch15.cellv (cv_38 c)
  have dgy31 : w15.cell? ⟨gy, 31, none⟩ = some (.int .u64 c.S0) := gyh15.cellv (cv_31 _)
  have fgy31 : w15.frozen? ⟨gy, 31, none⟩ = false := gyh15.frozen _
  have negc16 : gc ≠ gy := by omega
  have nega16 : ga ≠ gy := by omega
  have negb16 : gb ≠ gy := by omega
  have negt16 : gt ≠ gy := by omega
  have gyh16 := (blk_setS0 gyh15 (v))
  have gch16 := (Blk.farc (b := gy) (i := 31) gch15 negc16 (.int .u64 (v)))
  have gah16 := (Blk.farc (b := gy) (i := 31) gah15 nega16 (.int .u64 (v)))
  have gbh16 := (Blk.farc (b := gy) (i := 31) gbh15 negb16 (.int .u64 (v)))
  have gth16 := (Blk.farc (b := gy) (i := 31) gth15 negt16 (.int .u64 (v)))
  have F16 := (Fr.setNew (g := gy) (i := 31) F15 hgy (.int .u64 (v)))
  go_upto_region 17 with fail
  generalize (w15.setCell ⟨gy, 31, none⟩ (.int .u64 (v))) = w16 at *
  clear dgy31 fgy31 gch15 gah15 gbh15 gth15 gyh15 F15
  clear d38
  have d38 : w16.cell? ⟨gc, 38, none⟩ = some (.int .i64 0) := by rw [← HL.out]; exact gch16.cellv (cv_38 c)
  have dS : w16.cell? ⟨gc, 31, none⟩ = some (.int .u64 c.S0) := gch16.cellv (cv_31 c)
  go_wp2_with (first | (refine wpList_load_blkg rfl 26 (.tmp 20) rfl gt rfl _ gth16 Try.underlying26 rfl info26 ?_) | (refine wpList_load_blkg rfl 26 (.tmp 23) rfl gy rfl _ gyh16 Try.underlying26 rfl info26 ?_))
  all_goals go_ret
  all_goals exact ⟨by first | rfl | simp [*], F16.below (by rw [Hgc.out]; exact Nat.le_refl _) (fun _ _ h => h)⟩
set_option maxRecDepth 100000 in
set_option maxHeartbeats 4000000 in
theorem x_walk_bad_1 (c D : Cr) (id r v xv : Int) (w : World)
    (hx : ∀ w, Calls Try.prog 16 #[.agg (cv c), .int .i64 r] w fun e w' => e = .returned (.tuple #[.int .u64 xv, .int .i64 1]) ∧ Fr Nil w w')
    (hrx : ∀ w, Calls Try.prog 18 #[.agg (cv c), .int .i64 r] w fun e w' => e = .returned (.tuple #[.int .u64 xv, .bool false]) ∧ Fr Nil w w')
    (hs : ∀ w, Calls Try.prog 17 #[.agg (cv c), .int .i64 r, .int .u64 v] w fun e w' => e = .returned (.tuple #[.agg (cv D), .int .i64 1]) ∧ Fr Nil w w')
    (hrs : ∀ w, Calls Try.prog 19 #[.agg (cv c), .int .i64 r, .int .u64 v] w fun e w' => e = .returned (.tuple #[.agg (cv D), .bool false]) ∧ Fr Nil w w') (hl : c.EL = 1) :
    Calls Try.prog 6 #[.agg (cv c), .int .i64 id, .int .i64 r, .int .u64 v] w fun e w' => e = .returned (.bool true) ∧ Below w.heap.size w w' := by
  have HX := Lib.hid hx
  have HRX := Lib.hid hrx
  have HS := Lib.hid hs
  have HRS := Lib.hid hrs
  have HL := Lib.hid hl
  clear hx hrx hs hrs hl
  have qD : ∀ W : World, (binOp .neq 26 (.agg (cv D)) (.agg (cv D))).run Try.prog W = .ok (.bool false) W := fun W => by rw [run_neq_core, crEq_rfl]; rfl
  have qN : ∀ W : World, (binOp .neq 26 (.agg (cv (newC id v))) (.agg (cv (newC id v)))).run Try.prog W = .ok (.bool false) W := fun W => by rw [run_neq_core, crEq_rfl]; rfl
  have hfold : ((((cv zeroC).setIfInBounds 46 (.int .i64 id)).setIfInBounds 33 (.int .u64 v)).setIfInBounds 38 (.int .i64 1)).setIfInBounds 39 (.bool true) = cv (newC id v) := rfl
  have qT : ∀ W : World, (binOp .eql 26 (.agg (cv { c with S1 := v })) (.agg (cv { c with S1 := v }))).run Try.prog W = .ok (.bool true) W := fun W => by rw [run_eq_core, crEq_rfl]
  go_enter Try.func6, Try.ntmps6
  go_wp2_with fail
  refine (examples_ok _).mono ?_
  rintro e w2 ⟨rfl, hf2⟩
  have gch2 : Blk w2 w.heap.size 26 (cv c) := Blk.fr0 (Blk.new _ _ _) hf2
  have F2 := ((Fr.refl Nil w).alloc (.cells (cv c) 26)).trans hf2
  clear hf2
  generalize hgc : w.heap.size = gc at *
  have Hgc := Lib.hid hgc
  clear hgc
  go_wp2_with (refine wpList_load_blk rfl 26 (.tmp 4) rfl gc rfl _ gch2 Try.underlying26 rfl info26 ?_)
  refine (HX.out _).mono ?_
  rintro e w3 ⟨rfl, hf3⟩
  have gch3 := Blk.fr0 gch2 hf3
  have F3 := F2.trans hf3
  clear gch2 F2 hf3
  go_wp2_with (refine wpList_load_blk rfl 26 (.tmp 4) rfl gc rfl _ gch3 Try.underlying26 rfl info26 ?_)
  refine (HRX.out _).mono ?_
  rintro e w4 ⟨rfl, hf4⟩
  have gch4 := Blk.fr0 gch3 hf4
  have F4 := F3.trans hf4
  clear gch3 F3 hf4
  go_wp2_with (refine wpList_load_blk rfl 26 (.tmp 4) rfl gc rfl _ gch4 Try.underlying26 rfl info26 ?_)
  refine (HS.out _).mono ?_
  rintro e w5 ⟨rfl, hf5⟩
  have gch5 := Blk.fr0 gch4 hf5
  have F5 := F4.trans hf5
  clear gch4 F4 hf5
  have gcl6 := gch5.lt
  go_upto_region 7 with (refine wpList_store_blk0 rfl 26 (.tmp 14) (.tmp 44) rfl w5.heap.size rfl (cv D) rfl (Blk.new _ _ _) info26 rfl (one_cv _) ?_; intro w6 hf6 gah6)
  have gch6 := Blk.fr1 (Blk.alloc gch5 (.cells (cv zeroC) 26)) hf6 (by omega)
  have F6 := (F5.alloc (.cells (cv zeroC) 26)).own1 hf6 F5.size
  clear gch5 F5 hf6
  generalize w5.heap.size = ga at *
  go_wp2_with (refine wpList_load_blk rfl 26 (.tmp 4) rfl gc rfl _ gch6 Try.underlying26 rfl info26 ?_)
  refine (HRS.out _).mono ?_
  rintro e w7 ⟨rfl, hf7⟩
  have gch7 := Blk.fr0 gch6 hf7
  have gah7 := Blk.fr0 gah6 hf7
  have F7 := F6.trans hf7
  clear gch6 gah6 F6 hf7
  have gcl8 := gch7.lt
  have gal8 := gah7.lt
  go_upto_region 8 with (refine wpList_store_blk0 rfl 26 (.tmp 16) (.tmp 51) rfl w7.heap.size rfl (cv D) rfl (Blk.new _ _ _) info26 rfl (one_cv _) ?_; intro w8 hf8 gbh8)
  have gch8 := Blk.fr1 (Blk.alloc gch7 (.cells (cv zeroC) 26)) hf8 (by omega)
  have gah8 := Blk.fr1 (Blk.alloc gah7 (.cells (cv zeroC) 26)) hf8 (by omega)
  have F8 := (F7.alloc (.cells (cv zeroC) 26)).own1 hf8 F7.size
  clear gch7 gah7 F7 hf8
  generalize w7.heap.size = gb at *
  go_wp2_with (refine wpList_load_blk rfl 26 (.tmp 4) rfl gc rfl _ gch8 Try.underlying26 rfl info26 ?_)
  refine (sp_1 c _ HL.out).mono ?_
  rintro e w9 ⟨rfl, hf9⟩
  have gch9 := Blk.fr0 gch8 hf9
  have gah9 := Blk.fr0 gah8 hf9
  have gbh9 := Blk.fr0 gbh8 hf9
  have F9 := F8.trans hf9
  clear gch8 gah8 gbh8 F8 hf9
  go_wp2_with (refine wpList_load_blk rfl 26 (.tmp 4) rfl gc rfl _ gch9 Try.underlying26 rfl info26 ?_)
  refine (setsp_1 c v _ HL.out).mono ?_
  rintro e w10 ⟨rfl, hf10⟩
  have gch10 := Blk.fr0 gch9 hf10
  have gah10 := Blk.fr0 gah9 hf10
  have gbh10 := Blk.fr0 gbh9 hf10
  have F10 := F9.trans hf10
  clear gch9 gah9 gbh9 F9 hf10
  have gcl11 := gch10.lt
  have gal11 := gah10.lt
  have gbl11 := gbh10.lt
  go_upto_region 10 with (refine wpList_store_blk0 rfl 26 (.tmp 20) (.tmp 62) rfl w10.heap.size rfl (cv { c with S1 := v }) rfl (Blk.new _ _ _) info26 rfl (one_cv _) ?_; intro w11 hf11 gth11)
  have gch11 := Blk.fr1 (Blk.alloc gch10 (.cells (cv zeroC) 26)) hf11 (by omega)
  have gah11 := Blk.fr1 (Blk.alloc gah10 (.cells (cv zeroC) 26)) hf11 (by omega)
  have gbh11 := Blk.fr1 (Blk.alloc gbh10 (.cells (cv zeroC) 26)) hf11 (by omega)
  have F11 := (F10.alloc (.cells (cv zeroC) 26)).own1 hf11 F10.size
  clear gch10 gah10 gbh10 F10 hf11
  generalize w10.heap.size = gt at *
  go_wp2_with (refine wpList_load_blk rfl 26 (.tmp 4) rfl gc rfl _ gch11 Try.underlying26 rfl info26 ?_)
  refine (rright_ok c _).mono ?_
  rintro e w12 ⟨rfl, hf12⟩
  have gch12 := Blk.fr0 gch11 hf12
  have gah12 := Blk.fr0 gah11 hf12
  have gbh12 := Blk.fr0 gbh11 hf12
  have gth12 := Blk.fr0 gth11 hf12
  have F12 := F11.trans hf12
  clear gch11 gah11 gbh11 gth11 F11 hf12
  generalize hrr : rightF c = rr at *
  have Hrr := Lib.hid hrr
  clear hrr
  go_wp2_with (first | (refine wpList_load_blkg rfl 26 (.tmp 14) rfl ga rfl _ gah12 Try.underlying26 rfl info26 ?_) | (refine wpList_load_blkg rfl 26 (.tmp 16) rfl gb rfl _ gbh12 Try.underlying26 rfl info26 ?_) | (refine wpList_load_blkg rfl 26 (.tmp 4) rfl gc rfl _ gch12 Try.underlying26 rfl info26 ?_))
  refine (right_ok c _).mono ?_
  rintro e w13 ⟨rfl, hf13⟩
  have gch13 := Blk.fr0 gch12 hf13
  have gah13 := Blk.fr0 gah12 hf13
  have gbh13 := Blk.fr0 gbh12 hf13
  have gth13 := Blk.fr0 gth12 hf13
  have F13 := F12.trans hf13
  clear gch12 gah12 gbh12 gth12 F12 hf13
  rw [Hrr.out]
  go_wp2_with fail
  refine (new_ok id v _).mono ?_
  rintro e w14 ⟨rfl, hf14⟩
  have gch14 := Blk.fr0 gch13 hf14
  have gah14 := Blk.fr0 gah13 hf14
  have gbh14 := Blk.fr0 gbh13 hf14
  have gth14 := Blk.fr0 gth13 hf14
  have F14 := F13.trans hf14
  clear gch13 gah13 gbh13 gth13 F13 hf14
  have d38 : w14.cell? ⟨gc, 38, none⟩ = some (.int .i64 1) := by rw [← HL.out]; exact gch14.cellv (cv_38 c)
  have gcl15 := gch14.lt
  have gal15 := gah14.lt
  have gbl15 := gbh14.lt
  have gtl15 := gth14.lt
  go_upto_region 16 with (first | (refine wpList_load_blk rfl 26 (.tmp 4) rfl gc rfl _ gch14 Try.underlying26 rfl info26 ?_) | (refine wpList_store_blk0 rfl 26 (.tmp 23) (.tmp 143) rfl w14.heap.size rfl (cv c) rfl (Blk.new _ _ _) info26 rfl (one_cv _) ?_; intro w15 hf15 gyh15))
  have gch15 := Blk.fr1 (Blk.alloc gch14 (.cells (cv zeroC) 26)) hf15 (by omega)
  have gah15 := Blk.fr1 (Blk.alloc gah14 (.cells (cv zeroC) 26)) hf15 (by omega)
  have gbh15 := Blk.fr1 (Blk.alloc gbh14 (.cells (cv zeroC) 26)) hf15 (by omega)
  have gth15 := Blk.fr1 (Blk.alloc gth14 (.cells (cv zeroC) 26)) hf15 (by omega)
  have F15 := (F14.alloc (.cells (cv zeroC) 26)).own1 hf15 F14.size
  clear gch14 gah14 gbh14 gth14 F14 hf15
  generalize w14.heap.size = gy at *
  clear d38
  have hgy : w.heap.size ≤ gy := by have := Hgc.out; omega
  have d38 : w15.cell? ⟨gc, 38, none⟩ = some (.int .i64 1) := by rw [← HL.out]; exact gch15.cellv (cv_38 c)
  have dgy32 : w15.cell? ⟨gy, 32, none⟩ = some (.int .u64 c.S1) := gyh15.cellv (cv_32 _)
  have fgy32 : w15.frozen? ⟨gy, 32, none⟩ = false := gyh15.frozen _
  have negc16 : gc ≠ gy := by omega
  have nega16 : ga ≠ gy := by omega
  have negb16 : gb ≠ gy := by omega
  have negt16 : gt ≠ gy := by omega
  have gyh16 := (blk_setS1 gyh15 (v))
  have gch16 := (Blk.farc (b := gy) (i := 32) gch15 negc16 (.int .u64 (v)))
  have gah16 := (Blk.farc (b := gy) (i := 32) gah15 nega16 (.int .u64 (v)))
  have gbh16 := (Blk.farc (b := gy) (i := 32) gbh15 negb16 (.int .u64 (v)))
  have gth16 := (Blk.farc (b := gy) (i := 32) gth15 negt16 (.int .u64 (v)))
  have F16 := (Fr.setNew (g := gy) (i := 32) F15 hgy (.int .u64 (v)))
  go_upto_region 17 with fail
  generalize (w15.setCell ⟨gy, 32, none⟩ (.int .u64 (v))) = w16 at *
  clear dgy32 fgy32 gch15 gah15 gbh15 gth15 gyh15 F15
  clear d38
  have d38 : w16.cell? ⟨gc, 38, none⟩ = some (.int .i64 1) := by rw [← HL.out]; exact gch16.cellv (cv_38 c)
  have dS : w16.cell? ⟨gc, 32, none⟩ = some (.int .u64 c.S1) := gch16.cellv (cv_32 c)
  go_wp2_with (first | (refine wpList_load_blkg rfl 26 (.tmp 20) rfl gt rfl _ gth16 Try.underlying26 rfl info26 ?_) | (refine wpList_load_blkg rfl 26 (.tmp 23) rfl gy rfl _ gyh16 Try.underlying26 rfl info26 ?_))
  all_goals go_ret
  all_goals exact ⟨by first | rfl | simp [*], F16.below (by rw [Hgc.out]; exact Nat.le_refl _) (fun _ _ h => h)⟩
theorem x_any_ok (c D : Cr) (id r v xv : Int) (w : World)
    (hx : ∀ w, Calls Try.prog 16 #[.agg (cv c), .int .i64 r] w fun e w' => e = .returned (.tuple #[.int .u64 xv, .int .i64 0]) ∧ Fr Nil w w')
    (hrx : ∀ w, Calls Try.prog 18 #[.agg (cv c), .int .i64 r] w fun e w' => e = .returned (.tuple #[.int .u64 xv, .bool true]) ∧ Fr Nil w w')
    (hs : ∀ w, Calls Try.prog 17 #[.agg (cv c), .int .i64 r, .int .u64 v] w fun e w' => e = .returned (.tuple #[.agg (cv D), .int .i64 0]) ∧ Fr Nil w w')
    (hrs : ∀ w, Calls Try.prog 19 #[.agg (cv c), .int .i64 r, .int .u64 v] w fun e w' => e = .returned (.tuple #[.agg (cv D), .bool true]) ∧ Fr Nil w w') :
    Calls Try.prog 6 #[.agg (cv c), .int .i64 id, .int .i64 r, .int .u64 v] w fun e w' => e = .returned (.bool true) ∧ Below w.heap.size w w' := by
  by_cases l0 : c.EL = 0
  · exact x_walk_ok_0 c D id r v xv w hx hrx hs hrs l0
  by_cases l1 : c.EL = 1
  · exact x_walk_ok_1 c D id r v xv w hx hrx hs hrs l1
  exact x_walk_ok_bad c D id r v xv w hx hrx hs hrs (by simp [levelF, l0, l1]) l0 l1
theorem x_any_bad (c D : Cr) (id r v xv : Int) (w : World)
    (hx : ∀ w, Calls Try.prog 16 #[.agg (cv c), .int .i64 r] w fun e w' => e = .returned (.tuple #[.int .u64 xv, .int .i64 1]) ∧ Fr Nil w w')
    (hrx : ∀ w, Calls Try.prog 18 #[.agg (cv c), .int .i64 r] w fun e w' => e = .returned (.tuple #[.int .u64 xv, .bool false]) ∧ Fr Nil w w')
    (hs : ∀ w, Calls Try.prog 17 #[.agg (cv c), .int .i64 r, .int .u64 v] w fun e w' => e = .returned (.tuple #[.agg (cv D), .int .i64 1]) ∧ Fr Nil w w')
    (hrs : ∀ w, Calls Try.prog 19 #[.agg (cv c), .int .i64 r, .int .u64 v] w fun e w' => e = .returned (.tuple #[.agg (cv D), .bool false]) ∧ Fr Nil w w') :
    Calls Try.prog 6 #[.agg (cv c), .int .i64 id, .int .i64 r, .int .u64 v] w fun e w' => e = .returned (.bool true) ∧ Below w.heap.size w w' := by
  by_cases l0 : c.EL = 0
  · exact x_walk_bad_0 c D id r v xv w hx hrx hs hrs l0
  by_cases l1 : c.EL = 1
  · exact x_walk_bad_1 c D id r v xv w hx hrx hs hrs l1
  exact x_walk_bad_bad c D id r v xv w hx hrx hs hrs (by simp [levelF, l0, l1]) l0 l1
theorem regsX_walk (c : Cr) (a1 a2 a3 : Int) (w : World) (w0 : WfC c) (w1 : (Lit.int .i64 a1).wf = true) (w2 : (Lit.int .i64 a2).wf = true) (w3 : (Lit.int .u64 a3).wf = true) :
    Calls Try.prog 6 #[.agg (cv c), .int .i64 a1, .int .i64 a2, .int .u64 a3] w fun e w' => e = .returned (.bool true) ∧ Below w.heap.size w w' := by
  by_cases h : a2 < 0 ∨ 31 < a2
  · exact x_any_bad c zeroC a1 a2 a3 0 w (fun w => x_bad c a2 w h) (fun w => rx_bad c a2 w h) (fun w => setx_bad c a2 a3 w h) (fun w => rsetx_bad c a2 a3 w h)
  · by_cases h2 : a2 = 31
    · subst h2
      exact x_any_ok c c a1 31 a3 0 w (fun w => x_zr c w) (fun w => rx_zr c w) (fun w => setx_zr c a3 w) (fun w => rsetx_zr c a3 w)
    · obtain ⟨r, rfl⟩ : ∃ r : Nat, a2 = (r : Int) := ⟨a2.toNat, by omega⟩
      have hr : r < 31 := by omega
      exact x_any_ok c _ a1 r a3 _ w (fun w => x_ok c r w hr) (fun w => rx_ok c r w hr) (fun w => setx_ok c r a3 w hr) (fun w => rsetx_ok c r a3 w hr)
end Go.Proofs.Ytiaflkabnaofpaa
