/- Contracts of package monitor and of its reference. -/
import Derived.Test.YtffjembeimpdmaaRows
import Derived.Test.YtffjembeimpdmaaBase
namespace Go.Proofs.Ytffjembeimpdmaa
open Go.RowKit
set_option linter.unusedVariables false

def cs16 (L : Nat → Int) (I : Nat → Bool) : Array Value :=
  #[.int .u64 (L 0), .bool (I 0), .int .u64 (L 1), .bool (I 1), .int .u64 (L 2), .bool (I 2), .int .u64 (L 3), .bool (I 3),
    .int .u64 (L 4), .bool (I 4), .int .u64 (L 5), .bool (I 5), .int .u64 (L 6), .bool (I 6), .int .u64 (L 7), .bool (I 7)]
def cs17 (n : Int) (L : Nat → Int) (I : Nat → Bool) : Array Value :=
  #[.int .i64 n, .int .u64 (L 0), .bool (I 0), .int .u64 (L 1), .bool (I 1), .int .u64 (L 2), .bool (I 2), .int .u64 (L 3), .bool (I 3),
    .int .u64 (L 4), .bool (I 4), .int .u64 (L 5), .bool (I 5), .int .u64 (L 6), .bool (I 6), .int .u64 (L 7), .bool (I 7)]
def MonAt (w : World) (b : Nat) (n : Int) (L : Nat → Int) (I : Nat → Bool) : Prop := Blk w b 58 (cs17 n L I)

theorem lt8 {k : Nat} (h : k < 8) : k = 0 ∨ k = 1 ∨ k = 2 ∨ k = 3 ∨ k = 4 ∨ k = 5 ∨ k = 6 ∨ k = 7 := by omega
theorem cs17_line {n : Int} {L : Nat → Int} {I : Nat → Bool} {k : Nat} (h : k < 8) : (cs17 n L I)[1 + k * 2]? = some (.int .u64 (L k)) := by
  rcases lt8 h with rfl | rfl | rfl | rfl | rfl | rfl | rfl | rfl <;> rfl
theorem cs17_is {n : Int} {L : Nat → Int} {I : Nat → Bool} {k : Nat} (h : k < 8) : (cs17 n L I)[1 + k * 2 + 1]? = some (.bool (I k)) := by
  rcases lt8 h with rfl | rfl | rfl | rfl | rfl | rfl | rfl | rfl <;> rfl
theorem cs17_set {n : Int} {L : Nat → Int} {I : Nat → Bool} {k : Nat} (h : k < 8) (l : Int) (i : Bool) :
    ((cs17 n L I).setIfInBounds (1 + k * 2) (.int .u64 l)).setIfInBounds (1 + k * 2 + 1) (.bool i) = cs17 n (upd L k l) (upd I k i) := by
  rcases lt8 h with rfl | rfl | rfl | rfl | rfl | rfl | rfl | rfl <;> rfl

def SetPost (w : World) (b : Nat) (n : Int) (L : Nat → Int) (I : Nat → Bool) (e : Ending) (w' : World) : Prop :=
  e = .returned (.int .i64 0) ∧ MonAt w' b n L I ∧ Fr (One b) w w'
def BadPost (w : World) (e : Ending) (w' : World) : Prop := e = .returned (.int .i64 1) ∧ Fr Nil w w'

set_option maxHeartbeats 400000 in
theorem set_bad (b : Nat) (core n : Int) (l : Int) (i : Bool) (L : Nat → Int) (I : Nat → Bool) (w : World) (hm : MonAt w b n L I) (h : core < 0 ∨ n ≤ core) :
    Calls Try.prog 19 #[.pointer (some ⟨b, 0, none⟩), .int .i64 core, .agg #[.int .u64 l, .bool i]] w (BadPost w) := by
  have hb := Blk.lt hm
  have hn : w.cell? ⟨b, 0, none⟩ = some (.int .i64 n) := Blk.cellv hm rfl

  by_cases h0 : core < 0
  · go_enter Try.func19, Try.ntmps19
    go_wp2
    go_ret
    exact ⟨rfl, (Fr.refl _ _).alloc _⟩
  · have h1 : n ≤ core := by omega
    clear h
    go_enter Try.func19, Try.ntmps19
    go_wp2
    go_ret
    exact ⟨rfl, (Fr.refl _ _).alloc _⟩

set_option maxHeartbeats 400000 in
theorem set_ok (b k : Nat) (n : Int) (l : Int) (i : Bool) (L : Nat → Int) (I : Nat → Bool) (w : World) (hm : MonAt w b n L I) (hk : (k : Int) < n) (hn8 : n ≤ 8) :
    Calls Try.prog 19 #[.pointer (some ⟨b, 0, none⟩), .int .i64 k, .agg #[.int .u64 l, .bool i]] w (SetPost w b n (upd L k l) (upd I k i)) := by
  have hb := Blk.lt hm
  have hn : w.cell? ⟨b, 0, none⟩ = some (.int .i64 n) := Blk.cellv hm rfl
  have h8 : (k : Int) < 8 := by omega
  have h8' : k < 8 := by omega
  have c0 : w.cell? ⟨b, 1 + k * 2, none⟩ = some (.int .u64 (L k)) := Blk.cellv hm (cs17_line h8')
  have c1 : w.cell? ⟨b, 1 + k * 2 + 1, none⟩ = some (.bool (I k)) := Blk.cellv hm (cs17_is h8')
  have hf0 : w.frozen? ⟨b, 1 + k * 2, none⟩ = false := Blk.frozen hm _
  have hf1 : w.frozen? ⟨b, 1 + k * 2 + 1, none⟩ = false := Blk.frozen hm _


  go_enter Try.func19, Try.ntmps19
  go_wp2
  go_region
  all_goals go_wp2
  all_goals go_ret
  all_goals exact ⟨rfl, Blk.drew (Blk.alloc (((Blk.set_ hm _ _).set_ _ _).cast (cs17_set h8' _ _)) _), Fr.drew (Fr.alloc (Fr.set1 (Fr.set1 (Fr.refl _ _) _) _) _)⟩

theorem pick_pos (c n : Int) (w : World) (hc : 0 ≤ c) (hc2 : c ≤ 9223372036854775807) (hn : 1 ≤ n) (hn2 : n ≤ 9223372036854775807) :
    Calls Try.prog 10 #[.int .i64 c, .int .i64 n] w fun e w' => e = .returned (.int .i64 (c % n)) ∧ w = w' := by
  go_enter Try.func10, Try.ntmps10
  go_wp2
  go_ret
  exact ⟨rfl, rfl⟩
theorem pick_neg (c n : Int) (w : World) (hc : c < 0) (hc2 : -9223372036854775808 ≤ c) (hn : 1 ≤ n) (hn2 : n ≤ 9223372036854775807) :
    Calls Try.prog 10 #[.int .i64 c, .int .i64 n] w fun e w' => e = .returned (.int .i64 ((-(c + 1)) % n)) ∧ w = w' := by
  have e : -((c + 1).tmod n) = (-(c + 1)) % n := by rw [← Int.neg_tmod]; exact Int.tmod_eq_emod_of_nonneg (by omega)
  have E := Lib.hid e
  clear e
  go_enter Try.func10, Try.ntmps10
  go_wp2
  go_ret
  rw [← E.out]
  exact ⟨rfl, rfl⟩
def pk (c n : Int) : Int := if c < 0 then (-(c + 1)) % n else c % n
theorem pk_lo (c n : Int) (hn : 1 ≤ n) : 0 ≤ pk c n := by unfold pk; split <;> exact Int.emod_nonneg _ (by omega)
theorem pk_hi (c n : Int) (hn : 1 ≤ n) : pk c n < n := by unfold pk; split <;> exact Int.emod_lt_of_pos _ (by omega)
theorem pick_any (c n : Int) (w : World) (hc1 : -9223372036854775808 ≤ c) (hc2 : c ≤ 9223372036854775807) (hn : 1 ≤ n) (hn2 : n ≤ 9223372036854775807) :
    Calls Try.prog 10 #[.int .i64 c, .int .i64 n] w fun e w' => e = .returned (.int .i64 (pk c n)) ∧ w = w' := by
  by_cases h : c < 0
  · unfold pk; rw [if_pos h]; exact pick_neg c n w h hc1 hn hn2
  · unfold pk; rw [if_neg h]; exact pick_pos c n w (by omega) hc2 hn hn2

def NewPost (w : World) (n : Int) (e : Ending) (w' : World) : Prop :=
  e = .returned (.tuple #[.pointer (some ⟨w.heap.size, 0, none⟩), .int .i64 0]) ∧ w' = w.alloc (.cells (cs17 n (fun _ => 0) (fun _ => false)) 58)
theorem new_ok (n : Int) (w : World) (h1 : 1 ≤ n) (h8 : n ≤ 8) : Calls Try.prog 8 #[.int .i64 n] w (NewPost w n) := by
  go_enter Try.func8, Try.ntmps8
  go_wp2
  go_ret2
  exact ⟨rfl, rfl⟩
theorem new_bad (n : Int) (w : World) (h : n < 1 ∨ 8 < n) : Calls Try.prog 8 #[.int .i64 n] w fun e w' => e = .returned (.tuple #[.pointer none, .int .i64 1]) ∧ w = w' := by
  by_cases h0 : n < 1
  · go_enter Try.func8, Try.ntmps8
    go_wp2
    go_ret2
    exact ⟨rfl, rfl⟩
  · have h1 : 8 < n := by omega
    clear h
    go_enter Try.func8, Try.ntmps8
    go_wp2
    go_ret2
    exact ⟨rfl, rfl⟩

theorem mark_ok (b k : Nat) (n a : Int) (L : Nat → Int) (I : Nat → Bool) (w : World) (hm : MonAt w b n L I) (hk : (k : Int) < n) (hn8 : n ≤ 8) (ha : 0 ≤ a) (ha2 : a ≤ 18446744073709551615) :
    Calls Try.prog 9 #[.pointer (some ⟨b, 0, none⟩), .int .i64 k, .int .u64 a] w (SetPost w b n (upd L k (a / 64)) (upd I k true)) := by
  go_enter Try.func9, Try.ntmps9
  go_wp2_with (go_at_call 19; refine (set_ok _ _ _ _ _ _ _ _ hm hk hn8).mono ?_; rintro e w' ⟨rfl, hm', hf⟩)
  go_ret
  exact ⟨rfl, hm', hf⟩
theorem mark_bad (b : Nat) (core n a : Int) (L : Nat → Int) (I : Nat → Bool) (w : World) (hm : MonAt w b n L I) (ha : 0 ≤ a) (ha2 : a ≤ 18446744073709551615) (h : core < 0 ∨ n ≤ core) :
    Calls Try.prog 9 #[.pointer (some ⟨b, 0, none⟩), .int .i64 core, .int .u64 a] w (BadPost w) := by
  have H := Lib.hid h
  clear h
  go_enter Try.func9, Try.ntmps9
  go_wp2_with (go_at_call 19; refine (set_bad _ _ _ _ _ _ _ _ hm H.out).mono ?_; rintro e w' ⟨rfl, hf⟩)
  go_ret
  exact ⟨rfl, hf⟩
theorem clear_ok (b k : Nat) (n : Int) (L : Nat → Int) (I : Nat → Bool) (w : World) (hm : MonAt w b n L I) (hk : (k : Int) < n) (hn8 : n ≤ 8) :
    Calls Try.prog 15 #[.pointer (some ⟨b, 0, none⟩), .int .i64 k] w (SetPost w b n (upd L k 0) (upd I k false)) := by
  go_enter Try.func15, Try.ntmps15
  go_wp2_with (go_at_call 19; refine (set_ok _ _ _ _ _ _ _ _ hm hk hn8).mono ?_; rintro e w' ⟨rfl, hm', hf⟩)
  go_ret
  exact ⟨rfl, hm', hf⟩
theorem clear_bad (b : Nat) (core n : Int) (L : Nat → Int) (I : Nat → Bool) (w : World) (hm : MonAt w b n L I) (h : core < 0 ∨ n ≤ core) :
    Calls Try.prog 15 #[.pointer (some ⟨b, 0, none⟩), .int .i64 core] w (BadPost w) := by
  have H := Lib.hid h
  clear h
  go_enter Try.func15, Try.ntmps15
  go_wp2_with (go_at_call 19; refine (set_bad _ _ _ _ _ _ _ _ hm H.out).mono ?_; rintro e w' ⟨rfl, hf⟩)
  go_ret
  exact ⟨rfl, hf⟩

def MarkedPost (w : World) (l : Int) (i : Bool) (e : Ending) (w' : World) : Prop :=
  e = .returned (.tuple #[.int .u64 (l * 64), .bool i, .int .i64 0]) ∧ Fr Nil w w'
def MarkedBad (w : World) (e : Ending) (w' : World) : Prop :=
  e = .returned (.tuple #[.int .u64 0, .bool false, .int .i64 1]) ∧ w = w'
theorem marked_bad (b : Nat) (core n : Int) (L : Nat → Int) (I : Nat → Bool) (w : World) (hm : MonAt w b n L I) (h : core < 0 ∨ n ≤ core) :
    Calls Try.prog 18 #[.pointer (some ⟨b, 0, none⟩), .int .i64 core] w (MarkedBad w) := by
  have hb := Blk.lt hm
  have hn : w.cell? ⟨b, 0, none⟩ = some (.int .i64 n) := Blk.cellv hm rfl
  clear hm
  by_cases h0 : core < 0
  · go_enter Try.func18, Try.ntmps18
    go_wp2
    go_ret3
    exact ⟨rfl, rfl⟩
  · have h1 : n ≤ core := by omega
    clear h
    go_enter Try.func18, Try.ntmps18
    go_wp2
    go_ret3
    exact ⟨rfl, rfl⟩
theorem marked_ok (b k : Nat) (n : Int) (L : Nat → Int) (I : Nat → Bool) (w : World) (hm : MonAt w b n L I) (hk : (k : Int) < n) (hn8 : n ≤ 8)
    (hl0 : 0 ≤ L k) (hl : L k ≤ 288230376151711743) :
    Calls Try.prog 18 #[.pointer (some ⟨b, 0, none⟩), .int .i64 k] w (MarkedPost w (L k) (I k)) := by
  have hb := Blk.lt hm
  have hn : w.cell? ⟨b, 0, none⟩ = some (.int .i64 n) := Blk.cellv hm rfl
  have h8 : (k : Int) < 8 := by omega
  have h8' : k < 8 := by omega
  have c0 : w.cell? ⟨b, 1 + k * 2, none⟩ = some (.int .u64 (L k)) := Blk.cellv hm (cs17_line h8')
  have c1 : w.cell? ⟨b, 1 + k * 2 + 1, none⟩ = some (.bool (I k)) := Blk.cellv hm (cs17_is h8')
  go_enter Try.func18, Try.ntmps18
  go_wp2
  go_quiet (fail)
  go_wp2
  go_ret3
  exact ⟨rfl, Fr.drewN (Fr.alloc (Fr.refl _ _) _) _⟩

def TakePost (w : World) (b : Nat) (n : Int) (L : Nat → Int) (I : Nat → Bool) (r : Bool) (e : Ending) (w' : World) : Prop :=
  e = .returned (.tuple #[.bool r, .int .i64 0]) ∧ MonAt w' b n L I ∧ Fr (One b) w w'
def TakeBad (w : World) (e : Ending) (w' : World) : Prop :=
  e = .returned (.tuple #[.bool false, .int .i64 1]) ∧ w = w'
theorem take_bad (b : Nat) (core n a : Int) (L : Nat → Int) (I : Nat → Bool) (w : World) (hm : MonAt w b n L I) (h : core < 0 ∨ n ≤ core) :
    Calls Try.prog 11 #[.pointer (some ⟨b, 0, none⟩), .int .i64 core, .int .u64 a] w (TakeBad w) := by
  have hb := Blk.lt hm
  have hn : w.cell? ⟨b, 0, none⟩ = some (.int .i64 n) := Blk.cellv hm rfl
  clear hm
  by_cases h0 : core < 0
  · go_enter Try.func11, Try.ntmps11
    go_wp2
    go_ret2
    exact ⟨rfl, rfl⟩
  · have h1 : n ≤ core := by omega
    clear h
    go_enter Try.func11, Try.ntmps11
    go_wp2
    go_ret2
    exact ⟨rfl, rfl⟩
theorem take_ok (b k : Nat) (n a : Int) (L : Nat → Int) (I : Nat → Bool) (w : World) (hm : MonAt w b n L I) (hk : (k : Int) < n) (hn8 : n ≤ 8) (ha : 0 ≤ a) (ha2 : a ≤ 18446744073709551615) :
    Calls Try.prog 11 #[.pointer (some ⟨b, 0, none⟩), .int .i64 k, .int .u64 a] w (TakePost w b n (upd L k 0) (upd I k false) (I k && L k == a / 64)) := by
  have hb := Blk.lt hm
  have hn : w.cell? ⟨b, 0, none⟩ = some (.int .i64 n) := Blk.cellv hm rfl
  have h8 : (k : Int) < 8 := by omega
  have h8' : k < 8 := by omega
  have c0 : w.cell? ⟨b, 1 + k * 2, none⟩ = some (.int .u64 (L k)) := Blk.cellv hm (cs17_line h8')
  have c1 : w.cell? ⟨b, 1 + k * 2 + 1, none⟩ = some (.bool (I k)) := Blk.cellv hm (cs17_is h8')
  have hf0 : w.frozen? ⟨b, 1 + k * 2, none⟩ = false := Blk.frozen hm _
  have hf1 : w.frozen? ⟨b, 1 + k * 2 + 1, none⟩ = false := Blk.frozen hm _
  go_enter Try.func11, Try.ntmps11
  go_wp2
  all_goals go_ret2
  all_goals exact ⟨by simp [*], Blk.alloc (((Blk.set_ hm _ _).set_ _ _).cast (cs17_set h8' _ _)) _, Fr.alloc (Fr.set1 (Fr.set1 (Fr.refl _ _) _) _) _⟩
end Go.Proofs.Ytffjembeimpdmaa
