/- Contract of New; of Fetch. -/
import Derived.Test.YtjbdbmahbcaniaaPut
import Derived.Laws.OwnMore
import Derived.Test.YtjbdbmahbcaniaaNum
set_option linter.unusedSimpArgs false
set_option linter.unusedSectionVars false
namespace Go.Proofs.Ytjbdbmahbcaniaa
open Go.RowKit
set_option linter.unusedVariables false

def St0 (n c d : Nat) : St := ⟨n, c, d, fun _ => 0, fun _ => 0, fun _ => [], [0], []⟩
theorem Try.info79a : (Try.prog.info? 79).map (fun i => (i.zero, i.size, i.bytes)) = some (some (.agg #[.int .u64 0, .int .i64 0]), 2, 16) := by kernel_rfl
theorem Try.info33a : (Try.prog.info? 33).map (fun i => (i.zero, i.size, i.bytes)) = some (some (.slice none 0 0), 1, 24) := by kernel_rfl
theorem made2 (a b : Value) (n : Nat) : madeCells #[a, b] (n * 2) = (rows (fun _ => [a, b]) n).toArray := by
  apply Array.ext
  · simp [size_madeCells, rows_length (fun _ => [a, b]) 2 (fun _ => rfl)]
  · intro i h1 h2
    have hi : i < n * 2 := by simpa [size_madeCells] using h1
    have hr := rows_get (fun _ => [a, b]) 2 (fun _ => rfl) (m := n) (i := i / 2) (j := i % 2) (by omega) (by omega)
    have e : i / 2 * 2 + i % 2 = i := by omega
    rw [e] at hr
    have h3 : (rows (fun _ => [a, b]) n).toArray[i]? = some ((rows (fun _ => [a, b]) n).toArray[i]) := Array.getElem?_eq_getElem h2
    rw [List.getElem?_toArray, hr] at h3
    simp only [madeCells, Array.getElem_map, Array.getElem_range]
    rcases Nat.mod_two_eq_zero_or_one i with h | h
    · simp [h] at h3 ⊢; exact h3
    · simp [h] at h3 ⊢; exact h3
theorem make72 (n : Nat) (hn : n ≤ 8192) (w : World) : (Instr.makeSlice 72 (.int .i64 (n : Int)) (.int .i64 (n : Int))).run Try.prog w = .ok (.slice (some ⟨w.heap.size, 0, none⟩) n n) (w.alloc (.cells (wcs (fun _ => 0) (fun _ => 0) n) 79)) := by
  obtain ⟨i, hi, hz0, hz1, hz2⟩ := info_parts Try.info79a
  have := run_make (P := Try.prog) w 72 79 i _ Try.underlying72 hi hz0 .i64 .i64 n n (by omega) (by omega) (by rw [hz2]; omega) (by omega)
  rw [hz1, Int.toNat_natCast, show (Value.agg #[.int .u64 0, .int .i64 0]).cells = #[.int .u64 0, .int .i64 0] from rfl, made2] at this
  have e : wcs (fun _ => 0) (fun _ => 0) n = (rows (fun _ => [.int .u64 0, .int .i64 0]) n).toArray := rfl
  rw [e]
  exact this
theorem make73 (n : Nat) (hn : n ≤ 8) (w : World) : (Instr.makeSlice 73 (.int .i64 (n : Int)) (.int .i64 (n : Int))).run Try.prog w = .ok (.slice (some ⟨w.heap.size, 0, none⟩) n n) (w.alloc (.cells (hvs (fun _ => .slice none 0 0) n) 33)) := by
  obtain ⟨i, hi, hz0, hz1, hz2⟩ := info_parts Try.info33a
  have := run_make (P := Try.prog) w 73 33 i _ Try.underlying73 hi hz0 .i64 .i64 n n (by omega) (by omega) (by rw [hz2]; omega) (by omega)
  rw [hz1, Int.toNat_natCast, show (Value.slice none 0 0).cells = #[.slice none 0 0] from rfl] at this
  have e : madeCells #[Value.slice none 0 0] (n * 1) = hvs (fun _ => .slice none 0 0) n := by
    apply Array.toList_inj.1
    rw [toList_madeCells_one, Nat.mul_one]
    unfold hvs
    rw [List.map_const']
    simp
  rw [e] at this
  exact this
theorem make39 (w : World) : (Instr.makeSlice 39 (.int .i64 1) (.int .i64 1)).run Try.prog w = .ok (.slice (some ⟨w.heap.size, 0, none⟩) 1 1) (w.alloc (.cells #[.int .i64 0] 3)) := by
  obtain ⟨i, hi, hz0, hz1, hz2⟩ := info_parts Try.info3
  have := run_make (P := Try.prog) w 39 3 i _ Try.underlying39 hi hz0 .i64 .i64 1 1 (by omega) (by omega) (by rw [hz2]; omega) (by omega)
  have e : madeCells #[Value.int .i64 0] 1 = #[.int .i64 0] := Array.toList_inj.1 (by rw [toList_madeCells_one]; rfl)
  rw [hz1, show (Value.int .i64 0).cells = #[Value.int .i64 0] from rfl, show (1 : Int).toNat = 1 from rfl, Nat.mul_one, e] at this
  exact this
theorem mem_new {w : World} {b bw bh bs n c d : Nat} (h1 : Blk w b 75 #[.slice (some ⟨bw, 0, none⟩) n n, .slice (some ⟨bh, 0, none⟩) c c, .int .i64 (d : Int), .slice (some ⟨bs, 0, none⟩) 1 1, .slice none 0 0]) (h2 : Blk w bw 79 (wcs (fun _ => 0) (fun _ => 0) n)) (h3 : Blk w bh 33 (hvs (fun _ => .slice none 0 0) c)) (h4 : Blk w bs 3 #[.int .i64 0]) :
    MemAt w ⟨b, bw, bh, fun _ => .slice none 0 0, .slice (some ⟨bs, 0, none⟩) 1 1, .slice none 0 0⟩ (St0 n c d) :=
  ⟨h1, h2, h3, fun i hi => Win.nil _ _ _, Win.full (n := 1) h4 rfl (by simp [maxLen]), Win.nil _ _ _, (fun i j k _ _ _ h => by cases h), (fun k _ h => by cases h)⟩
def NewTo (w : World) (n c d : Nat) (e : Ending) (w' : World) : Prop :=
  ∃ q, e = .returned (.tuple #[.pointer (some ⟨q.b, 0, none⟩), .int .i64 0]) ∧ MemAt w' q (St0 n c d) ∧ Fr Nil w w' ∧ ∀ k, Foot q (St0 n c d) k → w.heap.size ≤ k
theorem new_to {w w' : World} {b bw bh bs n c d : Nat} (h1 : Blk w' b 75 #[.slice (some ⟨bw, 0, none⟩) n n, .slice (some ⟨bh, 0, none⟩) c c, .int .i64 (d : Int), .slice (some ⟨bs, 0, none⟩) 1 1, .slice none 0 0]) (h2 : Blk w' bw 79 (wcs (fun _ => 0) (fun _ => 0) n)) (h3 : Blk w' bh 33 (hvs (fun _ => .slice none 0 0) c)) (h4 : Blk w' bs 3 #[.int .i64 0]) (hf : Fr Nil w w')
    (l1 : w.heap.size ≤ b) (l2 : w.heap.size ≤ bw) (l3 : w.heap.size ≤ bh) (l4 : w.heap.size ≤ bs) : NewTo w n c d (.returned (.tuple #[.pointer (some ⟨b, 0, none⟩), .int .i64 0])) w' :=
  ⟨_, rfl, mem_new h1 h2 h3 h4, hf, fun k hk => by
    rcases hk with h | h | h | ⟨i, hi, h⟩ | h | h
    · rw [h]; exact l1
    · rw [h]; exact l2
    · rw [h]; exact l3
    · cases h
    · cases h; exact l4
    · cases h⟩
theorem Blk.new4 (w : World) (o o' o'' : Obj) (t : TypeId) (cs : Array Value) : Blk ((((w.alloc o).alloc o').alloc o'').alloc (.cells cs t)) (w.heap.size + 1 + 1 + 1) t cs := by simpa using Blk.new (((w.alloc o).alloc o').alloc o'') t cs
theorem Blk.new3' (w : World) (o o' : Obj) (t : TypeId) (cs : Array Value) : Blk (((w.alloc o).alloc o').alloc (.cells cs t)) (w.heap.size + 1 + 1) t cs := by simpa using Blk.new ((w.alloc o).alloc o') t cs
theorem new_bad (x y z : Int) (w : World) (h : x < 1 ∨ 8192 < x ∨ y < 1 ∨ 8 < y ∨ z < 1 ∨ 32 < z) : Calls Try.prog 12 #[.int .i64 x, .int .i64 y, .int .i64 z] w fun e w' => e = .returned (.tuple #[.pointer none, .int .i64 1]) ∧ w = w' := by
  by_cases h1 : x < 1
  · clear h
    go_enter Try.func12, Try.ntmps12
    go_wp2
    go_ret2
    exact ⟨rfl, rfl⟩
  by_cases h2 : 8192 < x
  · clear h
    go_enter Try.func12, Try.ntmps12
    go_wp2
    go_ret2
    exact ⟨rfl, rfl⟩
  by_cases h3 : y < 1
  · clear h
    go_enter Try.func12, Try.ntmps12
    go_wp2
    go_ret2
    exact ⟨rfl, rfl⟩
  by_cases h4 : 8 < y
  · clear h
    go_enter Try.func12, Try.ntmps12
    go_wp2
    go_ret2
    exact ⟨rfl, rfl⟩
  by_cases h5 : z < 1
  · clear h
    go_enter Try.func12, Try.ntmps12
    go_wp2
    go_ret2
    exact ⟨rfl, rfl⟩
  have h6 : 32 < z := by omega
  clear h
  go_enter Try.func12, Try.ntmps12
  go_wp2
  go_ret2
  exact ⟨rfl, rfl⟩
set_option maxHeartbeats 1000000 in
theorem new_ok (n c d : Nat) (w : World) (n1 : 1 ≤ n) (n2 : n ≤ 8192) (c1 : 1 ≤ c) (c2 : c ≤ 8) (d1 : 1 ≤ d) (d2 : d ≤ 32) : Calls Try.prog 12 #[.int .i64 (n : Int), .int .i64 (c : Int), .int .i64 (d : Int)] w (NewTo w n c d) := by
  have m1 := make72 n n2
  have m2 := make73 c c2
  have m3 := make39
  have a1 : (1 : Int) ≤ (n : Int) := by omega
  have a2 : (n : Int) ≤ 8192 := by omega
  have a3 : (1 : Int) ≤ (c : Int) := by omega
  have a4 : (c : Int) ≤ 8 := by omega
  have a5 : (1 : Int) ≤ (d : Int) := by omega
  have a6 : (d : Int) ≤ 32 := by omega
  clear n1 n2 c1 c2 d1 d2
  go_enter Try.func12, Try.ntmps12
  go_wp2
  go_region
  all_goals go_wp2
  all_goals go_ret2
  all_goals
    refine new_to (Blk.drew (Blk.new4 _ _ _ _ _ _)) ?_ ?_ ?_ (Fr.drew (Fr.alloc (Fr.alloc (Fr.alloc (Fr.alloc (Fr.refl _ _) _) _) _) _)) (by omega) ?_ ?_ ?_
    all_goals first | omega | exact Blk.drew (Blk.alloc (Blk.alloc (Blk.alloc (Blk.new _ _ _) _) _) _) | exact Blk.drew (Blk.alloc (Blk.alloc (Blk.new2 _ _ _ _) _) _) | exact Blk.drew (Blk.alloc (Blk.new3' _ _ _ _ _) _)
end Go.Proofs.Ytjbdbmahbcaniaa
