/- New, the registers' numbers, the chapter's example. -/
import Derived.Test.YtnmakbippgnekaaTTm
import Derived.Laws.MakeOwn
import Derived.Laws.OwnMore
set_option linter.unusedSimpArgs false
set_option linter.unusedSectionVars false
namespace Go.Proofs.Ytnmakbippgnekaa.Tim
open Go.RowKit
set_option linter.unusedVariables false

def T0 (n : Nat) : Ts := ⟨n, 0, fun _ => 0, fun _ => 0⟩
theorem T0_right (n : Nat) (h1 : 1 ≤ n) (h8 : n ≤ 8) : Right (T0 n) := ⟨h1, h8, (by show (0 : Int) ≤ 0; decide), (by show (0 : Int) ≤ _; decide), fun _ _ => by show 0 < 4; decide, fun _ _ => by show (0 : Int) ≤ 0; decide, fun _ _ => by show (0 : Int) ≤ _; decide⟩
theorem made3 (a b c : Value) (n : Nat) : madeCells #[a, b, c] (n * 3) = (rows (fun _ => [a, b, c]) n).toArray := by
  apply Array.ext
  · simp [size_madeCells, rows_length (fun _ => [a, b, c]) 3 (fun _ => rfl)]
  · intro i h1 h2
    have hi : i < n * 3 := by simpa [size_madeCells] using h1
    have hr := rows_get (fun _ => [a, b, c]) 3 (fun _ => rfl) (m := n) (i := i / 3) (j := i % 3) (by omega) (by omega)
    have e : i / 3 * 3 + i % 3 = i := by omega
    rw [e] at hr
    have h3 : (rows (fun _ => [a, b, c]) n).toArray[i]? = some ((rows (fun _ => [a, b, c]) n).toArray[i]) := Array.getElem?_eq_getElem h2
    rw [List.getElem?_toArray, hr] at h3
    simp only [madeCells, Array.getElem_map, Array.getElem_range]
    have : i % 3 = 0 ∨ i % 3 = 1 ∨ i % 3 = 2 := by omega
    rcases this with h | h | h
    · simp [h] at h3 ⊢; exact h3
    · simp [h] at h3 ⊢; exact h3
    · simp [h] at h3 ⊢; exact h3
theorem Try.info88 : (Try.prog.info? 88).map (fun i => (i.zero, i.size, i.bytes)) = some (some (.agg #[.pointer none, .int .u64 0, .int .u64 0]), 3, 24) := by kernel_rfl
def z3 : List Value := [.pointer none, .int .u64 0, .int .u64 0]
theorem make52 (n : Nat) (hn : n ≤ 8) (w : World) : (Instr.makeSlice 84 (.int .i64 (n : Int)) (.int .i64 (n : Int))).run Try.prog w = .ok (.slice (some ⟨w.heap.size, 0, none⟩) n n) (w.alloc (.cells (rows (fun _ => z3) n).toArray 88)) := by
  obtain ⟨i, hi, hz0, hz1, hz2⟩ := info_parts Try.info88
  have := run_make (P := Try.prog) w 84 88 i _ Try.underlying84 hi hz0 .i64 .i64 n n (by omega) (by omega) (by rw [hz2]; omega) (by omega)
  rw [hz1, Int.toNat_natCast, show (Value.agg #[.pointer none, .int .u64 0, .int .u64 0]).cells = #[.pointer none, .int .u64 0, .int .u64 0] from rfl, made3] at this
  exact this
/-- A timer that a law has made. -/
structure TM (w : World) (b r : Nat) (s : Ts) (w' : World) : Prop where
  mem : TmAt w' b r s
  fr : Fr Nil w w'
  lb : w.heap.size ≤ b
  lr : w.heap.size ≤ r
  right : Right s
def NewM (w : World) (n : Nat) (e : Ending) (w' : World) : Prop := ∃ b r, e = .returned (.tuple #[.pointer (some ⟨b, 0, none⟩), .int .i64 0]) ∧ TM w b r (T0 n) w'
theorem new_bad (n : Int) (w : World) (h : n < 1 ∨ 8 < n) : Calls Try.prog 23 #[.int .i64 n] w fun e w' => e = .returned (.tuple #[.pointer none, .int .i64 1]) ∧ w = w' := by
  by_cases h1 : n < 1
  · clear h
    go_enter Try.func23, Try.ntmps23
    go_wp2
    go_ret2
    exact ⟨rfl, rfl⟩
  · have h2 : 8 < n := by omega
    clear h
    go_enter Try.func23, Try.ntmps23
    go_wp2
    go_ret2
    exact ⟨rfl, rfl⟩
set_option maxHeartbeats 1000000 in
theorem new_ok (n : Nat) {z : Int} (w : World) (hz : z = (n : Int)) (h1 : 1 ≤ n) (h8 : n ≤ 8) : Calls Try.prog 23 #[.int .i64 z] w (NewM w n) := by
  subst hz
  have m1 := make52 n h8
  have a1 : (1 : Int) ≤ (n : Int) := by omega
  have a2 : (n : Int) ≤ 8 := by omega
  have H := Lib.hid (And.intro h1 h8)
  clear h1 h8
  go_enter Try.func23, Try.ntmps23
  go_upto_region 4 with fail
  have hr : Blk ((w.alloc (.cells (rows (fun _ => z3) n).toArray 88)).alloc (.cells #[.int .u64 0, .slice (some ⟨w.heap.size, 0, none⟩) n n] 86)) w.heap.size 88 (rows (fun _ => z3) n).toArray := (Blk.new w 88 _).alloc _
  have hb : Blk ((w.alloc (.cells (rows (fun _ => z3) n).toArray 88)).alloc (.cells #[.int .u64 0, .slice (some ⟨w.heap.size, 0, none⟩) n n] 86)) (w.heap.size + 1) 86 #[.int .u64 0, .slice (some ⟨w.heap.size, 0, none⟩) n n] := Blk.new2 w _ 86 _
  have hf : Fr Nil w ((w.alloc (.cells (rows (fun _ => z3) n).toArray 88)).alloc (.cells #[.int .u64 0, .slice (some ⟨w.heap.size, 0, none⟩) n n] 86)) := ((Fr.refl _ _).alloc _).alloc _
  generalize ((w.alloc (.cells (rows (fun _ => z3) n).toArray 88)).alloc (.cells #[.int .u64 0, .slice (some ⟨w.heap.size, 0, none⟩) n n] 86)) = w1 at *
  obtain ⟨r, hre⟩ : ∃ r, r = w.heap.size := ⟨_, rfl⟩
  rw [← hre] at hr hb ⊢
  obtain ⟨b, hbe⟩ : ∃ b, b = r + 1 := ⟨_, rfl⟩
  rw [← hbe] at hb ⊢
  have HR := Lib.hid hr
  have HB := Lib.hid hb
  have HF := Lib.hid hf
  have HRE := Lib.hid hre
  have HBE := Lib.hid hbe
  have c1 := hb.cellv (i := 1) rfl
  clear hr hb hf hre hbe m1
  go_wp2_with fail
  go_loopw [21] (fun i wr => ∃ k : Nat, i = .int .i64 (k : Int) ∧ k ≤ n ∧ Blk wr b 86 #[.int .u64 0, .slice (some ⟨r, 0, none⟩) n n] ∧ Blk wr r 88 (rows (fun i => if i < k then [.pointer (some ⟨b, 0, none⟩), .int .u64 0, .int .u64 0] else z3) n).toArray ∧ Fr Nil w wr) (fun i _ => n - (intOf i).toNat)
  case atStart => exact ⟨0, rfl, Nat.zero_le _, HB.out, HR.out, HF.out⟩
  case round =>
    obtain ⟨k, rfl, hk, bb, br, fr⟩ := hrel
    have HBB := Lib.hid bb
    have HBR := Lib.hid br
    have HFR := Lib.hid fr
    have d1 := bb.cellv (i := 1) rfl
    have hlen : ∀ i, (if i < k then [Value.pointer (some ⟨b, 0, none⟩), .int .u64 0, .int .u64 0] else z3).length = 3 := fun i => by split <;> rfl
    by_cases hkn : k < n
    · have hg := rows_get (fun i => if i < k then [Value.pointer (some ⟨b, 0, none⟩), .int .u64 0, .int .u64 0] else z3) 3 hlen (j := 0) hkn (by omega)
      rw [Nat.add_zero, if_neg (Nat.lt_irrefl k)] at hg
      have d2 : wr.cell? ⟨r, k * 3, none⟩ = some (.pointer none) := br.cellv (by rw [List.getElem?_toArray, hg]; rfl)
      have f2 := br.frozen (k * 3)
      have k0 : (0 : Int) ≤ (k : Int) := by omega
      have k1 : (k : Int) < (n : Int) := by omega
      have hset := rows_set (fun i => if i < k then [Value.pointer (some ⟨b, 0, none⟩), .int .u64 0, .int .u64 0] else z3) 3 hlen (j := 0) hkn (by omega) (.pointer (some ⟨b, 0, none⟩))
      rw [Nat.add_zero, if_neg (Nat.lt_irrefl k)] at hset
      have hcong : rows (upd (fun i => if i < k then [Value.pointer (some ⟨b, 0, none⟩), .int .u64 0, .int .u64 0] else z3) k (z3.set 0 (.pointer (some ⟨b, 0, none⟩)))) n = rows (fun i => if i < k + 1 then [Value.pointer (some ⟨b, 0, none⟩), .int .u64 0, .int .u64 0] else z3) n := by
        refine rows_congr fun i _ => ?_
        by_cases h : i = k
        · subst h; rw [upd_same, if_pos (by omega)]; rfl
        · rw [upd_other _ _ h]
          by_cases h2 : i < k
          · rw [if_pos h2, if_pos (by omega)]
          · rw [if_neg h2, if_neg (by omega)]
      have hnew : Blk (wr.setCell ⟨r, k * 3, none⟩ (.pointer (some ⟨b, 0, none⟩))) r 88 (rows (fun i => if i < k + 1 then [.pointer (some ⟨b, 0, none⟩), .int .u64 0, .int .u64 0] else z3) n).toArray := by
        refine (br.set_ (k * 3) (.pointer (some ⟨b, 0, none⟩))).cast ?_
        rw [List.setIfInBounds_toArray, hset, hcong]
      have HNEW := Lib.hid hnew
      have HK := Lib.hid hkn
      clear hg hset hcong hnew hkn hk bb br fr hlen c1
      go_wp2_with fail
      go_roundw
      case rel => exact ⟨k + 1, by simp, HK.out, HBB.out.farc (by have := HBE.out; omega) _, HNEW.out, HFR.out.setNew (by rw [← HRE.out]; exact Nat.le_refl _) _⟩
      case measure => have := HK.out; simp [intOf]; omega
    · have k1 : (n : Int) ≤ (k : Int) := by omega
      have hke : k = n := by omega
      subst hke
      have hfin : (rows (fun i => if i < k then [Value.pointer (some ⟨b, 0, none⟩), .int .u64 0, .int .u64 0] else z3) k) = rows (reg b (T0 k).c (T0 k).v) k := rows_congr fun i hi => by rw [if_pos hi]; rfl
      have HFIN := Lib.hid hfin
      clear hkn hk bb br fr hlen c1 hfin
      go_wp2_with fail
      go_ret2
      exact ⟨b, r, rfl, ⟨HBB.out, by have := HBR.out; rw [HFIN.out] at this; exact this⟩, HFR.out, by have := HBE.out; have := HRE.out; omega, by rw [← HRE.out]; exact Nat.le_refl _, T0_right k H.out.1 H.out.2⟩
theorem wrS_right {s : Ts} (h : Right s) (i sys x : Int) (x0 : 0 ≤ x) (x1 : x ≤ 18446744073709551615) : Right (wrS s i sys x) ∧ (wrS s i sys x).n = s.n := by
  unfold wrS
  split
  · split
    · refine ⟨⟨h.n1, h.n8, h.t0, h.t1, fun j hj => ?_, h.v0, h.v1⟩, rfl⟩
      show upd s.c i.toNat (x % 4).toNat j < 4
      by_cases e : j = i.toNat
      · subst e; rw [upd_same]; omega
      · rw [upd_other _ _ e]; exact h.c4 j hj
    · split
      · refine ⟨⟨h.n1, h.n8, h.t0, h.t1, h.c4, fun j hj => ?_, fun j hj => ?_⟩, rfl⟩
        · show 0 ≤ upd s.v i.toNat x j
          by_cases e : j = i.toNat
          · subst e; rw [upd_same]; exact x0
          · rw [upd_other _ _ e]; exact h.v0 j hj
        · show upd s.v i.toNat x j ≤ _
          by_cases e : j = i.toNat
          · subst e; rw [upd_same]; exact x1
          · rw [upd_other _ _ e]; exact h.v1 j hj
      · exact ⟨h, rfl⟩
  · exact ⟨h, rfl⟩
theorem tick_right {s : Ts} (h : Right s) (x : Int) : Right { s with t := IntKind.u64.wrap x } := ⟨h.n1, h.n8, (wrap_rng x).1, (wrap_rng x).2, h.c4, h.v0, h.v1⟩
section
variable {w w1 w2 : World} {b r : Nat} {s : Ts}
theorem TM.still (h : TM w b r s w1) (hf : Fr Nil w1 w2) : TM w b r s w2 := ⟨h.mem.fr0 hf, h.fr.trans hf, h.lb, h.lr, h.right⟩
theorem TM.turn {s' : Ts} (h : TM w b r s w1) (hm : TmAt w2 b r s') (hf : Fr (Two b r) w1 w2) (hr : Right s') : TM w b r s' w2 :=
  ⟨hm, h.fr.step hf fun i _ hi => .inr (by rcases hi with e | e <;> rw [e]; exact h.lb; exact h.lr), h.lb, h.lr, hr⟩
/-- What leaves it. -/
def Rd (w : World) (b r : Nat) (s : Ts) (w1 : World) (v : Value) (e : Ending) (w' : World) : Prop := e = .returned v ∧ TM w b r s w' ∧ Fr Nil w1 w'
/-- What turns it. -/
def Tu (w : World) (b r : Nat) (s' : Ts) (w1 : World) (v : Value) (e : Ending) (w' : World) : Prop := e = .returned v ∧ TM w b r s' w' ∧ Fr (Two b r) w1 w'
theorem TM.read (h : TM w b r s w1) (i sys : Int) {x y : Int} (hx : rdV s i sys = (x, y)) : Calls Try.prog 32 #[.pointer (some ⟨b, 0, none⟩), .int .i64 i, .int .i64 sys] w1 (Rd w b r s w1 (.tuple #[.int .u64 x, .int .i64 y])) := by
  refine (read_ok b r s i sys w1 h.mem h.right).mono ?_
  rintro e w' ⟨rfl, hf⟩
  rw [hx]
  exact ⟨rfl, h.still hf, hf⟩
theorem TM.write (h : TM w b r s w1) (i sys x : Int) (x0 : 0 ≤ x) (x1 : x ≤ 18446744073709551615) {y : Int} (hy : wrV s i sys = y) : Calls Try.prog 26 #[.pointer (some ⟨b, 0, none⟩), .int .i64 i, .int .i64 sys, .int .u64 x] w1 (Tu w b r (wrS s i sys x) w1 (.int .i64 y)) := by
  refine (write_ok b r s i sys x w1 h.mem x0 x1).mono ?_
  rintro e w' ⟨rfl, hm, hf⟩
  rw [hy]
  exact ⟨rfl, h.turn hm hf (wrS_right h.right i sys x x0 x1).1, hf⟩
theorem TM.tick (h : TM w b r s w1) (x : Int) : Calls Try.prog 31 #[.pointer (some ⟨b, 0, none⟩), .int .u64 x] w1 (Tu w b r { s with t := IntKind.u64.wrap (s.t + x) } w1 (.tuple #[])) := by
  refine (tick_ok b r s x w1 h.mem).mono ?_
  rintro e w' ⟨rfl, hm, hf⟩
  exact ⟨rfl, h.turn hm hf (tick_right h.right _), hf⟩
theorem TM.high (h : TM w b r s w1) (i : Int) {x : Bool} (hx : hiB s i = x) : Calls Try.prog 40 #[.pointer (some ⟨b, 0, none⟩), .int .i64 i] w1 (Rd w b r s w1 (.bool x)) := by
  refine (high_ok b r s i w1 h.mem h.right).mono ?_
  rintro e w' ⟨rfl, hf⟩
  rw [hx]
  exact ⟨rfl, h.still hf, hf⟩
theorem TM.count (h : TM w b r s w1) {x : Int} (hx : s.t = x) : Calls Try.prog 42 #[.pointer (some ⟨b, 0, none⟩)] w1 (Rd w b r s w1 (.int .u64 x)) := by
  refine (count_ok b r s w1 h.mem).mono ?_
  rintro e w' ⟨rfl, rfl⟩
  rw [hx]
  exact ⟨rfl, h, Fr.refl _ _⟩
end
end Go.Proofs.Ytnmakbippgnekaa.Tim
