/- Contracts of the reference of chapter 9, and what Wrote and the others refuse. -/
import Derived.Test.YtffjembeimpdmaaWrote
namespace Go.Proofs.Ytffjembeimpdmaa
open Go.RowKit
set_option linter.unusedVariables false

theorem wrote_bad (b : Nat) (core n a : Int) (L : Nat → Int) (I : Nat → Bool) (w : World) (hm : MonAt w b n L I) (h : core < 0 ∨ n ≤ core) :
    Calls Try.prog 12 #[.pointer (some ⟨b, 0, none⟩), .int .i64 core, .int .u64 a] w fun e w' => e = .returned (.tuple #[.slice none 0 0, .int .i64 1]) ∧ w = w' := by
  have hb := Blk.lt hm
  have hn : w.cell? ⟨b, 0, none⟩ = some (.int .i64 n) := Blk.cellv hm rfl
  clear hm
  by_cases h0 : core < 0
  · go_enter Try.func12, Try.ntmps12
    go_wp2
    go_ret2
    exact ⟨rfl, rfl⟩
  · have h1 : n ≤ core := by omega
    clear h
    go_enter Try.func12, Try.ntmps12
    go_wp2
    go_ret2
    exact ⟨rfl, rfl⟩

def bs (H : Nat → Bool) (n : Nat) : Array Value := ((List.range n).map fun i => Value.bool (H i)).toArray
def us (A : Nat → Int) (n : Nat) : Array Value := ((List.range n).map fun i => Value.int .u64 (A i)).toArray
theorem bs_get {H : Nat → Bool} {n k : Nat} (h : k < n) : (bs H n)[k]? = some (.bool (H k)) := by
  simp [bs, List.getElem?_map, List.getElem?_range h]
theorem us_get {A : Nat → Int} {n k : Nat} (h : k < n) : (us A n)[k]? = some (.int .u64 (A k)) := by
  simp [us, List.getElem?_map, List.getElem?_range h]
theorem map_range_set {α : Type} (f : Nat → α) (n k : Nat) (v : α) : (((List.range n).map f).toArray.setIfInBounds k v) = ((List.range n).map (upd f k v)).toArray := by
  rw [List.setIfInBounds_toArray]
  congr 1
  apply List.ext_getElem?
  intro i
  rw [List.getElem?_set]
  by_cases hi : i < n
  · by_cases hk : k = i
    · subst hk; simp [List.getElem?_range hi, upd, hi]
    · simp [List.getElem?_range hi, upd, hk, Ne.symm hk]
  · by_cases hk : k = i
    · subst hk; simp [hi]
    · simp [hk, hi]
theorem bs_set {H : Nat → Bool} {n : Nat} (k : Nat) (v : Bool) : (bs H n).setIfInBounds k (.bool v) = bs (upd H k v) n := by
  unfold bs
  rw [map_range_set]
  congr 2
  funext i
  unfold upd
  split <;> rfl
theorem us_set {A : Nat → Int} {n : Nat} (k : Nat) (v : Int) : (us A n).setIfInBounds k (.int .u64 v) = us (upd A k v) n := by
  unfold us
  rw [map_range_set]
  congr 2
  funext i
  unfold upd
  split <;> rfl
theorem bs_made (n : Nat) : madeCells (Value.bool false).cells (n * 1) = bs (fun _ => false) n := by
  apply Array.toList_inj.1
  rw [show (Value.bool false).cells = #[Value.bool false] from rfl, toList_madeCells_one, Nat.mul_one]
  unfold bs
  rw [List.map_const']
  simp
theorem us_made (n : Nat) : madeCells (Value.int .u64 0).cells (n * 1) = us (fun _ => 0) n := by
  apply Array.toList_inj.1
  rw [show (Value.int .u64 0).cells = #[Value.int .u64 0] from rfl, toList_madeCells_one, Nat.mul_one]
  unfold us
  rw [List.map_const']
  simp

structure RefAt (w : World) (rb hb ab n : Nat) (H : Nat → Bool) (A : Nat → Int) : Prop where
  top : Blk w rb 46 #[.slice (some ⟨hb, 0, none⟩) n n, .slice (some ⟨ab, 0, none⟩) n n]
  has : Blk w hb 4 (bs H n)
  at_ : Blk w ab 22 (us A n)
theorem RefAt.fr {w w' : World} {S : Nat → Prop} {rb hb ab n : Nat} {H : Nat → Bool} {A : Nat → Int} (h : RefAt w rb hb ab n H A) (hf : Fr S w w') (h1 : ¬ S rb) (h2 : ¬ S hb) (h3 : ¬ S ab) : RefAt w' rb hb ab n H A :=
  ⟨h.top.fr hf h1, h.has.fr hf h2, h.at_.fr hf h3⟩

theorem Try.info4 : (Try.prog.info? 4).map (fun i => (i.zero, i.size, i.bytes)) = some (some (.bool false), 1, 1) := by kernel_rfl
theorem Try.info22 : (Try.prog.info? 22).map (fun i => (i.zero, i.size, i.bytes)) = some (some (.int .u64 0), 1, 8) := by kernel_rfl
theorem make43 (n : Nat) (hn : n ≤ 8) (w : World) : (Instr.makeSlice 43 (.int .i64 (n : Int)) (.int .i64 (n : Int))).run Try.prog w = .ok (.slice (some ⟨w.heap.size, 0, none⟩) n n) (w.alloc (.cells (bs (fun _ => false) n) 4)) := by
  obtain ⟨i, hi, hz0, hz1, hz2⟩ := info_parts Try.info4
  have := run_make (P := Try.prog) w 43 4 i _ Try.underlying43 hi hz0 .i64 .i64 n n (by omega) (by omega) (by rw [hz2]; omega) (by omega)
  rw [hz1, Int.toNat_natCast, bs_made] at this
  exact this
theorem make44 (n : Nat) (hn : n ≤ 8) (w : World) : (Instr.makeSlice 44 (.int .i64 (n : Int)) (.int .i64 (n : Int))).run Try.prog w = .ok (.slice (some ⟨w.heap.size, 0, none⟩) n n) (w.alloc (.cells (us (fun _ => 0) n) 22)) := by
  obtain ⟨i, hi, hz0, hz1, hz2⟩ := info_parts Try.info22
  have := run_make (P := Try.prog) w 44 22 i _ Try.underlying44 hi hz0 .i64 .i64 n n (by omega) (by omega) (by rw [hz2]; omega) (by omega)
  rw [hz1, Int.toNat_natCast, us_made] at this
  exact this

def RNewPost (w : World) (n : Nat) (e : Ending) (w' : World) : Prop :=
  ∃ rb hb ab, e = .returned (.pointer (some ⟨rb, 0, none⟩)) ∧ RefAt w' rb hb ab n (fun _ => false) (fun _ => 0) ∧ Fr Nil w w' ∧ w.heap.size ≤ rb ∧ w.heap.size ≤ hb ∧ w.heap.size ≤ ab
set_option maxHeartbeats 400000 in
theorem rnew_ok (n : Nat) (w : World) (hn : n ≤ 8) : Calls Try.prog 13 #[.int .i64 (n : Int)] w (RNewPost w n) := by
  have m1 := make43 n hn
  have m2 := make44 n hn
  go_enter Try.func13, Try.ntmps13
  go_wp2
  go_region
  all_goals go_wp2
  all_goals go_ret
  · exact ⟨_, _, _, rfl, ⟨Blk.drew (Blk.new3 _ _ _ _ _), Blk.drew (Blk.alloc (Blk.alloc (Blk.new _ _ _) _) _), Blk.drew (Blk.alloc (Blk.new2 _ _ _ _) _)⟩, Fr.drew (Fr.alloc (Fr.alloc (Fr.alloc (Fr.refl _ _) _) _) _), by omega, by omega, by omega⟩
  · exact ⟨_, _, _, rfl, ⟨Blk.drew (Blk.new3 _ _ _ _ _), Blk.drew (Blk.alloc (Blk.new2 _ _ _ _) _), Blk.drew (Blk.alloc (Blk.alloc (Blk.new _ _ _) _) _)⟩, Fr.drew (Fr.alloc (Fr.alloc (Fr.alloc (Fr.refl _ _) _) _) _), by omega, by omega, by omega⟩

def RMarkPost (w : World) (rb hb ab n : Nat) (H : Nat → Bool) (A : Nat → Int) (e : Ending) (w' : World) : Prop :=
  e = .returned (.tuple #[]) ∧ RefAt w' rb hb ab n H A ∧ Fr (Two hb ab) w w'
theorem rmark_ok (rb hb ab n k : Nat) (a : Int) (H : Nat → Bool) (A : Nat → Int) (w : World) (hr : RefAt w rb hb ab n H A) (hk : k < n) (hn : n ≤ 8) (ha : 0 ≤ a) (ha2 : a ≤ 18446744073709551615) :
    Calls Try.prog 14 #[.pointer (some ⟨rb, 0, none⟩), .int .i64 (k : Int), .int .u64 a] w (RMarkPost w rb hb ab n (upd H k true) (upd A k (a / 64))) := by
  obtain ⟨h1, h2, h3⟩ := hr
  have l1 := h1.lt
  have l2 := h2.lt
  have l3 := h3.lt
  have n1 : rb ≠ hb := h1.ne_ h2 (by decide)
  have n2 : rb ≠ ab := h1.ne_ h3 (by decide)
  have n3 : hb ≠ ab := h2.ne_ h3 (by decide)
  have c0 : w.cell? ⟨rb, 0, none⟩ = some (.slice (some ⟨hb, 0, none⟩) n n) := h1.cellv rfl
  have c1 : w.cell? ⟨rb, 1, none⟩ = some (.slice (some ⟨ab, 0, none⟩) n n) := h1.cellv rfl
  have c2 : w.cell? ⟨hb, k, none⟩ = some (.bool (H k)) := h2.cellv (bs_get hk)
  have c3 : w.cell? ⟨ab, k, none⟩ = some (.int .u64 (A k)) := h3.cellv (us_get hk)
  have f2 : w.frozen? ⟨hb, k, none⟩ = false := h2.frozen _
  have f3 : w.frozen? ⟨ab, k, none⟩ = false := h3.frozen _
  go_enter Try.func14, Try.ntmps14
  go_wp2
  go_end0
  exact ⟨rfl, ⟨(h1.far n1 _).far n2 _, ((h2.set_ _ _).cast (bs_set _ _)).far n3 _, ((h3.far (Ne.symm n3) _).set_ _ _).cast (us_set _ _)⟩, Fr.set2' (Fr.set2 (Fr.refl _ _) _) _⟩
def RTakePost (w : World) (rb hb ab n : Nat) (H : Nat → Bool) (A : Nat → Int) (r : Bool) (e : Ending) (w' : World) : Prop :=
  e = .returned (.bool r) ∧ RefAt w' rb hb ab n H A ∧ Fr (Two hb ab) w w'
theorem rtake_ok (rb hb ab n k : Nat) (a : Int) (H : Nat → Bool) (A : Nat → Int) (w : World) (hr : RefAt w rb hb ab n H A) (hk : k < n) (hn : n ≤ 8) (ha : 0 ≤ a) (ha2 : a ≤ 18446744073709551615) :
    Calls Try.prog 17 #[.pointer (some ⟨rb, 0, none⟩), .int .i64 (k : Int), .int .u64 a] w (RTakePost w rb hb ab n (upd H k false) A (H k && A k == a / 64)) := by
  obtain ⟨h1, h2, h3⟩ := hr
  have l1 := h1.lt
  have l2 := h2.lt
  have l3 := h3.lt
  have n1 : rb ≠ hb := h1.ne_ h2 (by decide)
  have n2 : rb ≠ ab := h1.ne_ h3 (by decide)
  have n3 : hb ≠ ab := h2.ne_ h3 (by decide)
  have c0 : w.cell? ⟨rb, 0, none⟩ = some (.slice (some ⟨hb, 0, none⟩) n n) := h1.cellv rfl
  have c1 : w.cell? ⟨rb, 1, none⟩ = some (.slice (some ⟨ab, 0, none⟩) n n) := h1.cellv rfl
  have c2 : w.cell? ⟨hb, k, none⟩ = some (.bool (H k)) := h2.cellv (bs_get hk)
  have c3 : w.cell? ⟨ab, k, none⟩ = some (.int .u64 (A k)) := h3.cellv (us_get hk)
  have f2 : w.frozen? ⟨hb, k, none⟩ = false := h2.frozen _
  go_enter Try.func17, Try.ntmps17
  go_wp2
  all_goals go_ret
  all_goals exact ⟨by simp [*], ⟨h1.far n1 _, (h2.set_ _ _).cast (bs_set _ _), h3.far (Ne.symm n3) _⟩, Fr.set2 (Fr.refl _ _) _⟩

def RH (H : Nat → Bool) (A : Nat → Int) (c ln : Int) (k : Nat) : Nat → Bool := IA A H c ln k
def RWrotePost (w : World) (rb hb ab n : Nat) (H : Nat → Bool) (A : Nat → Int) (xs : List Int) (e : Ending) (w' : World) : Prop :=
  ∃ v, e = .returned v ∧ w'.ownsRow w.heap.size 3 1 v xs.length (xs.map (Value.int .i64)) ∧ RefAt w' rb hb ab n H A ∧ Fr (One hb) w w'
set_option maxHeartbeats 1000000 in
theorem rwrote_ok (rb hb ab n : Nat) (c a : Int) (H : Nat → Bool) (A : Nat → Int) (w : World) (hr : RefAt w rb hb ab n H A) (hn : n ≤ 8) (ha : 0 ≤ a) (ha2 : a ≤ 18446744073709551615) :
    Calls Try.prog 16 #[.pointer (some ⟨rb, 0, none⟩), .int .i64 c, .int .u64 a] w (RWrotePost w rb hb ab n (IA A H c (a / 64) n) A (HL A H c (a / 64) n)) := by
  obtain ⟨i0, hi, hz0, hz1, hz2⟩ := info_parts Try.info3
  obtain ⟨h1, h2, h3⟩ := hr
  have l1 := h1.lt
  have l2 := h2.lt
  have l3 := h3.lt
  have n1 : rb ≠ hb := h1.ne_ h2 (by decide)
  have n2 : rb ≠ ab := h1.ne_ h3 (by decide)
  have n3 : hb ≠ ab := h2.ne_ h3 (by decide)
  go_enter Try.func16, Try.ntmps16
  go_wp2
  go_loopw [7, 8] (fun v i wr => ∃ k : Nat, k ≤ n ∧ i = .int .i64 k ∧ wr.ownsRow w.heap.size 3 1 v (HL A H c (a / 64) k).length ((HL A H c (a / 64) k).map (Value.int .i64)) ∧
      Blk wr hb 4 (bs (IA A H c (a / 64) k) n) ∧ Fr (One hb) w wr)
    (fun _ i _ => n - (intOf i).toNat)
  case atStart => exact ⟨0, by omega, rfl, World.ownsRow_nil _ _ _ _, by rw [IA_zero]; exact h2, Fr.refl _ _⟩
  case round =>
    obtain ⟨k, hk, rfl, hown, hnb, hfr⟩ := hrel
    have hsz := hfr.size
    have hbl := Blk.lt hnb
    have h1' := h1.fr1 hfr n1
    have h3' := h3.fr1 hfr (Ne.symm n3)
    have c0 : wr.cell? ⟨rb, 0, none⟩ = some (.slice (some ⟨hb, 0, none⟩) n n) := h1'.cellv rfl
    have c1 : wr.cell? ⟨rb, 1, none⟩ = some (.slice (some ⟨ab, 0, none⟩) n n) := h1'.cellv rfl
    by_cases hlt : k < n
    · have c2 : wr.cell? ⟨hb, k, none⟩ = some (.bool (IA A H c (a / 64) k k)) := hnb.cellv (bs_get hlt)
      have ei : IA A H c (a / 64) k k = H k := by simp [IA]
      rw [ei] at c2
      clear ei
      have c3 : wr.cell? ⟨ab, k, none⟩ = some (.int .u64 (A k)) := h3'.cellv (us_get hlt)
      have hf0 : wr.frozen? ⟨hb, k, none⟩ = false := Blk.frozen hnb _
      have hne : u7.ownBlock ≠ some hb := own_blk_ne hown hnb (by decide)
      have hs : ∀ j, u7.ownBlock = some j → ¬ One hb j := fun j hj hx => hne (by rw [hj, hx])
      have hle := HL_le (L := A) (I := H) (c := c) (ln := a / 64) (k := k)
      go_wp2_with (at_builtin; refine wpList_append_own _ rfl _ _ 23 rfl w.heap.size 3 i0 (.int .i64 0) 1 8 Try.underlying23 hi hz0 hz1 hz2 rfl (by decide) _ _ _ rfl (Fr.own hown (S := One hb) (Fr.alloc (Fr.set1 (Fr.refl _ _) _) _) hs) ⟨wr.heap.size, 0, none⟩ 1 1 [.int .i64 k] rfl rfl ?c1 ?c2 ?c3 ?c4 ?c5 ?_)
      case c1 =>
        intro j u hj
        match j, hj with
        | 0, hj => simp at hj; subst hj; simp [Addr.add]; rw [World.cell?_alloc_at _ _ _ _ (by simp)]; rfl
      case c2 => intro u hu; simp at hu; subst hu; rfl
      case c3 => unfold maxLen; omega
      case c4 => omega
      case c5 => simp; omega
      · have e : (k : Int) = c := by assumption
        have hh : hit A H c (a / 64) k = false := by simp [hit, e]
        go_roundw
        case rel => exact ⟨k + 1, by omega, by rw [← e]; rfl, by rw [HL_miss hh]; exact hown, by rw [IA_miss hh]; exact hnb, hfr⟩
        case measure => simp [intOf]; omega
      · intro v' w1 hown' hgrow _
        have e1 : ¬ (k : Int) = c := by assumption
        have e2 : ((k : Int) != c) = true ∧ (A k == a / 64) = true := by assumption
        have e3 : H k = true := by assumption
        have hh : hit A H c (a / 64) k = true := by simp [hit, e1, e3]; simpa using e2.2
        have R1 : w1.ownsRow w.heap.size 3 1 v' (HL A H c (a / 64) (k + 1)).length ((HL A H c (a / 64) (k + 1)).map (Value.int .i64)) := by
          rw [HL_hit hh]; simpa using hown'
        have R2 : Blk w1 hb 4 (bs (IA A H c (a / 64) (k + 1)) n) := by
          rw [IA_hit hh, ← bs_set]
          exact Blk.grown (Blk.alloc (Blk.set_ hnb _ _) _) hgrow (Ne.symm hne)
        have R3 : Fr (One hb) w w1 := Fr.grown (Fr.alloc (Fr.set1 hfr _) _) hgrow (fun j hj => .inr (hown.lt j hj).1)
        clear hown' hgrow hown hnb hfr
        go_wp2
        go_roundw
        case rel => exact ⟨k + 1, by omega, rfl, R1, R2, R3⟩
        case measure => simp [intOf]; omega
      · have e1 : ¬ (k : Int) = c := by assumption
        have e2 : ((k : Int) != c) = false ∨ (A k == a / 64) = false := by assumption
        have hh : hit A H c (a / 64) k = false := by
          rcases e2 with e2 | e2
          · simp at e2; exact absurd e2 e1
          · simp at e2; simp [hit, e2]
        go_roundw
        case rel => exact ⟨k + 1, by omega, rfl, by rw [HL_miss hh]; exact hown, by rw [IA_miss hh]; exact hnb, hfr⟩
        case measure => simp [intOf]; omega
      · have e : ¬ H k = true := by assumption
        have hh : hit A H c (a / 64) k = false := by simp [hit, e]
        go_roundw
        case rel => exact ⟨k + 1, by omega, rfl, by rw [HL_miss hh]; exact hown, by rw [IA_miss hh]; exact hnb, hfr⟩
        case measure => simp [intOf]; omega
    · have hk8 : k = n := by omega
      subst hk8
      go_wp2
      go_ret
      exact ⟨_, rfl, hown, ⟨h1', hnb, h3'⟩, hfr⟩
end Go.Proofs.Ytffjembeimpdmaa
