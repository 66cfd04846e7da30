/- The contract of Monitor.Wrote: which marks of a line go, and whose. -/
import Derived.Test.YtffjembeimpdmaaMon
namespace Go.Proofs.Ytffjembeimpdmaa
open Go.RowKit
set_option linter.unusedVariables false

def hit (L : Nat → Int) (I : Nat → Bool) (c ln : Int) (i : Nat) : Bool := decide ((i : Int) ≠ c) && (I i && decide (L i = ln))
def LA (L : Nat → Int) (I : Nat → Bool) (c ln : Int) (k : Nat) : Nat → Int := fun i => if i < k ∧ hit L I c ln i = true then 0 else L i
def IA (L : Nat → Int) (I : Nat → Bool) (c ln : Int) (k : Nat) : Nat → Bool := fun i => if i < k ∧ hit L I c ln i = true then false else I i
def HL (L : Nat → Int) (I : Nat → Bool) (c ln : Int) (k : Nat) : List Int := ((List.range k).filter (hit L I c ln)).map fun i : Nat => (i : Int)

section
variable {L : Nat → Int} {I : Nat → Bool} {c ln : Int} {k : Nat}
theorem HL_le : (HL L I c ln k).length ≤ k := by
  unfold HL
  rw [List.length_map]
  exact Nat.le_trans (List.length_filter_le _ _) (by rw [List.length_range]; exact Nat.le_refl _)
theorem HL_hit (h : hit L I c ln k = true) : HL L I c ln (k + 1) = HL L I c ln k ++ [(k : Int)] := by
  unfold HL
  rw [List.range_succ, List.filter_append, List.map_append]
  simp [h]
theorem HL_miss (h : hit L I c ln k = false) : HL L I c ln (k + 1) = HL L I c ln k := by
  unfold HL
  rw [List.range_succ, List.filter_append, List.map_append]
  simp [h]
theorem LA_hit (h : hit L I c ln k = true) : LA L I c ln (k + 1) = upd (LA L I c ln k) k 0 := by
  funext i
  unfold LA upd
  by_cases hi : i = k
  · subst hi; simp [h]
  · have : i < k + 1 ↔ i < k := by omega
    simp [hi, this]
theorem IA_hit (h : hit L I c ln k = true) : IA L I c ln (k + 1) = upd (IA L I c ln k) k false := by
  funext i
  unfold IA upd
  by_cases hi : i = k
  · subst hi; simp [h]
  · have : i < k + 1 ↔ i < k := by omega
    simp [hi, this]
theorem LA_miss (h : hit L I c ln k = false) : LA L I c ln (k + 1) = LA L I c ln k := by
  funext i
  unfold LA
  by_cases hi : i = k
  · subst hi; simp [h]
  · have : i < k + 1 ↔ i < k := by omega
    simp [this]
theorem IA_miss (h : hit L I c ln k = false) : IA L I c ln (k + 1) = IA L I c ln k := by
  funext i
  unfold IA
  by_cases hi : i = k
  · subst hi; simp [h]
  · have : i < k + 1 ↔ i < k := by omega
    simp [this]
theorem LA_zero : LA L I c ln 0 = L := by funext i; simp [LA]
theorem IA_zero : IA L I c ln 0 = I := by funext i; simp [IA]
end
theorem cs16_line {L : Nat → Int} {I : Nat → Bool} {k : Nat} (h : k < 8) : (cs16 L I)[k * 2]? = some (.int .u64 (L k)) := by
  rcases lt8 h with rfl | rfl | rfl | rfl | rfl | rfl | rfl | rfl <;> rfl
theorem cs16_is {L : Nat → Int} {I : Nat → Bool} {k : Nat} (h : k < 8) : (cs16 L I)[k * 2 + 1]? = some (.bool (I k)) := by
  rcases lt8 h with rfl | rfl | rfl | rfl | rfl | rfl | rfl | rfl <;> rfl
theorem cs16_set {L : Nat → Int} {I : Nat → Bool} {k : Nat} (h : k < 8) (l : Int) (i : Bool) :
    ((cs16 L I).setIfInBounds (k * 2) (.int .u64 l)).setIfInBounds (k * 2 + 1) (.bool i) = cs16 (upd L k l) (upd I k i) := by
  rcases lt8 h with rfl | rfl | rfl | rfl | rfl | rfl | rfl | rfl <;> rfl
theorem idx56 {L : Nat → Int} {I : Nat → Bool} {k : Nat} (h : k < 8) (W : World) :
    (Instr.index 56 (.agg (cs16 L I)) (.int .i64 (k : Int))).run Try.prog W = .ok (.agg #[.int .u64 (L k), .bool (I k)]) W := by
  rcases lt8 h with rfl | rfl | rfl | rfl | rfl | rfl | rfl | rfl <;> kernel_rfl
theorem Try.info3 : (Try.prog.info? 3).map (fun i => (i.zero, i.size, i.bytes)) = some (some (.int .i64 0), 1, 8) := by kernel_rfl

theorem blk17 {w : World} {b : Nat} {n : Int} {L L' : Nat → Int} {I I' : Nat → Bool} (h : Blk w b 58 (cs17 n L I)) : Blk ((((((((((((((((w.setCell ⟨b, 1, none⟩ (.int .u64 (L' 0))).setCell ⟨b, 2, none⟩ (.bool (I' 0))).setCell ⟨b, 3, none⟩ (.int .u64 (L' 1))).setCell ⟨b, 4, none⟩ (.bool (I' 1))).setCell ⟨b, 5, none⟩ (.int .u64 (L' 2))).setCell ⟨b, 6, none⟩ (.bool (I' 2))).setCell ⟨b, 7, none⟩ (.int .u64 (L' 3))).setCell ⟨b, 8, none⟩ (.bool (I' 3))).setCell ⟨b, 9, none⟩ (.int .u64 (L' 4))).setCell ⟨b, 10, none⟩ (.bool (I' 4))).setCell ⟨b, 11, none⟩ (.int .u64 (L' 5))).setCell ⟨b, 12, none⟩ (.bool (I' 5))).setCell ⟨b, 13, none⟩ (.int .u64 (L' 6))).setCell ⟨b, 14, none⟩ (.bool (I' 6))).setCell ⟨b, 15, none⟩ (.int .u64 (L' 7))).setCell ⟨b, 16, none⟩ (.bool (I' 7))) b 58 (cs17 n L' I') :=
  Blk.cast (Blk.set_ (Blk.set_ (Blk.set_ (Blk.set_ (Blk.set_ (Blk.set_ (Blk.set_ (Blk.set_ (Blk.set_ (Blk.set_ (Blk.set_ (Blk.set_ (Blk.set_ (Blk.set_ (Blk.set_ (Blk.set_ (h) _ _) _ _) _ _) _ _) _ _) _ _) _ _) _ _) _ _) _ _) _ _) _ _) _ _) _ _) _ _) _ _) (by kernel_rfl)
theorem fr17 {w : World} {b : Nat} {L' : Nat → Int} {I' : Nat → Bool} : Fr (One b) w ((((((((((((((((w.setCell ⟨b, 1, none⟩ (.int .u64 (L' 0))).setCell ⟨b, 2, none⟩ (.bool (I' 0))).setCell ⟨b, 3, none⟩ (.int .u64 (L' 1))).setCell ⟨b, 4, none⟩ (.bool (I' 1))).setCell ⟨b, 5, none⟩ (.int .u64 (L' 2))).setCell ⟨b, 6, none⟩ (.bool (I' 2))).setCell ⟨b, 7, none⟩ (.int .u64 (L' 3))).setCell ⟨b, 8, none⟩ (.bool (I' 3))).setCell ⟨b, 9, none⟩ (.int .u64 (L' 4))).setCell ⟨b, 10, none⟩ (.bool (I' 4))).setCell ⟨b, 11, none⟩ (.int .u64 (L' 5))).setCell ⟨b, 12, none⟩ (.bool (I' 5))).setCell ⟨b, 13, none⟩ (.int .u64 (L' 6))).setCell ⟨b, 14, none⟩ (.bool (I' 6))).setCell ⟨b, 15, none⟩ (.int .u64 (L' 7))).setCell ⟨b, 16, none⟩ (.bool (I' 7))) :=
  Fr.set1 (Fr.set1 (Fr.set1 (Fr.set1 (Fr.set1 (Fr.set1 (Fr.set1 (Fr.set1 (Fr.set1 (Fr.set1 (Fr.set1 (Fr.set1 (Fr.set1 (Fr.set1 (Fr.set1 (Fr.set1 (Fr.refl _ _) _) _) _) _) _) _) _) _) _) _) _) _) _) _) _) _

def WrotePost (w : World) (b : Nat) (n : Int) (L : Nat → Int) (I : Nat → Bool) (xs : List Int) (e : Ending) (w' : World) : Prop :=
  ∃ v, e = .returned (.tuple #[v, .int .i64 0]) ∧ w'.ownsRow w.heap.size 3 1 v xs.length (xs.map (Value.int .i64)) ∧ MonAt w' b n L I ∧ Fr (One b) w w'

set_option maxHeartbeats 1000000 in
set_option maxRecDepth 100000 in
theorem wrote_ok (b : Nat) (c n a : Int) (L : Nat → Int) (I : Nat → Bool) (w : World) (hm : MonAt w b n L I) (hc0 : 0 ≤ c) (hk : c < n) (hn8 : n ≤ 8) (ha : 0 ≤ a) (ha2 : a ≤ 18446744073709551615) :
    Calls Try.prog 12 #[.pointer (some ⟨b, 0, none⟩), .int .i64 c, .int .u64 a] w
      (WrotePost w b n (LA L I c (a / 64) 8) (IA L I c (a / 64) 8) (HL L I c (a / 64) 8)) := by
  obtain ⟨i0, hi, hz0, hz1, hz2⟩ := info_parts Try.info3
  have hb := Blk.lt hm
  have hn : w.cell? ⟨b, 0, none⟩ = some (.int .i64 n) := Blk.cellv hm rfl
  have d0 : w.cell? ⟨b, 1, none⟩ = some (.int .u64 (L 0)) := Blk.cellv hm rfl
  have d1 : w.cell? ⟨b, 2, none⟩ = some (.bool (I 0)) := Blk.cellv hm rfl
  have d2 : w.cell? ⟨b, 3, none⟩ = some (.int .u64 (L 1)) := Blk.cellv hm rfl
  have d3 : w.cell? ⟨b, 4, none⟩ = some (.bool (I 1)) := Blk.cellv hm rfl
  have d4 : w.cell? ⟨b, 5, none⟩ = some (.int .u64 (L 2)) := Blk.cellv hm rfl
  have d5 : w.cell? ⟨b, 6, none⟩ = some (.bool (I 2)) := Blk.cellv hm rfl
  have d6 : w.cell? ⟨b, 7, none⟩ = some (.int .u64 (L 3)) := Blk.cellv hm rfl
  have d7 : w.cell? ⟨b, 8, none⟩ = some (.bool (I 3)) := Blk.cellv hm rfl
  have d8 : w.cell? ⟨b, 9, none⟩ = some (.int .u64 (L 4)) := Blk.cellv hm rfl
  have d9 : w.cell? ⟨b, 10, none⟩ = some (.bool (I 4)) := Blk.cellv hm rfl
  have d10 : w.cell? ⟨b, 11, none⟩ = some (.int .u64 (L 5)) := Blk.cellv hm rfl
  have d11 : w.cell? ⟨b, 12, none⟩ = some (.bool (I 5)) := Blk.cellv hm rfl
  have d12 : w.cell? ⟨b, 13, none⟩ = some (.int .u64 (L 6)) := Blk.cellv hm rfl
  have d13 : w.cell? ⟨b, 14, none⟩ = some (.bool (I 6)) := Blk.cellv hm rfl
  have d14 : w.cell? ⟨b, 15, none⟩ = some (.int .u64 (L 7)) := Blk.cellv hm rfl
  have d15 : w.cell? ⟨b, 16, none⟩ = some (.bool (I 7)) := Blk.cellv hm rfl
  go_enter Try.func12, Try.ntmps12
  go_wp2
  go_loopw [8, 30] (fun v i wr => ∃ k : Nat, k ≤ 8 ∧ i = .int .i64 k ∧ wr.ownsRow w.heap.size 3 1 v (HL L I c (a / 64) k).length ((HL L I c (a / 64) k).map (Value.int .i64)) ∧
      Blk wr w.heap.size 56 (cs16 (LA L I c (a / 64) k) (IA L I c (a / 64) k)) ∧ Fr Nil w wr)
    (fun _ i _ => 8 - (intOf i).toNat)
  case atStart => exact ⟨0, by omega, rfl, World.ownsRow_nil _ _ _ _, by rw [LA_zero, IA_zero]; exact Blk.new _ _ _, (Fr.refl _ _).alloc _⟩
  case round =>
    obtain ⟨k, hk, rfl, hown, hnb, hfr⟩ := hrel
    clear d0 d1 d2 d3 d4 d5 d6 d7 d8 d9 d10 d11 d12 d13 d14 d15
    by_cases hlt : k < 8
    · have hix := idx56 (L := L) (I := I) hlt
      unfold cs16 at hix
      have hsz := hfr.size
      have hbl := Blk.lt hnb
      have c0 : wr.cell? ⟨w.heap.size, k * 2, none⟩ = some (.int .u64 (LA L I c (a / 64) k k)) := Blk.cellv hnb (cs16_line hlt)
      have c1 : wr.cell? ⟨w.heap.size, k * 2 + 1, none⟩ = some (.bool (IA L I c (a / 64) k k)) := Blk.cellv hnb (cs16_is hlt)
      have hf0 : wr.frozen? ⟨w.heap.size, k * 2, none⟩ = false := Blk.frozen hnb _
      have hf1 : wr.frozen? ⟨w.heap.size, k * 2 + 1, none⟩ = false := Blk.frozen hnb _
      have hlt' : (k : Int) < 8 := by omega
      have hne : u8.ownBlock ≠ some w.heap.size := own_blk_ne hown hnb (by decide)
      have hs : ∀ j, u8.ownBlock = some j → ¬ One w.heap.size j := fun j hj hx => hne (by rw [hj, hx])
      have hle := HL_le (L := L) (I := I) (c := c) (ln := a / 64) (k := k)
      go_wp2_with (at_builtin; go_loud (refine wpList_append_own _ rfl _ _ 23 rfl w.heap.size 3 i0 (.int .i64 0) 1 8 Try.underlying23 hi hz0 hz1 hz2 rfl (by decide) _ _ _ rfl (Fr.own hown (S := One w.heap.size) (Fr.alloc (Fr.alloc (Fr.set1 (Fr.set1 (Fr.refl _ _) _) _) _) _) hs) ⟨wr.heap.size + 1, 0, none⟩ 1 1 [.int .i64 k] rfl rfl ?c1 ?c2 ?c3 ?c4 ?c5 ?_))
      case c1 =>
        intro j u hj
        match j, hj with
        | 0, hj => simp at hj; subst hj; simp [Addr.add]; rw [World.cell?_alloc_at _ _ _ _ (by simp)]; rfl
      case c2 => intro u hu; simp at hu; subst hu; rfl
      case c3 => unfold maxLen; omega
      case c4 => omega
      case c5 => simp; omega
      · have e : (k : Int) = c := by assumption
        have hh : hit L I c (a / 64) k = false := by simp [hit, e]
        go_roundw
        case rel => exact ⟨k + 1, by omega, by rw [← e]; rfl, by rw [HL_miss hh]; exact hown.alloc _, by rw [LA_miss hh, IA_miss hh]; exact hnb.alloc _, hfr.alloc _⟩
        case measure => simp [intOf]; omega
      · have e : I k = false := by assumption
        have hh : hit L I c (a / 64) k = false := by simp [hit, e]
        go_roundw
        case rel => exact ⟨k + 1, by omega, rfl, by rw [HL_miss hh]; exact hown.alloc _, by rw [LA_miss hh, IA_miss hh]; exact hnb.alloc _, hfr.alloc _⟩
        case measure => simp [intOf]; omega
      · intro v' w1 hown' hgrow _
        have e1 : ¬ (k : Int) = c := by assumption
        have e2 : L k = a / 64 := by assumption
        have e3 : ¬ I k = false := by assumption
        have hh : hit L I c (a / 64) k = true := by simp [hit, e1, e2]; simpa using e3
        have R1 : w1.ownsRow w.heap.size 3 1 v' (HL L I c (a / 64) (k + 1)).length ((HL L I c (a / 64) (k + 1)).map (Value.int .i64)) := by
          rw [HL_hit hh]; simpa using hown'
        have R2 : Blk w1 w.heap.size 56 (cs16 (LA L I c (a / 64) (k + 1)) (IA L I c (a / 64) (k + 1))) := by
          rw [LA_hit hh, IA_hit hh, ← cs16_set hlt]
          exact Blk.grown (Blk.alloc (Blk.alloc (Blk.set_ (Blk.set_ hnb _ _) _ _) _) _) hgrow (Ne.symm hne)
        have R3 : Fr Nil w w1 := Fr.grown (Fr.alloc (Fr.alloc (Fr.setNew (Fr.setNew hfr (Nat.le_refl _) _) (Nat.le_refl _) _) _) _) hgrow (fun j hj => .inr (hown.lt j hj).1)
        clear hown' hgrow hown hnb hfr e2
        go_wp2
        go_roundw
        case rel => exact ⟨k + 1, by omega, rfl, R1, R2, R3⟩
        case measure => simp [intOf]; omega
      · have e : ¬ L k = a / 64 := by assumption
        have hh : hit L I c (a / 64) k = false := by simp [hit, e]
        go_roundw
        case rel => exact ⟨k + 1, by omega, rfl, by rw [HL_miss hh]; exact hown.alloc _, by rw [LA_miss hh, IA_miss hh]; exact hnb.alloc _, hfr.alloc _⟩
        case measure => simp [intOf]; omega
    · have hk8 : k = 8 := by omega
      subst hk8
      have hm' : Blk wr b 58 (cs17 n L I) := Blk.fr0 hm hfr
      have hbr := Blk.lt hm'
      have hbne : b ≠ w.heap.size := by omega
      have e0 : wr.cell? ⟨w.heap.size, 0, none⟩ = some (.int .u64 (LA L I c (a / 64) 8 0)) := Blk.cellv hnb rfl
      have f0 : wr.cell? ⟨b, 1, none⟩ = some (.int .u64 (L 0)) := Blk.cellv hm' rfl
      have z0 : wr.frozen? ⟨b, 1, none⟩ = false := Blk.frozen hm' _
      have e1 : wr.cell? ⟨w.heap.size, 1, none⟩ = some (.bool (IA L I c (a / 64) 8 0)) := Blk.cellv hnb rfl
      have f1 : wr.cell? ⟨b, 2, none⟩ = some (.bool (I 0)) := Blk.cellv hm' rfl
      have z1 : wr.frozen? ⟨b, 2, none⟩ = false := Blk.frozen hm' _
      have e2 : wr.cell? ⟨w.heap.size, 2, none⟩ = some (.int .u64 (LA L I c (a / 64) 8 1)) := Blk.cellv hnb rfl
      have f2 : wr.cell? ⟨b, 3, none⟩ = some (.int .u64 (L 1)) := Blk.cellv hm' rfl
      have z2 : wr.frozen? ⟨b, 3, none⟩ = false := Blk.frozen hm' _
      have e3 : wr.cell? ⟨w.heap.size, 3, none⟩ = some (.bool (IA L I c (a / 64) 8 1)) := Blk.cellv hnb rfl
      have f3 : wr.cell? ⟨b, 4, none⟩ = some (.bool (I 1)) := Blk.cellv hm' rfl
      have z3 : wr.frozen? ⟨b, 4, none⟩ = false := Blk.frozen hm' _
      have e4 : wr.cell? ⟨w.heap.size, 4, none⟩ = some (.int .u64 (LA L I c (a / 64) 8 2)) := Blk.cellv hnb rfl
      have f4 : wr.cell? ⟨b, 5, none⟩ = some (.int .u64 (L 2)) := Blk.cellv hm' rfl
      have z4 : wr.frozen? ⟨b, 5, none⟩ = false := Blk.frozen hm' _
      have e5 : wr.cell? ⟨w.heap.size, 5, none⟩ = some (.bool (IA L I c (a / 64) 8 2)) := Blk.cellv hnb rfl
      have f5 : wr.cell? ⟨b, 6, none⟩ = some (.bool (I 2)) := Blk.cellv hm' rfl
      have z5 : wr.frozen? ⟨b, 6, none⟩ = false := Blk.frozen hm' _
      have e6 : wr.cell? ⟨w.heap.size, 6, none⟩ = some (.int .u64 (LA L I c (a / 64) 8 3)) := Blk.cellv hnb rfl
      have f6 : wr.cell? ⟨b, 7, none⟩ = some (.int .u64 (L 3)) := Blk.cellv hm' rfl
      have z6 : wr.frozen? ⟨b, 7, none⟩ = false := Blk.frozen hm' _
      have e7 : wr.cell? ⟨w.heap.size, 7, none⟩ = some (.bool (IA L I c (a / 64) 8 3)) := Blk.cellv hnb rfl
      have f7 : wr.cell? ⟨b, 8, none⟩ = some (.bool (I 3)) := Blk.cellv hm' rfl
      have z7 : wr.frozen? ⟨b, 8, none⟩ = false := Blk.frozen hm' _
      have e8 : wr.cell? ⟨w.heap.size, 8, none⟩ = some (.int .u64 (LA L I c (a / 64) 8 4)) := Blk.cellv hnb rfl
      have f8 : wr.cell? ⟨b, 9, none⟩ = some (.int .u64 (L 4)) := Blk.cellv hm' rfl
      have z8 : wr.frozen? ⟨b, 9, none⟩ = false := Blk.frozen hm' _
      have e9 : wr.cell? ⟨w.heap.size, 9, none⟩ = some (.bool (IA L I c (a / 64) 8 4)) := Blk.cellv hnb rfl
      have f9 : wr.cell? ⟨b, 10, none⟩ = some (.bool (I 4)) := Blk.cellv hm' rfl
      have z9 : wr.frozen? ⟨b, 10, none⟩ = false := Blk.frozen hm' _
      have e10 : wr.cell? ⟨w.heap.size, 10, none⟩ = some (.int .u64 (LA L I c (a / 64) 8 5)) := Blk.cellv hnb rfl
      have f10 : wr.cell? ⟨b, 11, none⟩ = some (.int .u64 (L 5)) := Blk.cellv hm' rfl
      have z10 : wr.frozen? ⟨b, 11, none⟩ = false := Blk.frozen hm' _
      have e11 : wr.cell? ⟨w.heap.size, 11, none⟩ = some (.bool (IA L I c (a / 64) 8 5)) := Blk.cellv hnb rfl
      have f11 : wr.cell? ⟨b, 12, none⟩ = some (.bool (I 5)) := Blk.cellv hm' rfl
      have z11 : wr.frozen? ⟨b, 12, none⟩ = false := Blk.frozen hm' _
      have e12 : wr.cell? ⟨w.heap.size, 12, none⟩ = some (.int .u64 (LA L I c (a / 64) 8 6)) := Blk.cellv hnb rfl
      have f12 : wr.cell? ⟨b, 13, none⟩ = some (.int .u64 (L 6)) := Blk.cellv hm' rfl
      have z12 : wr.frozen? ⟨b, 13, none⟩ = false := Blk.frozen hm' _
      have e13 : wr.cell? ⟨w.heap.size, 13, none⟩ = some (.bool (IA L I c (a / 64) 8 6)) := Blk.cellv hnb rfl
      have f13 : wr.cell? ⟨b, 14, none⟩ = some (.bool (I 6)) := Blk.cellv hm' rfl
      have z13 : wr.frozen? ⟨b, 14, none⟩ = false := Blk.frozen hm' _
      have e14 : wr.cell? ⟨w.heap.size, 14, none⟩ = some (.int .u64 (LA L I c (a / 64) 8 7)) := Blk.cellv hnb rfl
      have f14 : wr.cell? ⟨b, 15, none⟩ = some (.int .u64 (L 7)) := Blk.cellv hm' rfl
      have z14 : wr.frozen? ⟨b, 15, none⟩ = false := Blk.frozen hm' _
      have e15 : wr.cell? ⟨w.heap.size, 15, none⟩ = some (.bool (IA L I c (a / 64) 8 7)) := Blk.cellv hnb rfl
      have f15 : wr.cell? ⟨b, 16, none⟩ = some (.bool (I 7)) := Blk.cellv hm' rfl
      have z15 : wr.frozen? ⟨b, 16, none⟩ = false := Blk.frozen hm' _
      have hs2 : ∀ j, u8.ownBlock = some j → ¬ One b j := fun j hj hx => own_blk_ne hown hm' (by decide) (by rw [hj, hx])
      go_wp2
      go_ret2
      refine ⟨_, rfl, ?_, ?_, ?_⟩
      · exact Fr.own hown (S := One b) fr17 hs2
      · exact blk17 hm'
      · exact hfr.nil.trans fr17
end Go.Proofs.Ytffjembeimpdmaa
