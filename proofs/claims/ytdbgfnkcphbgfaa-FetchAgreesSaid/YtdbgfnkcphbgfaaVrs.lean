/- Chapter 15: versions in memory; what the closures of versions do with each. -/
import Derived.Test.YtdbgfnkcphbgfaaAll
namespace Go.Proofs.Ytdbgfnkcphbgfaa
open Go.RowKit
set_option linter.unusedVariables false

def vcells (v : V) : List Value := [.int .u32 v.w, .bool v.o, .bool v.t, .bool v.l]
def vcs (l : List V) : List Value := l.flatMap vcells
theorem vcs_cons (v : V) (l : List V) : vcs (v :: l) = vcells v ++ vcs l := by simp [vcs]
theorem vcs_length (l : List V) : (vcs l).length = l.length * 4 := by
  induction l with
  | nil => rfl
  | cons n l ih => rw [vcs_cons, List.length_append, ih, List.length_cons]; simp [vcells]; omega
theorem vcs_append (a b : List V) : vcs (a ++ b) = vcs a ++ vcs b := by simp [vcs]
theorem vcs_get {l : List V} {i : Nat} {v : V} (h : l[i]? = some v) {j : Nat} (hj : j < 4) : (vcs l)[i * 4 + j]? = (vcells v)[j]? := by
  induction l generalizing i with
  | nil => simp at h
  | cons m l ih =>
    rw [vcs_cons]
    cases i with
    | zero =>
      simp only [List.getElem?_cons_zero, Option.some.injEq] at h
      subst h
      rw [Nat.zero_mul, Nat.zero_add, List.getElem?_append_left (by simpa [vcells] using hj)]
    | succ i =>
      rw [List.getElem?_cons_succ] at h
      rw [List.getElem?_append_right (by simp [vcells]; omega)]
      have e : (i + 1) * 4 + j - (vcells m).length = i * 4 + j := by simp [vcells]; omega
      rw [e]
      exact ih h
theorem vcs_set {l : List V} {i j : Nat} {v v' : V} {u : Value} (h : l[i]? = some v) (hj : j < 4) (he : (vcells v).set j u = vcells v') : (vcs l).set (i * 4 + j) u = vcs (l.set i v') := by
  induction l generalizing i with
  | nil => simp at h
  | cons m l ih =>
    cases i with
    | zero =>
      simp only [List.getElem?_cons_zero, Option.some.injEq] at h
      subst h
      rw [List.set_cons_zero, vcs_cons, vcs_cons, Nat.zero_mul, Nat.zero_add, List.set_append_left _ _ (by simpa [vcells] using hj), he]
    | succ i =>
      rw [List.getElem?_cons_succ] at h
      rw [List.set_cons_succ, vcs_cons, vcs_cons, List.set_append_right _ _ (by simp [vcells]; omega)]
      have e : (i + 1) * 4 + j - (vcells m).length = i * 4 + j := by simp [vcells]; omega
      rw [e, ih h]
/-- The first k have turned. -/
def part (f : V → V) (vs : List V) (k : Nat) : List V := (vs.take k).map f ++ vs.drop k
theorem part_len (f : V → V) (vs : List V) (k : Nat) : (part f vs k).length = vs.length := by simp [part]; omega
theorem part_get (f : V → V) (vs : List V) (k : Nat) (hk : k < vs.length) : (part f vs k)[k]? = some vs[k] := by
  have hl : ((vs.take k).map f).length = k := by simp; omega
  rw [part, List.getElem?_append_right (by omega), hl, List.getElem?_drop, Nat.sub_self, Nat.add_zero, List.getElem?_eq_getElem hk]
theorem part_succ (f : V → V) (vs : List V) (k : Nat) (hk : k < vs.length) : (part f vs k).set k (f vs[k]) = part f vs (k + 1) := by
  have hl : ((vs.take k).map f).length = k := by simp; omega
  rw [part, part, List.set_append_right _ _ (by omega), hl, Nat.sub_self, List.take_succ_eq_append_getElem hk, List.map_append, List.append_assoc, List.drop_eq_getElem_cons hk]
  rfl
theorem part_zero (f : V → V) (vs : List V) : part f vs 0 = vs := by simp [part]
theorem part_all (f : V → V) (vs : List V) : part f vs vs.length = vs.map f := by simp [part]

set_option maxHeartbeats 1000000 in
theorem one23 (v : V) (g o : Nat) (w : World) (c0 : w.cell? ⟨g, o + 1, none⟩ = some (.bool v.o)) (hf : w.frozen? ⟨g, o + 1, none⟩ = false) :
    Calls Try.prog 23 #[.pointer (some ⟨g, o, none⟩)] w fun e w' => e = .returned (.tuple #[]) ∧ w.setCell ⟨g, o + 1, none⟩ (.bool true) = w' := by
  go_enter Try.func23, Try.ntmps23
  go_wp2
  go_end0
  exact ⟨rfl, rfl⟩

set_option maxHeartbeats 1000000 in
theorem each23 (vs : List V) (B g off cap : Nat) (w : World) (hl : vs.length ≤ maxLen) (hB : Blk w B 52 #[.slice (some ⟨g, off, none⟩) vs.length cap]) (hw : Win w 51 4 (.slice (some ⟨g, off, none⟩) vs.length cap) vs.length (vcs vs)) :
    Calls Try.prog 22 #[.func (.func 23) #[] #[], .pointer (some ⟨B, 0, none⟩)] w fun e w' => e = .returned (.tuple #[]) ∧ Fr (One g) w w' ∧ Win w' 51 4 (.slice (some ⟨g, off, none⟩) vs.length cap) vs.length (vcs (vs.map V.over)) := by
  unfold maxLen at hl
  have hne : B ≠ g := fun e => (hw.ne hB (by decide)) (by rw [e]; rfl)
  have HB := Lib.hid hB
  have cB : w.cell? ⟨B, 0, none⟩ = some (.slice (some ⟨g, off, none⟩) vs.length cap) := hB.cellv rfl
  have HW : Hid (Win w 51 4 (.slice (some ⟨g, off, none⟩) vs.length cap) vs.length (vcs (part V.over vs 0))) := Lib.hid (by rw [part_zero]; exact hw)
  clear hw hB
  go_enter Try.func22, Try.ntmps22
  go_wp2
  clear cB
  go_loopw [6] (fun i wr => ∃ k : Nat, k ≤ vs.length ∧ i = .int .i64 (k : Int) ∧ Hid (Win wr 51 4 (.slice (some ⟨g, off, none⟩) vs.length cap) vs.length (vcs (part V.over vs k))) ∧ Fr (One g) w wr) (fun i _ => vs.length - (intOf i).toNat)
  case atStart => exact ⟨0, Nat.zero_le _, rfl, HW, Fr.refl _ _⟩
  case round =>
    obtain ⟨k, hk, rfl, hw, hf⟩ := hrel
    have cB : wr.cell? ⟨B, 0, none⟩ = some (.slice (some ⟨g, off, none⟩) vs.length cap) := (HB.out.fr1 hf hne).cellv rfl
    by_cases hlt : k < vs.length
    · have hg := part_get V.over vs k hlt
      have d1 : wr.cell? ⟨g, off + k * 4 + 1, none⟩ = some (.bool vs[k].o) := by rw [Nat.add_assoc]; exact hw.out.cellAt (by rw [vcs_get hg (by omega)]; rfl)
      have d2 : wr.cell? ⟨g, off + k * 4 + 2, none⟩ = some (.bool vs[k].t) := by rw [Nat.add_assoc]; exact hw.out.cellAt (by rw [vcs_get hg (by omega)]; rfl)
      have d3 : wr.cell? ⟨g, off + k * 4 + 3, none⟩ = some (.bool vs[k].l) := by rw [Nat.add_assoc]; exact hw.out.cellAt (by rw [vcs_get hg (by omega)]; rfl)
      have fz : wr.frozen? ⟨g, off + k * 4 + 1, none⟩ = false := by
        obtain ⟨g', off', cap', hv, _, _, _, _, hfz⟩ := hw.out.form (by omega)
        cases hv
        exact hfz _
      have one := Lib.hid (one23 vs[k] g (off + k * 4) wr d1 fz)
      have hs : Hid (Win (wr.setCell ⟨g, off + (k * 4 + 1), none⟩ (.bool true)) 51 4 (.slice (some ⟨g, off, none⟩) vs.length cap) vs.length (vcs (part V.over vs (k + 1)))) := by
        refine Lib.hid ?_
        have := hw.out.set_ (k * 4 + 1) (.bool true)
        rw [vcs_set hg (by omega) (v' := V.over vs[k]) rfl, part_succ _ _ _ hlt] at this
        exact this
      clear d1 d2 d3 fz hg
      go_wp2_with (go_at_call 23; refine one.out.mono ?_; rintro e w' ⟨rfl, rfl⟩)
      go_roundw
      case rel => exact ⟨k + 1, by omega, by go_num, hs, hf.set1 _⟩
      case measure => simp [intOf]; omega
    · have hk' : k = vs.length := by omega
      subst hk'
      have hd : decide (vs.length < vs.length) = false := by simp
      go_wp2
      go_end0
      have := hw.out
      rw [part_all] at this
      exact ⟨rfl, hf, this⟩

set_option maxHeartbeats 1000000 in
theorem one24 (v : V) (g o : Nat) (w : World) (c1 : w.cell? ⟨g, o + 1, none⟩ = some (.bool v.o)) (c0 : w.cell? ⟨g, o + 2, none⟩ = some (.bool v.t)) (hf : w.frozen? ⟨g, o + 2, none⟩ = false) :
    Calls Try.prog 24 #[.pointer (some ⟨g, o, none⟩)] w fun e w' => e = .returned (.tuple #[]) ∧ w.setCell ⟨g, o + 2, none⟩ (.bool v.o) = w' := by
  go_enter Try.func24, Try.ntmps24
  go_wp2
  go_end0
  exact ⟨rfl, rfl⟩

set_option maxHeartbeats 1000000 in
theorem each24 (vs : List V) (B g off cap : Nat) (w : World) (hl : vs.length ≤ maxLen) (hB : Blk w B 52 #[.slice (some ⟨g, off, none⟩) vs.length cap]) (hw : Win w 51 4 (.slice (some ⟨g, off, none⟩) vs.length cap) vs.length (vcs vs)) :
    Calls Try.prog 22 #[.func (.func 24) #[] #[], .pointer (some ⟨B, 0, none⟩)] w fun e w' => e = .returned (.tuple #[]) ∧ Fr (One g) w w' ∧ Win w' 51 4 (.slice (some ⟨g, off, none⟩) vs.length cap) vs.length (vcs (vs.map V.told)) := by
  unfold maxLen at hl
  have hne : B ≠ g := fun e => (hw.ne hB (by decide)) (by rw [e]; rfl)
  have HB := Lib.hid hB
  have cB : w.cell? ⟨B, 0, none⟩ = some (.slice (some ⟨g, off, none⟩) vs.length cap) := hB.cellv rfl
  have HW : Hid (Win w 51 4 (.slice (some ⟨g, off, none⟩) vs.length cap) vs.length (vcs (part V.told vs 0))) := Lib.hid (by rw [part_zero]; exact hw)
  clear hw hB
  go_enter Try.func22, Try.ntmps22
  go_wp2
  clear cB
  go_loopw [6] (fun i wr => ∃ k : Nat, k ≤ vs.length ∧ i = .int .i64 (k : Int) ∧ Hid (Win wr 51 4 (.slice (some ⟨g, off, none⟩) vs.length cap) vs.length (vcs (part V.told vs k))) ∧ Fr (One g) w wr) (fun i _ => vs.length - (intOf i).toNat)
  case atStart => exact ⟨0, Nat.zero_le _, rfl, HW, Fr.refl _ _⟩
  case round =>
    obtain ⟨k, hk, rfl, hw, hf⟩ := hrel
    have cB : wr.cell? ⟨B, 0, none⟩ = some (.slice (some ⟨g, off, none⟩) vs.length cap) := (HB.out.fr1 hf hne).cellv rfl
    by_cases hlt : k < vs.length
    · have hg := part_get V.told vs k hlt
      have d1 : wr.cell? ⟨g, off + k * 4 + 1, none⟩ = some (.bool vs[k].o) := by rw [Nat.add_assoc]; exact hw.out.cellAt (by rw [vcs_get hg (by omega)]; rfl)
      have d2 : wr.cell? ⟨g, off + k * 4 + 2, none⟩ = some (.bool vs[k].t) := by rw [Nat.add_assoc]; exact hw.out.cellAt (by rw [vcs_get hg (by omega)]; rfl)
      have d3 : wr.cell? ⟨g, off + k * 4 + 3, none⟩ = some (.bool vs[k].l) := by rw [Nat.add_assoc]; exact hw.out.cellAt (by rw [vcs_get hg (by omega)]; rfl)
      have fz : wr.frozen? ⟨g, off + k * 4 + 2, none⟩ = false := by
        obtain ⟨g', off', cap', hv, _, _, _, _, hfz⟩ := hw.out.form (by omega)
        cases hv
        exact hfz _
      have one := Lib.hid (one24 vs[k] g (off + k * 4) wr d1 d2 fz)
      have hs : Hid (Win (wr.setCell ⟨g, off + (k * 4 + 2), none⟩ (.bool vs[k].o)) 51 4 (.slice (some ⟨g, off, none⟩) vs.length cap) vs.length (vcs (part V.told vs (k + 1)))) := by
        refine Lib.hid ?_
        have := hw.out.set_ (k * 4 + 2) (.bool vs[k].o)
        rw [vcs_set hg (by omega) (v' := V.told vs[k]) rfl, part_succ _ _ _ hlt] at this
        exact this
      clear d1 d2 d3 fz hg
      go_wp2_with (go_at_call 24; refine one.out.mono ?_; rintro e w' ⟨rfl, rfl⟩)
      go_roundw
      case rel => exact ⟨k + 1, by omega, by go_num, hs, hf.set1 _⟩
      case measure => simp [intOf]; omega
    · have hk' : k = vs.length := by omega
      subst hk'
      have hd : decide (vs.length < vs.length) = false := by simp
      go_wp2
      go_end0
      have := hw.out
      rw [part_all] at this
      exact ⟨rfl, hf, this⟩

set_option maxHeartbeats 1000000 in
theorem one25 (v : V) (g o : Nat) (w : World) (c3 : w.cell? ⟨g, o + 3, none⟩ = some (.bool v.l)) (c2 : w.cell? ⟨g, o + 2, none⟩ = some (.bool v.t)) (hf : w.frozen? ⟨g, o + 3, none⟩ = false) :
    Calls Try.prog 25 #[.pointer (some ⟨g, o, none⟩)] w fun e w' => e = .returned (.tuple #[]) ∧ w.setCell ⟨g, o + 3, none⟩ (.bool (v.l || v.t)) = w' := by
  obtain ⟨vw, vo, vt, vl⟩ := v
  cases vl <;> cases vt
  all_goals
    dsimp only at c2 c3
    go_enter Try.func25, Try.ntmps25
    go_wp2
    go_end0
    exact ⟨rfl, rfl⟩

set_option maxHeartbeats 1000000 in
theorem each25 (vs : List V) (B g off cap : Nat) (w : World) (hl : vs.length ≤ maxLen) (hB : Blk w B 52 #[.slice (some ⟨g, off, none⟩) vs.length cap]) (hw : Win w 51 4 (.slice (some ⟨g, off, none⟩) vs.length cap) vs.length (vcs vs)) :
    Calls Try.prog 22 #[.func (.func 25) #[] #[], .pointer (some ⟨B, 0, none⟩)] w fun e w' => e = .returned (.tuple #[]) ∧ Fr (One g) w w' ∧ Win w' 51 4 (.slice (some ⟨g, off, none⟩) vs.length cap) vs.length (vcs (vs.map V.lose)) := by
  unfold maxLen at hl
  have hne : B ≠ g := fun e => (hw.ne hB (by decide)) (by rw [e]; rfl)
  have HB := Lib.hid hB
  have cB : w.cell? ⟨B, 0, none⟩ = some (.slice (some ⟨g, off, none⟩) vs.length cap) := hB.cellv rfl
  have HW : Hid (Win w 51 4 (.slice (some ⟨g, off, none⟩) vs.length cap) vs.length (vcs (part V.lose vs 0))) := Lib.hid (by rw [part_zero]; exact hw)
  clear hw hB
  go_enter Try.func22, Try.ntmps22
  go_wp2
  clear cB
  go_loopw [6] (fun i wr => ∃ k : Nat, k ≤ vs.length ∧ i = .int .i64 (k : Int) ∧ Hid (Win wr 51 4 (.slice (some ⟨g, off, none⟩) vs.length cap) vs.length (vcs (part V.lose vs k))) ∧ Fr (One g) w wr) (fun i _ => vs.length - (intOf i).toNat)
  case atStart => exact ⟨0, Nat.zero_le _, rfl, HW, Fr.refl _ _⟩
  case round =>
    obtain ⟨k, hk, rfl, hw, hf⟩ := hrel
    have cB : wr.cell? ⟨B, 0, none⟩ = some (.slice (some ⟨g, off, none⟩) vs.length cap) := (HB.out.fr1 hf hne).cellv rfl
    by_cases hlt : k < vs.length
    · have hg := part_get V.lose vs k hlt
      have d1 : wr.cell? ⟨g, off + k * 4 + 1, none⟩ = some (.bool vs[k].o) := by rw [Nat.add_assoc]; exact hw.out.cellAt (by rw [vcs_get hg (by omega)]; rfl)
      have d2 : wr.cell? ⟨g, off + k * 4 + 2, none⟩ = some (.bool vs[k].t) := by rw [Nat.add_assoc]; exact hw.out.cellAt (by rw [vcs_get hg (by omega)]; rfl)
      have d3 : wr.cell? ⟨g, off + k * 4 + 3, none⟩ = some (.bool vs[k].l) := by rw [Nat.add_assoc]; exact hw.out.cellAt (by rw [vcs_get hg (by omega)]; rfl)
      have fz : wr.frozen? ⟨g, off + k * 4 + 3, none⟩ = false := by
        obtain ⟨g', off', cap', hv, _, _, _, _, hfz⟩ := hw.out.form (by omega)
        cases hv
        exact hfz _
      have one := Lib.hid (one25 vs[k] g (off + k * 4) wr d3 d2 fz)
      have hs : Hid (Win (wr.setCell ⟨g, off + (k * 4 + 3), none⟩ (.bool (vs[k].l || vs[k].t))) 51 4 (.slice (some ⟨g, off, none⟩) vs.length cap) vs.length (vcs (part V.lose vs (k + 1)))) := by
        refine Lib.hid ?_
        have := hw.out.set_ (k * 4 + 3) (.bool (vs[k].l || vs[k].t))
        rw [vcs_set hg (by omega) (v' := V.lose vs[k]) rfl, part_succ _ _ _ hlt] at this
        exact this
      clear d1 d2 d3 fz hg
      go_wp2_with (go_at_call 25; refine one.out.mono ?_; rintro e w' ⟨rfl, rfl⟩)
      go_roundw
      case rel => exact ⟨k + 1, by omega, by go_num, hs, hf.set1 _⟩
      case measure => simp [intOf]; omega
    · have hk' : k = vs.length := by omega
      subst hk'
      have hd : decide (vs.length < vs.length) = false := by simp
      go_wp2
      go_end0
      have := hw.out
      rw [part_all] at this
      exact ⟨rfl, hf, this⟩

end Go.Proofs.Ytdbgfnkcphbgfaa

