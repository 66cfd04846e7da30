/- A relation in memory. -/
import Derived.Test.YtpcpjmbfinpmlaaDoorProg
import Derived.Test.YtpcpjmbfinpmlaaDoorRb
import Derived.Test.YtpcpjmbfinpmlaaDoorRws
set_option linter.unusedSimpArgs false
set_option linter.unusedVariables false
set_option linter.unusedSectionVars false
namespace Go.Proofs.YtpcpjmbfinpmlaaDoor
open Go.RowKit
set_option maxRecDepth 100000

abbrev Rn := Nat → Nat → Bool
def rws (r : Rn) : List Value := (List.range 64).map fun a => .int .u64 (bw (r a) : Int)
def rcs (n : Nat) (r : Rn) : List Value := .int .i64 (n : Int) :: rws r
/-- A relation lies in a block. -/
structure RelAt (w : World) (b n : Nat) (r : Rn) : Prop where
  blk : Blk w b 68 (rcs n r).toArray
  n64 : n ≤ 64
  ok : ∀ a c, r a c = true → a < n ∧ c < n
theorem rws_length (r : Rn) : (rws r).length = 64 := by simp [rws]
theorem rcs_length (n : Nat) (r : Rn) : (rcs n r).length = 65 := by simp [rcs, rws]
theorem rcs_get (n : Nat) (r : Rn) {a : Nat} (h : a < 64) : (rcs n r)[1 + a]? = some (.int .u64 (bw (r a) : Int)) := by
  rw [Nat.add_comm]
  simp [rcs, rws, h]
theorem rws_set (r : Rn) {a : Nat} (h : a < 64) (f : Nat → Bool) : (rws r).set a (.int .u64 (bw f : Int)) = rws (upd r a f) := by
  apply List.ext_getElem (by simp [rws])
  intro i h1 h2
  simp [rws] at h1
  by_cases e : i = a
  · subst e
    simp [rws, upd]
  · rw [List.getElem_set_ne (by omega)]
    simp [rws, upd, e]
theorem rcs_set (n : Nat) (r : Rn) {a : Nat} (h : a < 64) (f : Nat → Bool) : (rcs n r).set (1 + a) (.int .u64 (bw f : Int)) = rcs n (upd r a f) := by
  rw [Nat.add_comm, rcs, List.set_cons_succ, rws_set r h]
  rfl
section
variable {w w' : World} {b n : Nat} {r : Rn}
theorem RelAt.fr {S : Nat → Prop} (h : RelAt w b n r) (hf : Fr S w w') (hs : ¬ S b) : RelAt w' b n r := ⟨h.blk.fr hf hs, h.n64, h.ok⟩
theorem RelAt.fr0 (h : RelAt w b n r) (hf : Fr Nil w w') : RelAt w' b n r := h.fr hf id
theorem RelAt.lt (h : RelAt w b n r) : b < w.heap.size := h.blk.lt
theorem RelAt.n_c (h : RelAt w b n r) : w.cell? ⟨b, 0, none⟩ = some (.int .i64 (n : Int)) := h.blk.cellv (by simp [rcs])
theorem RelAt.row_c (h : RelAt w b n r) {a : Nat} (ha : a < 64) : w.cell? ⟨b, 1 + a, none⟩ = some (.int .u64 (bw (r a) : Int)) := h.blk.cellv (by rw [List.getElem?_toArray, rcs_get n r ha])
theorem blk_list {w : World} {g : Nat} {t : TypeId} {l l' : List Value} {o : Nat} {u : Value} (h : Blk w g t l.toArray) (e : l.set o u = l') : Blk (w.setCell ⟨g, o, none⟩ u) g t l'.toArray := by
  have := h.set_ o u
  rw [List.setIfInBounds_toArray, e] at this
  exact this
theorem RelAt.set_ (h : RelAt w b n r) {a : Nat} (ha : a < n) {f : Nat → Bool} (hf : ∀ c, f c = true → c < n) : RelAt (w.setCell ⟨b, 1 + a, none⟩ (.int .u64 (bw f : Int))) b n (upd r a f) :=
  ⟨blk_list h.blk (rcs_set n r (by have := h.n64; omega) f), h.n64, fun i c hi => by
    by_cases e : i = a
    · subst e
      rw [upd_same] at hi
      exact ⟨ha, hf c hi⟩
    · rw [upd_other _ _ e] at hi
      exact h.ok i c hi⟩
end
/-- Is it a thing? -/
def inB (n : Nat) (a : Int) : Bool := decide (0 ≤ a) && decide (a < (n : Int))
theorem inB_nat {n : Nat} {a : Int} (h : inB n a = true) : ∃ k : Nat, a = (k : Int) ∧ k < n := by
  simp only [inB, Bool.and_eq_true, decide_eq_true_eq] at h
  exact ⟨a.toNat, by omega, by omega⟩
theorem inB_of {n a : Nat} (h : a < n) : inB n (a : Int) = true := by simp [inB]; omega
theorem is_ok (b n : Nat) (r : Rn) (a : Int) (w : World) (h : RelAt w b n r) : Calls Tryd.prog 43 #[.pointer (some ⟨b, 0, none⟩), .int .i64 a] w fun e w' => e = .returned (.bool (inB n a)) ∧ w = w' := by
  have c0 := h.n_c
  have n64 : (n : Int) ≤ 64 := by have := h.n64; omega
  have E : inB n a = (decide (0 ≤ a) && decide (a < (n : Int))) := rfl
  have HE := Lib.hid E
  clear E h
  generalize inB n a = q at *
  go_enter Tryd.func43, Tryd.ntmps43
  go_wp2
  all_goals
    go_ret
    rw [HE.out]
    exact ⟨by simp [*] <;> omega, rfl⟩
def has (n : Nat) (r : Rn) (a c : Int) : Bool := inB n a && inB n c && r a.toNat c.toNat
theorem has_nat {n : Nat} {r : Rn} (h : ∀ a c, r a c = true → a < n ∧ c < n) (a c : Nat) : has n r (a : Int) (c : Int) = r a c := by
  unfold has
  rw [Int.toNat_natCast, Int.toNat_natCast]
  cases hr : r a c
  · simp
  · have := h a c hr
    rw [inB_of this.1, inB_of this.2]
    rfl
set_option maxHeartbeats 1000000 in
theorem has_ok (b n : Nat) (r : Rn) (a c : Int) (w : World) (h : RelAt w b n r) : Calls Tryd.prog 9 #[.pointer (some ⟨b, 0, none⟩), .int .i64 a, .int .i64 c] w fun e w' => e = .returned (.bool (has n r a c)) ∧ w = w' := by
  have IA := Lib.hid (is_ok b n r a w h)
  have IC := Lib.hid (is_ok b n r c w h)
  cases ha : inB n a
  · have E : has n r a c = false := by unfold has; rw [ha]; rfl
    rw [E]
    rw [ha] at IA
    clear E h ha
    go_enter Tryd.func9, Tryd.ntmps9
    go_wp2_with (go_at_call 43; refine IA.out.mono ?_; rintro e w2 ⟨rfl, rfl⟩)
    go_ret
    exact ⟨rfl, rfl⟩
  · cases hc : inB n c
    · have E : has n r a c = false := by unfold has; rw [ha, hc]; rfl
      rw [E]
      rw [ha] at IA
      rw [hc] at IC
      clear E h ha hc
      go_enter Tryd.func9, Tryd.ntmps9
      go_wp2_with fail
      refine IA.out.mono ?_
      rintro e w2 ⟨rfl, rfl⟩
      go_wp2_with fail
      refine IC.out.mono ?_
      rintro e w2 ⟨rfl, rfl⟩
      go_wp2_with fail
      go_ret
      exact ⟨rfl, rfl⟩
    · obtain ⟨a, rfl, ha'⟩ := inB_nat ha
      obtain ⟨c, rfl, hc'⟩ := inB_nat hc
      have E : has n r (a : Int) (c : Int) = r a c := has_nat h.ok a c
      rw [E]
      rw [ha] at IA
      rw [hc] at IC
      have n64 := h.n64
      have c1 := h.row_c (a := a) (by omega)
      have BG := bw_get (r a) (b := c) (by omega)
      have a64 : (a : Int) < 64 := by omega
      have c64 : (c : Int) < 64 := by omega
      clear E h ha hc ha' hc' n64
      generalize r a c = q at *
      generalize (bw (r a) : Int) = x at *
      go_enter Tryd.func9, Tryd.ntmps9
      go_wp2_with fail
      refine IA.out.mono ?_
      rintro e w2 ⟨rfl, rfl⟩
      go_wp2_with fail
      refine IC.out.mono ?_
      rintro e w2 ⟨rfl, rfl⟩
      go_wp2_with fail
      go_ret
      exact ⟨by first | rfl | simp [BG] | (rw [← BG]), rfl⟩
end Go.Proofs.YtpcpjmbfinpmlaaDoor
