/- New and Add. -/
import Derived.Test.YtpcpjmbfinpmlaaDoorRl
import Derived.StillTailTactics
set_option linter.unusedSimpArgs false
set_option linter.unusedVariables false
set_option linter.unusedSectionVars false
namespace Go.Proofs.YtpcpjmbfinpmlaaDoor
open Go.RowKit
set_option maxRecDepth 100000

def noR : Rn := fun _ _ => false
def NewTo (w : World) (n : Nat) (e : Ending) (w' : World) : Prop := ∃ b, e = .returned (.tuple #[.pointer (some ⟨b, 0, none⟩), .int .i64 0]) ∧ RelAt w' b n noR ∧ Fr Nil w w' ∧ w.heap.size ≤ b
theorem new_bad (z : Int) (w : World) (h : z < 0 ∨ 64 < z) : Calls Tryd.prog 39 #[.int .i64 z] w fun e w' => e = .returned (.tuple #[.pointer none, .int .i64 (if z < 0 then 1 else 5)]) ∧ w = w' := by
  by_cases h1 : z < 0
  · rw [if_pos h1]
    clear h
    go_enter Tryd.func39, Tryd.ntmps39
    go_wp2
    go_ret2
    exact ⟨rfl, rfl⟩
  · rw [if_neg h1]
    have h2 : 64 < z := by omega
    clear h
    go_enter Tryd.func39, Tryd.ntmps39
    go_wp2
    go_ret2
    exact ⟨rfl, rfl⟩
theorem rcs_zero (n : Nat) : (Tryd.zeroCells68.setIfInBounds 0 (.int .i64 (n : Int))) = (rcs n noR).toArray := by
  have e : Tryd.zeroCells68 = (.int .i64 0 :: (List.range 64).map fun _ => Value.int .u64 0).toArray := by kernel_rfl
  have z : bw (noR 0) = 0 := bw_zero
  rw [e, List.setIfInBounds_toArray, List.set_cons_zero]
  unfold rcs rws
  congr 2
theorem new_ok (n : Nat) (w : World) (h : n ≤ 64) : Calls Tryd.prog 39 #[.int .i64 (n : Int)] w (NewTo w n) := by
  have h2 : (n : Int) ≤ 64 := by omega
  have BN := Lib.hid (show RelAt (w.alloc (.cells (Tryd.zeroCells68.setIfInBounds 0 (.int .i64 (n : Int))) 68)) w.heap.size n noR from ⟨by rw [rcs_zero]; exact Blk.new w 68 _, h, fun a c hh => by cases hh⟩)
  have FN := Lib.hid ((Fr.refl Nil w).alloc (.cells (Tryd.zeroCells68.setIfInBounds 0 (.int .i64 (n : Int))) 68))
  clear h
  go_enter Tryd.func39, Tryd.ntmps39
  go_wp2
  go_ret2
  exact ⟨_, rfl, BN.out, FN.out, Nat.le_refl _⟩
/-- One pair more. -/
def addR (r : Rn) (a c : Nat) : Rn := upd r a (upd (r a) c true)
theorem addR_eq (r : Rn) (a c i j : Nat) : addR r a c i j = (r i j || (decide (i = a) && decide (j = c))) := by
  unfold addR upd
  by_cases h1 : i = a
  · subst h1
    by_cases h2 : j = c <;> simp [h2]
  · simp [h1]
def AddTo (w : World) (b n : Nat) (r : Rn) (e : Ending) (w' : World) : Prop := e = .returned (.int .i64 0) ∧ RelAt w' b n r ∧ Fr (One b) w w'
theorem add_no (b n : Nat) (r : Rn) (a c : Int) (w : World) (h : RelAt w b n r) (hb : (inB n a && inB n c) = false) : Calls Tryd.prog 42 #[.pointer (some ⟨b, 0, none⟩), .int .i64 a, .int .i64 c] w fun e w' => e = .returned (.int .i64 1) ∧ w = w' := by
  have IA := Lib.hid (is_ok b n r a w h)
  have IC := Lib.hid (is_ok b n r c w h)
  cases ha : inB n a
  · rw [ha] at IA
    clear h ha hb
    go_enter Tryd.func42, Tryd.ntmps42
    go_wp2_with (go_at_call 43; refine IA.out.mono ?_; rintro e w2 ⟨rfl, rfl⟩)
    go_ret
    exact ⟨rfl, rfl⟩
  · have hc : inB n c = false := by rw [ha] at hb; exact hb
    rw [ha] at IA
    rw [hc] at IC
    clear h ha hb hc
    go_enter Tryd.func42, Tryd.ntmps42
    go_wp2_with fail
    refine IA.out.mono ?_
    rintro e w2 ⟨rfl, rfl⟩
    go_wp2_with (go_at_call 43; refine IC.out.mono ?_; rintro e w2 ⟨rfl, rfl⟩)
    go_ret
    exact ⟨rfl, rfl⟩
set_option maxHeartbeats 1000000 in
theorem add_ok (b n : Nat) (r : Rn) (a c : Nat) (w : World) (h : RelAt w b n r) (ha : a < n) (hc : c < n) : Calls Tryd.prog 42 #[.pointer (some ⟨b, 0, none⟩), .int .i64 (a : Int), .int .i64 (c : Int)] w (AddTo w b n (addR r a c)) := by
  have IA := is_ok b n r (a : Int) w h
  have IC := is_ok b n r (c : Int) w h
  rw [inB_of ha] at IA
  rw [inB_of hc] at IC
  have IA' := Lib.hid IA
  have IC' := Lib.hid IC
  have n64 := h.n64
  have c1 := h.row_c (a := a) (by omega)
  have z1 := h.blk.frozen (1 + a)
  have RD : RelAt (w.drew.setCell ⟨b, 1 + a, none⟩ (.int .u64 (bw (upd (r a) c true) : Int))) b n (addR r a c) ∧ Fr (One b) w (w.drew.setCell ⟨b, 1 + a, none⟩ (.int .u64 (bw (upd (r a) c true) : Int))) :=
    ⟨(h.fr0 (Fr.refl Nil w).drew).set_ (a := a) ha (fun x hx => by
      by_cases e : x = c
      · subst e; exact hc
      · rw [upd_other _ _ e] at hx
        exact (h.ok a x hx).2), (Fr.refl (One b) w).drew.set1 _⟩
  have c2 : w.drew.cell? ⟨b, 1 + a, none⟩ = some (.int .u64 (bw (r a) : Int)) := c1
  have z2 : w.drew.frozen? ⟨b, 1 + a, none⟩ = false := z1
  have ho : bits .or .u64 (bw (r a) : Int) (2 ^ c) = (bw (upd (r a) c true) : Int) := by
    rw [powN, orN _ _ (bw_lt _) (Nat.pow_lt_pow_right (by decide) (by omega)), bw_set _ (by omega)]
  have hs : IntKind.u64.wrap (2 ^ c) = ((2 ^ c : Nat) : Int) := by
    have : 2 ^ c < 2 ^ 64 := Nat.pow_lt_pow_right (by decide) (by omega)
    rw [powN, IntKind.wrap_u64]
    generalize 2 ^ c = x at *
    omega
  have a64 : (a : Int) < 64 := by omega
  have c64 : (c : Int) < 64 := by omega
  clear IA IC h ha hc n64
  go_enter Tryd.func42, Tryd.ntmps42
  go_wp2_with fail
  refine IA'.out.mono ?_
  rintro e w2 ⟨rfl, rfl⟩
  go_wp2_with fail
  refine IC'.out.mono ?_
  rintro e w2 ⟨rfl, rfl⟩
  go_upto_region 3 with fail
  go_still_tail 12, (by kernel_rfl)
  change wpList _ _ _ _ _ w.drew
  have D := Lib.hid RD
  clear RD
  generalize w.drew = w2 at *
  go_wp2_with fail
  go_ret
  exact ⟨rfl, D.out.1, D.out.2⟩
/-! ### How many zeros a number ends with -/
def tab : List Int := [0, 1, 56, 2, 57, 49, 28, 3, 61, 58, 42, 50, 38, 29, 17, 4, 62, 47, 59, 36, 45, 43, 51, 22, 53, 39, 33, 30, 24, 18, 12, 5, 63, 55, 48, 27, 60, 41, 37, 16, 46, 35, 44, 21, 52, 32, 23, 11, 54, 26, 40, 15, 34, 20, 31, 10, 25, 14, 19, 9, 13, 8, 7, 6]
/-- The table of the program. -/
structure Tab (w : World) : Prop where
  lt : 0 < w.heap.size
  c : ∀ j v, tab[j]? = some v → w.cell? ⟨0, j, none⟩ = some (.int .u8 v)
theorem Tab.fr {w w' : World} {S : Nat → Prop} (h : Tab w) (hf : Fr S w w') (hs : ¬ S 0) : Tab w' :=
  ⟨Nat.lt_of_lt_of_le h.lt hf.size, fun j v hv => (hf.cell (p := ⟨0, j, none⟩) h.lt hs).trans (h.c j v hv)⟩
theorem Tab.fr0 {w w' : World} (h : Tab w) (hf : Fr Nil w w') : Tab w' := h.fr hf id
def ix (t : Nat) : Nat := (2 ^ t * 285870213051353865) % 18446744073709551616 / 288230376151711744
theorem ix_ok : ∀ t, t < 64 → tab[ix t]? = some (t : Int) ∧ ix t < 64 := by decide +kernel
theorem tz_neg (x : Nat) (h0 : x ≠ 0) (h1 : x < 18446744073709551616) : IntKind.u64.wrap (-(x : Int)) = ((18446744073709551616 - x : Nat) : Int) := by
  rw [IntKind.wrap_u64]
  omega
theorem tz_and {f : Nat → Bool} {t : Nat} (ht : t < 64) (hf : f t = true) (hl : ∀ i, i < t → f i = false) (h0 : bw f ≠ 0) : bits .and .u64 (bw f : Int) ((18446744073709551616 - bw f : Nat) : Int) = 2 ^ t := by
  have h1 : 18446744073709551616 - bw f < 2 ^ 64 := by
    have : (2 : Nat) ^ 64 = 18446744073709551616 := by decide
    omega
  rw [bitsN _ _ (bw_lt f) h1, powN]
  have h2 := low_and ht hf hl
  rw [show (2 : Nat) ^ 64 = 18446744073709551616 by decide] at h2
  rw [h2]
theorem tz_ix (t : Nat) : IntKind.u64.wrap (2 ^ t * 285870213051353865) / 288230376151711744 = ((ix t : Nat) : Int) := by
  rw [powN, IntKind.wrap_u64]
  unfold ix
  generalize 2 ^ t = y
  omega
theorem tz_walk (x nx : Nat) (y : Int) (j t : Nat) (w : World) (x0 : (x : Int) ≠ 0) (hn : IntKind.u64.wrap (-(x : Int)) = (nx : Int)) (ha : bits .and .u64 (x : Int) (nx : Int) = y) (hm : IntKind.u64.wrap (y * 285870213051353865) / 288230376151711744 = (j : Int))
    (j64 : (j : Int) < 64) (t64 : (t : Int) < 64) (c1 : w.cell? ⟨0, j, none⟩ = some (.int .u8 (t : Int))) : Calls Tryd.prog 49 #[.int .u64 (x : Int)] w fun e w' => e = .returned (.int .i64 (t : Int)) ∧ w = w' := by
  have x0' : ((x : Int) == 0) = false := by simp; omega
  clear x0
  generalize (x : Int) = X at *
  generalize (nx : Int) = NX at *
  go_enter Tryd.func49, Tryd.ntmps49
  go_wp2_with fail
  go_ret
  exact ⟨rfl, rfl⟩
theorem tz_ok (f : Nat → Bool) (t : Nat) (w : World) (hT : Tab w) (ht : t < 64) (hf : f t = true) (hl : ∀ i, i < t → f i = false) : Calls Tryd.prog 49 #[.int .u64 (bw f : Int)] w fun e w' => e = .returned (.int .i64 (t : Int)) ∧ w = w' := by
  have hne : bw f ≠ 0 := fun h0 => by
    have := bw_eq0 h0 ht
    rw [hf] at this
    cases this
  have h1 : bw f < 18446744073709551616 := bw_lt f
  exact tz_walk (bw f) (18446744073709551616 - bw f) (2 ^ t) (ix t) t w (by omega) (tz_neg _ hne h1) (tz_and ht hf hl hne) (tz_ix t) (by have := (ix_ok t ht).2; omega) (by omega) (hT.c _ _ (ix_ok t ht).1)
end Go.Proofs.YtpcpjmbfinpmlaaDoor
