/- What sets and what tells of an interrupt. -/
import Derived.Test.YtnmakbippgnekaaGm
set_option linter.unusedSimpArgs false
set_option linter.unusedSectionVars false
namespace Go.Proofs.Ytnmakbippgnekaa
open Go.RowKit
set_option linter.unusedVariables false
set_option maxRecDepth 100000

def GS.get (s : GS) (c id : Nat) : I := if id < 32 then s.own c id else s.sh (id - 32)
def GS.put (s : GS) (c id : Nat) (y : I) : GS := if id < 32 then { s with own := upd s.own c (upd (s.own c) id y) } else { s with sh := upd s.sh (id - 32) y }
def okI (s : GS) (c id : Int) : Bool := thereB s c && decide (0 ≤ id) && decide (id < 64)
theorem okI_nat {s : GS} {c id : Int} (h : okI s c id = true) : ∃ c' id' : Nat, c = (c' : Int) ∧ id = (id' : Int) ∧ c' < s.c ∧ id' < 64 := by
  simp only [okI, thereB, Bool.and_eq_true, decide_eq_true_eq] at h
  exact ⟨c.toNat, id.toNat, by omega, by omega, by omega, by omega⟩
theorem okI_of {s : GS} {c id : Nat} (hc : c < s.c) (hi : id < 64) : okI s (c : Int) (id : Int) = true := by simp [okI, thereB]; omega
theorem GS.put_c (s : GS) (c id : Nat) (y : I) : (s.put c id y).c = s.c := by unfold GS.put; split <;> rfl
/-- An interrupt's spot. -/
structure SpR (w : World) (gb cb : Nat) (av : Nat → Value) (s : GS) (c id sb so : Nat) : Prop where
  cell : ∀ j v, (ic (s.get c id))[j]? = some v → w.cell? ⟨sb, so + j, none⟩ = some v
  frz : ∀ o, w.frozen? ⟨sb, o, none⟩ = false
  set : ∀ j u y, j < 6 → (ic (s.get c id)).set j u = ic y → GicAt (w.setCell ⟨sb, so + j, none⟩ u) gb cb av (s.put c id y)
  foot : sb = gb ∨ sb = cb
structure Sp (w : World) (gb cb : Nat) (av : Nat → Value) (s : GS) (c id sb so : Nat) : Prop extends SpR w gb cb av s c id sb so where
  all : ∀ W av S, GicAt W gb cb av S → c < S.c → SpR W gb cb av S c id sb so
theorem ic_lt {x : I} {j : Nat} {v : Value} (h : (ic x)[j]? = some v) : j < 6 := by
  have := (List.getElem?_eq_some_iff.1 h).1
  simpa [ic] using this
theorem GicAt.spOwnR {w : World} {gb cb : Nat} {av : Nat → Value} {s : GS} (h : GicAt w gb cb av s) {c id : Nat} (hc : c < s.c) (hi : id < 32) : SpR w gb cb av s c id cb (c * 194 + id * 6) := by
  have e : s.get c id = s.own c id := by unfold GS.get; rw [if_pos hi]
  refine ⟨fun j v hv => ?_, fun o => h.cores.frozen o, fun j u y hj hy => ?_, .inr rfl⟩
  · rw [e] at hv
    rw [Nat.add_assoc]
    exact h.own_c hc hi (ic_lt hv) hv
  · rw [e] at hy
    rw [Nat.add_assoc]
    unfold GS.put
    rw [if_pos hi]
    exact h.setOwn hc hi hj hy
theorem GicAt.spShR {w : World} {gb cb : Nat} {av : Nat → Value} {s : GS} (h : GicAt w gb cb av s) {c id : Nat} (h1 : 32 ≤ id) (h2 : id < 64) : SpR w gb cb av s c id gb (1 + (id - 32) * 6) := by
  have e : s.get c id = s.sh (id - 32) := by unfold GS.get; rw [if_neg (by omega)]
  refine ⟨fun j v hv => ?_, fun o => h.top.frozen o, fun j u y hj hy => ?_, .inl rfl⟩
  · rw [e] at hv
    exact h.sh_c (by omega) (ic_lt hv) hv
  · rw [e] at hy
    unfold GS.put
    rw [if_neg (by omega)]
    exact h.setSh (by omega) hj hy
theorem GicAt.spOwn {w : World} {gb cb : Nat} {av : Nat → Value} {s : GS} (h : GicAt w gb cb av s) {c id : Nat} (hc : c < s.c) (hi : id < 32) : Sp w gb cb av s c id cb (c * 194 + id * 6) :=
  ⟨h.spOwnR hc hi, fun W av S h hc => h.spOwnR hc hi⟩
theorem GicAt.spSh {w : World} {gb cb : Nat} {av : Nat → Value} {s : GS} (h : GicAt w gb cb av s) {c id : Nat} (h1 : 32 ≤ id) (h2 : id < 64) : Sp w gb cb av s c id gb (1 + (id - 32) * 6) :=
  ⟨h.spShR h1 h2, fun W av S h hc => h.spShR h1 h2⟩
theorem GS.get_put (s : GS) (c id : Nat) (y : I) : (s.put c id y).get c id = y := by
  unfold GS.put GS.get
  by_cases h : id < 32
  · simp only [h, if_true, upd_same]
  · simp only [h, if_false, upd_same]
theorem GS.put_put (s : GS) (c id : Nat) (y z : I) : (s.put c id y).put c id z = s.put c id z := by
  have e : ∀ {α : Type} (f : Nat → α) (k : Nat) (a b : α), upd (upd f k a) k b = upd f k b := fun f k a b => by
    funext i
    by_cases h : i = k
    · subst h; simp only [upd_same]
    · simp only [upd_other _ _ h]
  unfold GS.put
  by_cases h : id < 32
  · simp only [h, if_true, upd_same, e]
  · simp only [h, if_false, e]
theorem GS.put_at (s : GS) (c id : Nat) (y : I) : (s.put c id y).at_ = s.at_ := by unfold GS.put; split <;> rfl
theorem GS.put_lim (s : GS) (c id : Nat) (y : I) : (s.put c id y).lim = s.lim := by unfold GS.put; split <;> rfl
def OfTo (w : World) (gb cb : Nat) (av : Nat → Value) (s : GS) (c id : Nat) (e : Ending) (w' : World) : Prop := ∃ sb so, e = .returned (.pointer (some ⟨sb, so, none⟩)) ∧ Sp w gb cb av s c id sb so ∧ w = w'
set_option maxHeartbeats 1000000 in
theorem of_no (gb cb : Nat) (av : Nat → Value) (s : GS) (c id : Int) (w : World) (h : GicAt w gb cb av s) (hc : s.c ≤ 8) (hk : okI s c id = false) :
    Calls Try.prog 35 #[.pointer (some ⟨gb, 0, none⟩), .int .i64 c, .int .i64 id] w fun e w' => e = .returned (.pointer none) ∧ w = w' := by
  have TH := Lib.hid (there_ok gb cb av s c w h hc)
  simp only [okI, Bool.and_eq_false_iff, decide_eq_false_iff_not] at hk
  have hk2 : thereB s c = false ∨ (thereB s c = true ∧ decide (id < 0) = true) ∨ (thereB s c = true ∧ decide (id < 0) = false ∧ decide (64 ≤ id) = true) := by
    cases hb : thereB s c
    · exact .inl rfl
    · rw [hb] at hk
      simp
      rcases hk with (hk | hk) | hk
      · cases hk
      · omega
      · omega
  clear hk h hc
  rcases hk2 with h1 | ⟨h1, h2⟩ | ⟨h1, h2, h3⟩
  all_goals
    rw [h1] at TH
    clear h1
    go_enter Try.func35, Try.ntmps35
    go_wp2_with (go_at_call 41; refine TH.out.mono ?_; rintro e w2 ⟨rfl, rfl⟩)
    go_ret
    exact ⟨rfl, rfl⟩
set_option maxHeartbeats 1000000 in
theorem of_yes (gb cb : Nat) (av : Nat → Value) (s : GS) (c id : Nat) (w : World) (h : GicAt w gb cb av s) (hc : s.c ≤ 8) (h1 : c < s.c) (h2 : id < 64) :
    Calls Try.prog 35 #[.pointer (some ⟨gb, 0, none⟩), .int .i64 (c : Int), .int .i64 (id : Int)] w (OfTo w gb cb av s c id) := by
  have TH := there_ok gb cb av s (c : Int) w h hc
  have e1 : thereB s (c : Int) = true := by simp [thereB]; omega
  rw [e1] at TH
  have TH' := Lib.hid TH
  have c0 := h.cores_c
  have H := Lib.hid h
  have b0 : decide ((id : Int) < 0) = false := by simp
  have b1 : decide (64 ≤ (id : Int)) = false := by simp; omega
  have n1 : (c : Int) < (s.c : Int) := by omega
  have n8 : (s.c : Int) ≤ 8 := by omega
  have n2 : (id : Int) ≤ 63 := by omega
  have HC := Lib.hid (And.intro h1 h2)
  clear h TH e1
  by_cases h32 : id < 32
  · have b2 : decide (32 ≤ (id : Int)) = false := by simp; omega
    have n3 : (id : Int) < 32 := by omega
    have H32 := Lib.hid h32
    clear h32
    go_enter Try.func35, Try.ntmps35
    go_wp2_with (go_at_call 41; refine TH'.out.mono ?_; rintro e w2 ⟨rfl, rfl⟩)
    go_ret
    exact ⟨_, _, rfl, H.out.spOwn HC.out.1 H32.out, rfl⟩
  · obtain ⟨k, rfl⟩ : ∃ k, id = 32 + k := ⟨id - 32, by omega⟩
    have b2 : decide (32 ≤ ((32 + k : Nat) : Int)) = true := by simp; omega
    have hk : k < 32 := by omega
    have b3 : ((32 + k : Nat) : Int) - 32 = (k : Int) := by omega
    have HK := Lib.hid hk
    clear h32 h2
    go_enter Try.func35, Try.ntmps35
    go_wp2_with (go_at_call 41; refine TH'.out.mono ?_; rintro e w2 ⟨rfl, rfl⟩)
    go_ret
    exact ⟨gb, 1 + (32 + k - 32) * 6, rfl, H.out.spSh (by omega) (by have := HK.out; omega), rfl⟩

end Go.Proofs.Ytnmakbippgnekaa
