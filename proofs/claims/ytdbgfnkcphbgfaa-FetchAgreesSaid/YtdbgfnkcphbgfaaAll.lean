/- Chapter 15: allRight, Contains. -/
import Derived.Test.YtdbgfnkcphbgfaaNts
namespace Go.Proofs.Ytdbgfnkcphbgfaa
open Go.RowKit
set_option linter.unusedVariables false

def SomeI (P : Int → Prop) (w : World) (e : Ending) (w' : World) : Prop := ∃ r : Int, e = .returned (.int .i64 r) ∧ P r ∧ Fr Nil w w'
def InI (l : List Int) (x r : Int) : Prop := decide (0 ≤ r) = l.contains x
def SomeW (P : Int → Prop) (w : World) (e : Ending) (w' : World) : Prop := ∃ r : Int, e = .returned (.int .i64 r) ∧ P r ∧ w = w'
theorem neg_ok (n : N) (ok : n.Ok) (w : World) : Calls Try.prog 20 #[nv n] w fun e w' => e = .returned (.bool (!rightN n)) ∧ Fr Nil w w' := by
  have HR := Lib.hid (fun W => right_ok n ok W)
  unfold nv at *
  go_enter Try.func20, Try.ntmps20
  go_wp2_with (go_at_call 21; refine (HR.out _).mono ?_; rintro e w' ⟨rfl, hf⟩)
  go_ret
  exact ⟨rfl, (((Fr.refl Nil w).alloc _)).trans hf⟩
theorem rightL_take (l : List N) (k : Nat) (hk : k < l.length) : rightL (l.take (k + 1)) = (rightL (l.take k) && rightN l[k]) := by
  unfold rightL; rw [List.take_succ_eq_append_getElem hk, List.all_append]; simp
theorem rightL_bad {l : List N} {k : Nat} (hk : k < l.length) (h : rightN l[k] = false) : rightL l = false := by
  unfold rightL
  rw [List.all_eq_false]
  exact ⟨l[k], List.getElem_mem hk, by simp [h]⟩
set_option maxHeartbeats 1000000 in
theorem idx_ok (l : List N) (ok : ∀ n ∈ l, n.Ok) (a : Option Addr) (cap : Nat) (w : World) (hl : l.length ≤ maxLen) (hc : l.length ≤ cap) (hm : Nts w a l) :
    Calls Try.prog 28 #[.slice a l.length cap, .func (.func 20) #[] #[]] w (SomeI (fun r => (decide (0 ≤ r)) = !rightL l) w) := by
  unfold maxLen at hl
  have OK := Lib.hid ok
  have HM := Lib.hid hm
  clear hm ok
  go_enter Try.func28, Try.ntmps28
  go_wp2
  go_loopw [8] (fun i wr => ∃ k : Nat, k ≤ l.length ∧ i = .int .i64 (k : Int) ∧ Hid (rightL (l.take k) = true) ∧ Fr Nil w wr) (fun i _ => l.length - (intOf i).toNat)
  case atStart => exact ⟨0, Nat.zero_le _, rfl, Lib.hid (by simp [rightL]), Fr.refl _ _⟩
  case round =>
    obtain ⟨k, hk, rfl, hr, hf⟩ := hrel
    by_cases hlt : k < l.length
    · obtain ⟨b, off, ha, hb, c0, c1, c2, c3⟩ := HM.out.fr hf k l[k] (List.getElem?_eq_getElem hlt)
      subst ha
      have hN : Hid (∀ W, Calls Try.prog 20 #[nv l[k]] W fun e w' => e = .returned (.bool (!rightN l[k])) ∧ Fr Nil W w') := Lib.hid (fun W => neg_ok _ (OK.out _ (List.getElem_mem hlt)) W)
      have hT : Hid (rightL (l.take (k + 1)) = (rightL (l.take k) && rightN l[k])) := Lib.hid (rightL_take l k hlt)
      cases hq : rightN l[k] with
      | true =>
        rw [hq] at hN hT
        clear hq
        go_wp2_with (go_at_call 20; refine (hN.out _).mono ?_; rintro e w' ⟨rfl, hf2⟩)
        go_roundw
        case rel => exact ⟨k + 1, by omega, by go_num, Lib.hid (by rw [hT.out, hr.out]; rfl), hf.trans hf2⟩
        case measure => simp [intOf]; omega
      | false =>
        rw [hq] at hN hT
        have hb : Hid (rightL l = false) := Lib.hid (rightL_bad hlt hq)
        clear hq
        go_wp2_with (go_at_call 20; refine (hN.out _).mono ?_; rintro e w' ⟨rfl, hf2⟩)
        go_ret
        exact ⟨_, rfl, by rw [hb.out]; simp, hf.trans hf2⟩
    · have hk' : k = l.length := by omega
      subst hk'
      have hd : decide (l.length < l.length) = false := by simp
      go_wp2
      go_ret
      exact ⟨_, rfl, by have := hr.out; rw [List.take_length] at this; rw [this]; rfl, hf⟩
theorem cf_ok (l : List N) (ok : ∀ n ∈ l, n.Ok) (a : Option Addr) (cap : Nat) (w : World) (hl : l.length ≤ maxLen) (hc : l.length ≤ cap) (hm : Nts w a l) :
    Calls Try.prog 19 #[.slice a l.length cap, .func (.func 20) #[] #[]] w fun e w' => e = .returned (.bool (!rightL l)) ∧ Fr Nil w w' := by
  have OK := Lib.hid ok
  have HM := Lib.hid hm
  clear hm ok
  go_enter Try.func19, Try.ntmps19
  go_wp2_with (go_at_call 28; refine (idx_ok l OK.out a cap w hl hc HM.out).mono ?_; rintro e w' ⟨r, rfl, hr, hf⟩; have HR := Lib.hid hr; clear hr)
  go_ret
  exact ⟨ret_bool HR.out, hf⟩
theorem all_ok (l : List N) (ok : ∀ n ∈ l, n.Ok) (a : Option Addr) (cap : Nat) (w : World) (hl : l.length ≤ maxLen) (hc : l.length ≤ cap) (hm : Nts w a l) :
    Calls Try.prog 16 #[.slice a l.length cap] w fun e w' => e = .returned (.bool (rightL l)) ∧ Fr Nil w w' := by
  have OK := Lib.hid ok
  have HM := Lib.hid hm
  clear hm ok
  go_enter Try.func16, Try.ntmps16
  go_wp2_with (go_at_call 19; refine (cf_ok l OK.out a cap w hl hc HM.out).mono ?_; rintro e w' ⟨rfl, hf⟩)
  go_ret
  exact ⟨ret_bool (by simp), hf⟩

/-- Words that lie where a slice points. -/
def Wds (w : World) (a : Option Addr) (l : List Int) : Prop :=
  ∀ i x, l[i]? = some x → ∃ b off, a = some ⟨b, off, none⟩ ∧ b < w.heap.size ∧ w.cell? ⟨b, off + i, none⟩ = some (.int .u32 x)
theorem Wds.bel {w w' : World} {a : Option Addr} {l : List Int} {B : Nat} (h : Wds w a l) (hb : Below B w w') (hB : ∀ b off, a = some ⟨b, off, none⟩ → b < w.heap.size → b < B) : Wds w' a l := by
  intro i n hi
  obtain ⟨b, off, ha, hlt, h0⟩ := h i n hi
  have hbB := hB b off ha hlt
  exact ⟨b, off, ha, Nat.lt_of_lt_of_le hlt hb.size, (hb.cell (p := ⟨b, _, none⟩) hbB).trans h0⟩
theorem Wds.fr {w w' : World} {a : Option Addr} {l : List Int} (h : Wds w a l) (hf : Fr Nil w w') : Wds w' a l := h.bel (Fr.bel hf) fun _ _ _ h => h
theorem contains_take (l : List Int) (x : Int) (k : Nat) (hk : k < l.length) : (l.take (k + 1)).contains x = ((l.take k).contains x || x == l[k]) := by
  rw [List.take_succ_eq_append_getElem hk]
  simp only [List.contains_eq_any_beq, List.any_append, List.any_cons, List.any_nil, Bool.or_false]
theorem contains_at {l : List Int} {k : Nat} (hk : k < l.length) : l.contains l[k] = true := by simp
set_option maxHeartbeats 1000000 in
theorem index_ok (l : List Int) (x : Int) (a : Option Addr) (cap : Nat) (w : World) (hl : l.length ≤ maxLen) (hc : l.length ≤ cap) (hm : Wds w a l) :
    Calls Try.prog 27 #[.slice a l.length cap, .int .u32 x] w (SomeW (InI l x) w) := by
  unfold maxLen at hl
  have HM := Lib.hid hm
  clear hm
  go_enter Try.func27, Try.ntmps27
  go_wp2
  go_loop [8] (fun i => ∃ k : Nat, k ≤ l.length ∧ i = .int .i64 (k : Int) ∧ Hid ((l.take k).contains x = false)) (fun i => l.length - (intOf i).toNat)
  case atStart => exact ⟨0, Nat.zero_le _, rfl, Lib.hid (by simp)⟩
  case round =>
    obtain ⟨k, hk, rfl, hr⟩ := hrel
    by_cases hlt : k < l.length
    · obtain ⟨b, off, ha, hb, c0⟩ := HM.out k l[k] (List.getElem?_eq_getElem hlt)
      subst ha
      have hT : Hid ((l.take (k + 1)).contains x = ((l.take k).contains x || x == l[k])) := Lib.hid (contains_take l x k hlt)
      cases hq : (x == l[k]) with
      | false =>
        rw [hq] at hT
        go_wp2
        go_round
        case rel => exact ⟨k + 1, by omega, by go_num, Lib.hid (by rw [hT.out, hr.out]; rfl)⟩
        case measure => simp [intOf]; omega
      | true =>
        have hb : Hid (l.contains x = true) := Lib.hid (by rw [eq_of_beq hq]; exact contains_at hlt)
        go_wp2
        go_ret
        exact ⟨_, rfl, by unfold InI; rw [hb.out]; simp, rfl⟩
    · have hk' : k = l.length := by omega
      subst hk'
      have hd : decide (l.length < l.length) = false := by simp
      go_wp2
      go_ret
      exact ⟨_, rfl, by unfold InI; have := hr.out; rw [List.take_length] at this; rw [this]; rfl, rfl⟩
theorem contains_ok (l : List Int) (x : Int) (a : Option Addr) (cap : Nat) (w : World) (hl : l.length ≤ maxLen) (hc : l.length ≤ cap) (hm : Wds w a l) :
    Calls Try.prog 18 #[.slice a l.length cap, .int .u32 x] w fun e w' => e = .returned (.bool (l.contains x)) ∧ w = w' := by
  have HM := Lib.hid hm
  clear hm
  go_enter Try.func18, Try.ntmps18
  go_wp2_with (go_at_call 27; refine (index_ok l x a cap w hl hc HM.out).mono ?_; rintro e w' ⟨r, rfl, hr, rfl⟩; have HR := Lib.hid hr; clear hr)
  go_ret
  exact ⟨ret_bool HR.out, rfl⟩
end Go.Proofs.Ytdbgfnkcphbgfaa
