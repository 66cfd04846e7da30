/- slices.Backward at stores. -/
import Derived.Test.YtjbdbmahbcaniaaReach
import Derived.RangeFuncNested
import Derived.RangeFuncBound
import Derived.RangeFuncCalls
import Derived.RangeFuncLeaves
import Derived.RangeFuncBox
import Derived.Shelf.Abstract
import Derived.Shelf.RegionOpen
import Derived.OwnWalkIn
import Derived.TacticsInMore
import Derived.LoopNIn
import Derived.LoopIn
set_option linter.unusedSimpArgs false
set_option linter.unusedSectionVars false
namespace Go.Proofs.Ytjbdbmahbcaniaa
open Go.RowKit Go.Shelf
set_option linter.unusedVariables false
attribute [local go_sem] Oper.semAt_some

instance : Inhabited L := ⟨⟨0, 0, 0⟩⟩
def lv (x : L) : Value := .agg #[.int .u64 x.a, .int .u64 x.v, .int .i64 (x.t : Int)]
/-- The j-th that comes of a list that is gone through from its end. -/
def bk (l : List L) (j : Nat) : Nat × L := (l.length - 1 - j, l[l.length - 1 - j]?.getD ⟨0, 0, 0⟩)
def bks (l : List L) (k : Nat) : List (Nat × L) := (List.range k).map (bk l)
theorem bks_succ (l : List L) (k : Nat) : bks l (k + 1) = bks l k ++ [bk l k] := by simp [bks, List.range_succ]
theorem bks_length (l : List L) (k : Nat) : (bks l k).length = k := by simp [bks]

set_option maxRecDepth 100000 in
set_option maxHeartbeats 2000000 in
theorem back1_in (F : Fence) (n : Nat) (h53 : F.fn 53) (hro : F.round = none) (hn : 1 ≤ n) (lo Bs n₀ b off cap : Nat) (l : List L) (hlen : l.length ≤ 1000000) (hb : b < n₀) (J Jx : List (Nat × L) → World → Prop)
    (hY : ∀ pre x W, J pre W → pre.length < l.length → YieldAt F (n - 1) Try.prog lo #[.int .i64 (x.1 : Int), .agg #[.int .u64 x.2.a, .int .u64 x.2.v, .int .i64 (x.2.t : Int)]] W fun e W' =>
      (e = .returned (.bool true) ∧ J (pre ++ [x]) W' ∧ Below n₀ W W') ∨ (e = .returned (.bool false) ∧ Jx (pre ++ [x]) W'))
    (W : World) (hBs : W.cell? ⟨Bs, 0, none⟩ = some (.slice (some ⟨b, off, none⟩) l.length cap)) (hBl : Bs < n₀) (hc : ∀ j u, (lcs l)[j]? = some u → W.cell? ⟨b, off + j, none⟩ = some u) (h0 : J [] W) :
    CallsIn F n Try.prog 53 #[.func (.yield lo) #[] #[], .pointer (some ⟨Bs, 0, none⟩)] W fun e W' => (∃ v, e = .returned v) ∧
      ((∃ ys, ys = bks l l.length ∧ J ys W') ∨ (∃ pre, (∃ k, k ≤ l.length ∧ pre = bks l k) ∧ Jx pre W')) := by
  have hlen' : (l.length : Int) ≤ 1000000 := by omega
  refine callsIn_of_wp Try.func53 rfl h53 ?_ hro
  simp only [Try.ntmps53, List.size_toArray, List.length_cons, List.length_nil, Nat.reduceAdd, Nat.reduceSub, Array.replicate_succ, Array.replicate_zero, List.push_toArray, List.append_toArray, List.nil_append, List.cons_append]
  gi_wp2
  gi_loopw [3] (fun i wr => ∃ m : Nat, m ≤ l.length ∧ i = .int .i64 ((m : Int) - 1) ∧ J (bks l (l.length - m)) wr ∧ Below n₀ W wr)
    (fun i _ => (intOf i + 1).toNat)
  case atStart => exact ⟨l.length, Nat.le_refl _, rfl, by simpa [bks] using h0, Below.refl _ _⟩
  case round =>
    obtain ⟨m, hm, rfl, hJs, hnx⟩ := hrel
    rcases Nat.eq_zero_or_pos m with h0m | h0m
    · subst h0m
      gi_wp2
      go_end0
      exact ⟨⟨_, rfl⟩, .inl ⟨_, rfl, by simpa using hJs⟩⟩
    · obtain ⟨k, rfl⟩ : ∃ k, m = k + 1 := ⟨m - 1, by omega⟩
      have ek : ((k + 1 : Nat) : Int) - 1 = (k : Int) := by omega
      rw [ek]
      have hk : k < l.length := by omega
      obtain ⟨x, hx⟩ : ∃ x, l[k]? = some x := ⟨_, List.getElem?_eq_getElem hk⟩
      have hbx : bk l (l.length - (k + 1)) = (k, x) := by
        unfold bk
        have : l.length - 1 - (l.length - (k + 1)) = k := by omega
        rw [this, hx]; rfl
      have hn2 : bks l (l.length - k) = bks l (l.length - (k + 1)) ++ [(k, x)] := by
        have : l.length - k = (l.length - (k + 1)) + 1 := by omega
        rw [this, bks_succ, hbx]
      obtain ⟨fn, tmps, assign, body, hy, hR⟩ := hY _ (k, x) wr hJs (by rw [bks_length]; omega)
      dsimp only at hy
      have hs := (hnx.cell (p := ⟨Bs, 0, none⟩) hBl).trans hBs
      have c0 : wr.cell? ⟨b, off + k * 3, none⟩ = some (.int .u64 x.a) := (hnx.cell (p := ⟨b, off + k * 3, none⟩) hb).trans (hc _ _ (lcs_get hx (j := 0) (by omega)))
      have c1 : wr.cell? ⟨b, off + k * 3 + 1, none⟩ = some (.int .u64 x.v) := (hnx.cell (p := ⟨b, off + k * 3 + 1, none⟩) hb).trans (by rw [Nat.add_assoc]; exact hc _ _ (lcs_get hx (j := 1) (by omega)))
      have c2 : wr.cell? ⟨b, off + k * 3 + 2, none⟩ = some (.int .i64 (x.t : Int)) := (hnx.cell (p := ⟨b, off + k * 3 + 2, none⟩) hb).trans (by rw [Nat.add_assoc]; exact hc _ _ (lcs_get hx (j := 2) (by omega)))
      have k0 : (0 : Int) ≤ (k : Int) := by omega
      have k1 : (k : Int) < (l.length : Int) := by omega
      have HB := Lib.hid hbx
      have HN := Lib.hid hn2
      have HX := Lib.hid hx
      clear hbx hn2 hx ek hc hBs
      gi_wp2
      refine hR.mono ?_
      rintro e W3 (⟨rfl, hJ3, hk3⟩ | ⟨rfl, hJx3⟩)
      · gi_wp2
        go_roundw
        case rel => exact ⟨k, by omega, rfl, by rw [HN.out]; exact hJ3, hnx.trans hk3⟩
        case measure => simp [intOf]
      · gi_wp2
        refine bodyPost_ret (results_none rfl _ _ _) rfl ?_
        exact ⟨⟨_, rfl⟩, .inr ⟨_, ⟨l.length - k, by omega, HN.out.symm⟩, hJx3⟩⟩

set_option maxRecDepth 100000 in
set_option maxHeartbeats 1000000 in
theorem back1_nil_in (F : Fence) (n : Nat) (h53 : F.fn 53) (hro : F.round = none) (lo Bs : Nat) (J : List (Nat × L) → World → Prop) (W : World) (hBs : W.cell? ⟨Bs, 0, none⟩ = some (.slice none 0 0)) (h0 : J [] W) :
    CallsIn F n Try.prog 53 #[.func (.yield lo) #[] #[], .pointer (some ⟨Bs, 0, none⟩)] W fun e W' => (∃ v, e = .returned v) ∧ J [] W' := by
  refine callsIn_of_wp Try.func53 rfl h53 ?_ hro
  simp only [Try.ntmps53, List.size_toArray, List.length_cons, List.length_nil, Nat.reduceAdd, Nat.reduceSub, Array.replicate_succ, Array.replicate_zero, List.push_toArray, List.append_toArray, List.nil_append, List.cons_append]
  gi_wp2
  gi_loopw [3] (fun i wr => i = .int .i64 (-1) ∧ J [] wr) (fun _ _ => 0)
  case atStart => exact ⟨rfl, h0⟩
  case round =>
    obtain ⟨rfl, hJs⟩ := hrel
    gi_wp2
    go_end0
    exact ⟨⟨_, rfl⟩, hJs⟩
set_option maxHeartbeats 1000000 in
theorem back_in (F : Fence) (n : Nat) (h37 : F.fn 37) (hro : F.round = none) (a : Option Addr) (len cap : Nat) (w : World) :
    CallsIn F n Try.prog 37 #[.slice a len cap] w fun e w' => e = .returned (.func (.func 53) #[] #[.pointer (some ⟨w.heap.size, 0, none⟩)]) ∧ w.alloc (.cells #[.slice a len cap] 33) = w' := by
  refine callsIn_of_wp Try.func37 rfl h37 ?_ hro
  simp only [Try.ntmps37, List.size_toArray, List.length_cons, List.length_nil, Nat.reduceAdd, Nat.reduceSub, Array.replicate_succ, Array.replicate_zero, List.push_toArray, List.append_toArray, List.nil_append, List.cons_append]
  gi_wp2
  go_ret
  exact ⟨rfl, rfl⟩
theorem back_stops (F : Fence) (n : Nat) (h53 : F.fn 53) (hro : F.round = none) (hn : 1 ≤ n) (Bs n₀ : Nat) (v : Value) (l : List L) (hlen : l.length ≤ 1000000) (w : World) (hBs : Bs < n₀) (hn₀ : n₀ ≤ w.heap.size)
    (hc : w.cell? ⟨Bs, 0, none⟩ = some v) (hw : Win w 47 3 v l.length (lcs l)) (hb : ∀ k, v.ownBlock = some k → k < n₀) :
    SeqStopsK F n Try.prog 53 #[.pointer (some ⟨Bs, 0, none⟩)] (fun x : Nat × L => #[Value.int .i64 (x.1 : Int), .agg #[.int .u64 x.2.a, .int .u64 x.2.v, .int .i64 (x.2.t : Int)]]) (Below n₀) (fun ys => ys = bks l l.length) (fun pre => ∃ k, k ≤ l.length ∧ pre = bks l k) l.length w := fun lo J Jx W hW _ _ hY h0 => by
  have hW' := hW.mono hn₀
  have hc' := (hW'.cell (p := ⟨Bs, 0, none⟩) hBs).trans hc
  rcases hw.2 with ⟨rfl, h00⟩ | ⟨g, off, cap, cs, rfl, hbl, h1, h2, h3, h4⟩
  · have hl : l = [] := List.eq_nil_of_length_eq_zero h00
    subst hl
    exact (back1_nil_in F n h53 hro lo Bs J W hc' h0).mono fun e W' ⟨he, hj⟩ => ⟨he, .inl ⟨_, rfl, hj⟩⟩
  · have hg : g < n₀ := hb g rfl
    exact back1_in F n h53 hro hn lo Bs n₀ g off cap l hlen hg J Jx hY W hc' hBs (fun j u hu => (hW'.cell (p := ⟨g, off + j, none⟩) hg).trans (hw.cellAt hu)) h0
end Go.Proofs.Ytjbdbmahbcaniaa
