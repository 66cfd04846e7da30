/- Chapter 15: the iterator over versions. -/
import Derived.Test.YtdbgfnkcphbgfaaMk
import Derived.RangeFuncNested
import Derived.RangeFuncBound
import Derived.RangeFuncCalls
import Derived.RangeFuncLeaves
import Derived.RangeFuncBox
import Derived.Shelf.Abstract
import Derived.Shelf.RegionOpen
import Derived.OwnWalkIn
import Derived.TacticsInMore
import Derived.LoopNIn
import Derived.LoopIn
namespace Go.Proofs.Ytdbgfnkcphbgfaa
open Go.RowKit Go.Shelf
set_option linter.unusedVariables false
attribute [local go_sem] Oper.semAt_some

theorem words_take (vs : List V) (k : Nat) (hk : k < vs.length) : wordsV (vs.take (k + 1)) = wordsV (vs.take k) ++ (if vs[k].l = true then [] else [vs[k].w]) := by
  rw [List.take_succ_eq_append_getElem hk, words_append]
  congr 1
  cases h : vs[k].l <;> simp [wordsV, h]
theorem words_take_len (vs : List V) (k : Nat) (hk : k ≤ vs.length) : (wordsV (vs.take k)).length ≤ k := by
  have := wordsV_len (vs.take k)
  rw [List.length_take, Nat.min_eq_left hk] at this
  exact this
set_option maxRecDepth 100000 in
set_option maxHeartbeats 2000000 in
theorem it_in (F : Fence) (n : Nat) (h26 : F.fn 26) (hro : F.round = none) (hn : 1 ≤ n) (S : Nat → Prop) (lo Bx g off cap : Nat) (vs : List V) (hl : vs.length ≤ maxLen) (hsg : ¬ S g) (hsb : ¬ S Bx) (J Jx : List Int → World → Prop)
    (W : World) (hg : g < W.heap.size) (hBl : Bx < W.heap.size) (hJ : AbidesFrom W.heap.size J)
    (hY : ∀ pre x W, J pre W → pre.length < vs.length → YieldAt F (n - 1) Try.prog lo #[.int .u32 x] W fun e W' =>
      (e = .returned (.bool true) ∧ J (pre ++ [x]) W' ∧ Fr S W W') ∨ (e = .returned (.bool false) ∧ Jx (pre ++ [x]) W'))
    (hB : W.cell? ⟨Bx, 0, none⟩ = some (.slice (some ⟨g, off, none⟩) vs.length cap)) (hc : ∀ j u, (vcs vs)[j]? = some u → W.cell? ⟨g, off + j, none⟩ = some u) (h0 : J [] W) :
    CallsIn F n Try.prog 26 #[.func (.yield lo) #[] #[], .pointer (some ⟨Bx, 0, none⟩)] W fun e W' => (∃ v, e = .returned v) ∧
      ((∃ ys, ys = wordsV vs ∧ J ys W') ∨ (∃ pre, (∃ k, k < vs.length ∧ vs[k]?.map (·.l) = some false ∧ pre = wordsV (vs.take (k + 1))) ∧ Jx pre W')) := by
  unfold maxLen at hl
  have HC := Lib.hid hc
  have HY := Lib.hid hY
  have HJ := Lib.hid hJ
  have HB := Lib.hid hB
  clear hc hY hJ
  refine callsIn_of_wp Try.func26 rfl h26 ?_ hro
  simp only [Try.ntmps26, List.size_toArray, List.length_cons, List.length_nil, Nat.reduceAdd, Nat.reduceSub, Array.replicate_succ, Array.replicate_zero, List.push_toArray, List.append_toArray, List.nil_append, List.cons_append]
  gi_wp2
  clear hB
  gi_loopw [7] (fun i wr => ∃ k : Nat, k ≤ vs.length ∧ i = .int .i64 (k : Int) ∧ Hid (J (wordsV (vs.take k)) wr) ∧ Fr S W wr)
    (fun i _ => vs.length - (intOf i).toNat)
  case atStart => exact ⟨0, Nat.zero_le _, rfl, Lib.hid h0, Fr.refl _ _⟩
  case round =>
    obtain ⟨k, hk, rfl, hJs, hnx⟩ := hrel
    by_cases hlt : k < vs.length
    · have hT := Lib.hid (words_take vs k hlt)
      have hv : vs[k]? = some vs[k] := List.getElem?_eq_getElem hlt
      have c0 : wr.cell? ⟨g, off + k * 4, none⟩ = some (.int .u32 vs[k].w) := (hnx.cell (p := ⟨g, off + k * 4, none⟩) hg hsg).trans (HC.out _ _ (by rw [show k * 4 = k * 4 + 0 from rfl, vcs_get hv (by omega)]; rfl))
      have c1 : wr.cell? ⟨g, off + k * 4 + 1, none⟩ = some (.bool vs[k].o) := (hnx.cell (p := ⟨g, off + k * 4 + 1, none⟩) hg hsg).trans (by rw [Nat.add_assoc]; exact HC.out _ _ (by rw [vcs_get hv (by omega)]; rfl))
      have c2 : wr.cell? ⟨g, off + k * 4 + 2, none⟩ = some (.bool vs[k].t) := (hnx.cell (p := ⟨g, off + k * 4 + 2, none⟩) hg hsg).trans (by rw [Nat.add_assoc]; exact HC.out _ _ (by rw [vcs_get hv (by omega)]; rfl))
      have c3 : wr.cell? ⟨g, off + k * 4 + 3, none⟩ = some (.bool vs[k].l) := (hnx.cell (p := ⟨g, off + k * 4 + 3, none⟩) hg hsg).trans (by rw [Nat.add_assoc]; exact HC.out _ _ (by rw [vcs_get hv (by omega)]; rfl))
      have hL := Lib.hid (show vs[k]?.map (·.l) = some vs[k].l by rw [hv]; rfl)
      clear hv
      have hsz := hnx.size
      have JA : J (wordsV (vs.take k)) (wr.alloc (.cells #[.int .u32 vs[k].w, .bool vs[k].o, .bool vs[k].t, .bool vs[k].l] 51)) := HJ.out _ _ _ none hJs.out (World.grownBy_alloc _ _ _) (fun r e => by cases e)
      have BA : Fr S W (wr.alloc (.cells #[.int .u32 vs[k].w, .bool vs[k].o, .bool vs[k].t, .bool vs[k].l] 51)) := hnx.alloc _
      have hlen := words_take_len vs k hk
      have hyield := HY.out (wordsV (vs.take k)) vs[k].w _ JA (by omega)
      have HJA := Lib.hid JA
      have HBA := Lib.hid BA
      clear JA BA
      cases hq : vs[k].l with
      | true =>
        rw [hq, if_pos rfl, List.append_nil] at hT
        rw [hq] at c3 HJA HBA
        clear hyield hL hq
        gi_wp2
        refine ⟨fun _ h => (by cases h), ?_⟩
        gi_wp2
        go_roundw
        case rel => exact ⟨k + 1, by omega, by go_num, by rw [hT.out]; exact HJA, HBA.out⟩
        case measure => simp [intOf]; omega
      | false =>
        rw [hq, if_neg (by decide)] at hT
        rw [hq] at c3 hL hyield HJA HBA
        clear hq
        obtain ⟨fn, tmps, assign, body, hy, hR⟩ := hyield
        gi_wp2
        refine hR.mono ?_
        rintro e W3 (⟨rfl, hJ3, hk3⟩ | ⟨rfl, hJx3⟩)
        · have H3 := Lib.hid hJ3
          have K3 := Lib.hid hk3
          clear hJ3 hk3
          gi_wp2
          go_roundw
          case rel => exact ⟨k + 1, by omega, by go_num, by rw [hT.out]; exact H3, HBA.out.trans K3.out⟩
          case measure => simp [intOf]; omega
        · have H3 := Lib.hid hJx3
          clear hJx3
          gi_wp2
          refine bodyPost_ret (results_none rfl _ _ _) rfl ?_
          exact ⟨⟨_, rfl⟩, .inr ⟨_, ⟨k, hlt, hL.out, rfl⟩, by rw [hT.out]; exact H3.out⟩⟩
    · have hk' : k = vs.length := by omega
      subst hk'
      have hd : decide (vs.length < vs.length) = false := by simp
      gi_wp2
      go_end0
      exact ⟨⟨_, rfl⟩, .inl ⟨_, rfl, by have := hJs.out; rw [List.take_length] at this; exact this⟩⟩
theorem it_stops (F : Fence) (n : Nat) (h26 : F.fn 26) (hro : F.round = none) (hn : 1 ≤ n) (S : Nat → Prop) (B lo : Nat) (vs : List V) (hl : vs.length ≤ maxLen) (w : World) (hB : ¬ S B) (hh : Held w B lo vs) (hlo : ∀ g, lo ≤ g → g < w.heap.size → ¬ S g) :
    SeqStopsK F n Try.prog 26 #[.pointer (some ⟨B, 0, none⟩)] (fun x : Int => #[Value.int .u32 x]) (Fr S) (fun ys => ys = wordsV vs) (fun pre => ∃ k, k < vs.length ∧ vs[k]?.map (·.l) = some false ∧ pre = wordsV (vs.take (k + 1))) vs.length w := fun lo' J Jx W hW hJ hJx hY h0 => by
  obtain ⟨g, off, cap, h1, h2, h3⟩ := hh.box
  have hg : g < w.heap.size := h2.lt rfl
  exact it_in F n h26 hro hn S lo' B g off cap vs hl (hlo g h3 hg) hB J Jx W (Nat.lt_of_lt_of_le hg hW.size) (Nat.lt_of_lt_of_le h1.lt hW.size) hJ hY ((hW.cell (p := ⟨B, 0, none⟩) h1.lt).trans (h1.cellv rfl)) (fun j u hu => (hW.cell (p := ⟨g, off + j, none⟩) hg).trans (h2.cellAt hu)) h0
theorem frK_b {S : Nat → Prop} {w : World} (hS : ∀ k, w.heap.size ≤ k → S k) (W : World) (l : Nat) (o o' : Obj) (hl : w.heap.size ≤ l) (h : W.heap[l]? = some o) (_ : o.isCells = false) (_ : o.isWalk = false) : Fr S W (W.putObj l o') :=
  (Fr.refl S W).grown (grownBy_putObj' W l o') fun k e => by cases e; exact .inl (hS l hl)
end Go.Proofs.Ytdbgfnkcphbgfaa
