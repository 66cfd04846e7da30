/- Contracts of Nzcv and SetNzcv. -/
import Derived.Test.YtiaflkabnaofpaaRegs3
namespace Go.Proofs.Ytiaflkabnaofpaa
open Go.RowKit
set_option linter.unusedVariables false
attribute [local go_sem] fold0

theorem info53 : (Try.prog.info? 53).map (·.size) = some 4 := by kernel_rfl
def ptrs (b : Nat) : Array Value := #[.pointer (some ⟨b, 34, none⟩), .pointer (some ⟨b, 35, none⟩), .pointer (some ⟨b, 36, none⟩), .pointer (some ⟨b, 37, none⟩)]
theorem flags_ok (b : Nat) (w : World) : Calls Try.prog 29 #[.pointer (some ⟨b, 0, none⟩)] w fun e w' => e = .returned (.agg (ptrs b)) ∧ Fr Nil w w' := by
  go_enter Try.func29, Try.ntmps29
  go_wp2
  go_region
  all_goals go_wp2
  refine bodyPost_ret (results_cell_one (p := 2) (ty := 53) rfl _ _ w.heap.size (ptrs b) _ rfl (Blk.drew (Blk.new _ _ _)) Try.underlying53 rfl info53) rfl ?_
  exact ⟨rfl, ((Fr.refl _ _).alloc _).drew⟩
def fl (c : Cr) (k : Nat) : Bool := match k with | 0 => c.N | 1 => c.Z | 2 => c.C | 3 => c.V | _ => false
def nzP (c : Cr) (k : Nat) : Int := (if 0 < k ∧ c.N = true then 2147483648 else 0) + (if 1 < k ∧ c.Z = true then 1073741824 else 0) + (if 2 < k ∧ c.C = true then 536870912 else 0) + (if 3 < k ∧ c.V = true then 268435456 else 0)
theorem nz_or0 (c : Cr) (h : c.N = true) : bits .or .u64 (nzP c 0) 2147483648 = nzP c 1 := by simp [nzP, h]; decide
theorem nz_or1 (c : Cr) (h : c.Z = true) : bits .or .u64 (nzP c 1) 1073741824 = nzP c 2 := by simp [nzP, h]; cases c.N <;> decide
theorem nz_or2 (c : Cr) (h : c.C = true) : bits .or .u64 (nzP c 2) 536870912 = nzP c 3 := by simp [nzP, h]; cases c.N <;> cases c.Z <;> decide
theorem nz_or3 (c : Cr) (h : c.V = true) : bits .or .u64 (nzP c 3) 268435456 = nzP c 4 := by simp [nzP, h]; cases c.N <;> cases c.Z <;> cases c.C <;> decide
theorem nz_no0 (c : Cr) (h : c.N = false) : nzP c 1 = nzP c 0 := by simp [nzP, h]
theorem nz_no1 (c : Cr) (h : c.Z = false) : nzP c 2 = nzP c 1 := by simp [nzP, h]
theorem nz_no2 (c : Cr) (h : c.C = false) : nzP c 3 = nzP c 2 := by simp [nzP, h]
theorem nz_no3 (c : Cr) (h : c.V = false) : nzP c 4 = nzP c 3 := by simp [nzP, h]
set_option maxHeartbeats 1000000 in
theorem nzcv_ok (c : Cr) (w : World) : Calls Try.prog 12 #[.agg (cv c)] w fun e w' => e = .returned (.int .u64 (nzP c 4)) ∧ Fr Nil w w' := by
  have i0 : ∀ (b : Nat) (W : World), (Instr.index 53 (.agg (ptrs b)) (.int .i64 0)).run Try.prog W = .ok (.pointer (some ⟨b, 34, none⟩)) W := fun _ _ => by kernel_rfl
  have i1 : ∀ (b : Nat) (W : World), (Instr.index 53 (.agg (ptrs b)) (.int .i64 1)).run Try.prog W = .ok (.pointer (some ⟨b, 35, none⟩)) W := fun _ _ => by kernel_rfl
  have i2 : ∀ (b : Nat) (W : World), (Instr.index 53 (.agg (ptrs b)) (.int .i64 2)).run Try.prog W = .ok (.pointer (some ⟨b, 36, none⟩)) W := fun _ _ => by kernel_rfl
  have i3 : ∀ (b : Nat) (W : World), (Instr.index 53 (.agg (ptrs b)) (.int .i64 3)).run Try.prog W = .ok (.pointer (some ⟨b, 37, none⟩)) W := fun _ _ => by kernel_rfl
  go_enter Try.func12, Try.ntmps12
  go_wp2_with fail
  refine (flags_ok _ _).mono ?_
  rintro e w2 ⟨rfl, hf2⟩
  have hb : Blk w2 w.heap.size 26 (cv c) := Blk.fr0 (Blk.new _ _ _) hf2
  have c0 : w2.cell? ⟨w.heap.size, 34, none⟩ = some (.bool c.N) := hb.cellv (cv_34 c)
  have c1 : w2.cell? ⟨w.heap.size, 35, none⟩ = some (.bool c.Z) := hb.cellv (cv_35 c)
  have c2 : w2.cell? ⟨w.heap.size, 36, none⟩ = some (.bool c.C) := hb.cellv (cv_36 c)
  have c3 : w2.cell? ⟨w.heap.size, 37, none⟩ = some (.bool c.V) := hb.cellv (cv_37 c)
  have F := ((Fr.refl Nil w).alloc (.cells (cv c) 26)).trans hf2
  clear hf2 hb
  go_wp2_with fail
  go_loop [3, 7] (fun v i => ∃ k : Nat, k ≤ 4 ∧ i = .int .i64 k ∧ v = .int .u64 (nzP c k)) (fun _ i => 4 - (intOf i).toNat)
  case atStart => exact ⟨0, by omega, rfl, by simp [nzP]⟩
  case round =>
    obtain ⟨k, hk, rfl, rfl⟩ := hrel
    have : k = 0 ∨ k = 1 ∨ k = 2 ∨ k = 3 ∨ k = 4 := by omega
    rcases this with rfl | rfl | rfl | rfl | rfl
    · cases hn : c.N with
      | true =>
        rw [hn] at c0
        have ho := nz_or0 c hn
        clear hn
        go_wp2
        exact ⟨⟨1, by omega, rfl, rfl⟩, by simp [intOf]⟩
      | false =>
        rw [hn] at c0
        have ho := nz_no0 c hn
        clear hn
        have Ho := Lib.hid ho
        clear ho
        go_wp2
        exact ⟨⟨1, by omega, rfl, by rw [Ho.out]⟩, by simp [intOf]⟩
    · cases hn : c.Z with
      | true =>
        rw [hn] at c1
        have ho := nz_or1 c hn
        clear hn
        go_wp2
        exact ⟨⟨2, by omega, rfl, rfl⟩, by simp [intOf]⟩
      | false =>
        rw [hn] at c1
        have ho := nz_no1 c hn
        clear hn
        have Ho := Lib.hid ho
        clear ho
        go_wp2
        exact ⟨⟨2, by omega, rfl, by rw [Ho.out]⟩, by simp [intOf]⟩
    · cases hn : c.C with
      | true =>
        rw [hn] at c2
        have ho := nz_or2 c hn
        clear hn
        go_wp2
        exact ⟨⟨3, by omega, rfl, rfl⟩, by simp [intOf]⟩
      | false =>
        rw [hn] at c2
        have ho := nz_no2 c hn
        clear hn
        have Ho := Lib.hid ho
        clear ho
        go_wp2
        exact ⟨⟨3, by omega, rfl, by rw [Ho.out]⟩, by simp [intOf]⟩
    · cases hn : c.V with
      | true =>
        rw [hn] at c3
        have ho := nz_or3 c hn
        clear hn
        go_wp2
        exact ⟨⟨4, by omega, rfl, rfl⟩, by simp [intOf]⟩
      | false =>
        rw [hn] at c3
        have ho := nz_no3 c hn
        clear hn
        have Ho := Lib.hid ho
        clear ho
        go_wp2
        exact ⟨⟨4, by omega, rfl, by rw [Ho.out]⟩, by simp [intOf]⟩
    · go_wp2
      go_ret
      exact ⟨rfl, F⟩

def bitB (v d : Int) : Bool := bits .and .u64 (v / d) 1 == 1
def setF (c : Cr) (v : Int) (k : Nat) : Cr := match k with
  | 0 => c
  | 1 => { c with N := bitB v 2147483648 }
  | 2 => { c with N := bitB v 2147483648, Z := bitB v 1073741824 }
  | 3 => { c with N := bitB v 2147483648, Z := bitB v 1073741824, C := bitB v 536870912 }
  | _ => { c with N := bitB v 2147483648, Z := bitB v 1073741824, C := bitB v 536870912, V := bitB v 268435456 }
set_option maxHeartbeats 1000000 in
theorem setnzcv_ok (c : Cr) (v : Int) (w : World) (h0 : 0 ≤ v) (h1 : v ≤ 18446744073709551615) : Calls Try.prog 14 #[.agg (cv c), .int .u64 v] w fun e w' => e = .returned (.agg (cv (setF c v 4))) ∧ Fr Nil w w' := by
  have i0 : ∀ (b : Nat) (W : World), (Instr.index 53 (.agg (ptrs b)) (.int .i64 0)).run Try.prog W = .ok (.pointer (some ⟨b, 34, none⟩)) W := fun _ _ => by kernel_rfl
  have i1 : ∀ (b : Nat) (W : World), (Instr.index 53 (.agg (ptrs b)) (.int .i64 1)).run Try.prog W = .ok (.pointer (some ⟨b, 35, none⟩)) W := fun _ _ => by kernel_rfl
  have i2 : ∀ (b : Nat) (W : World), (Instr.index 53 (.agg (ptrs b)) (.int .i64 2)).run Try.prog W = .ok (.pointer (some ⟨b, 36, none⟩)) W := fun _ _ => by kernel_rfl
  have i3 : ∀ (b : Nat) (W : World), (Instr.index 53 (.agg (ptrs b)) (.int .i64 3)).run Try.prog W = .ok (.pointer (some ⟨b, 37, none⟩)) W := fun _ _ => by kernel_rfl
  go_enter Try.func14, Try.ntmps14
  go_wp2_with fail
  refine (flags_ok _ _).mono ?_
  rintro e w2 ⟨rfl, hf2⟩
  have hb : Blk w2 w.heap.size 26 (cv c) := Blk.fr0 (Blk.alloc (Blk.new _ _ _) _) hf2
  have hr : Blk w2 (w.heap.size + 1) 26 (cv zeroC) := Blk.fr0 (Blk.new2 _ _ _ _) hf2
  have F := (((Fr.refl Nil w).alloc (.cells (cv c) 26)).alloc (.cells (cv zeroC) 26)).trans hf2
  clear hf2
  go_wp2_with fail
  go_loopw [8] (fun i wr => ∃ k : Nat, k ≤ 4 ∧ i = .int .i64 k ∧ Blk wr w.heap.size 26 (cv (setF c v k)) ∧ Blk wr (w.heap.size + 1) 26 (cv zeroC) ∧ Fr Nil w wr) (fun i _ => 4 - (intOf i).toNat)
  case atStart => exact ⟨0, by omega, rfl, hb, hr, F⟩
  case round =>
    obtain ⟨k, hk, rfl, hb, hr, F⟩ := hrel
    have : k = 0 ∨ k = 1 ∨ k = 2 ∨ k = 3 ∨ k = 4 := by omega
    rcases this with rfl | rfl | rfl | rfl | rfl
    · have c0 : wr.cell? ⟨w.heap.size, 34, none⟩ = some (.bool (setF c v 0).N) := hb.cellv (cv_34 _)
      have f0 : wr.frozen? ⟨w.heap.size, 34, none⟩ = false := hb.frozen _
      go_wp2
      exact ⟨⟨1, by omega, rfl, (hb.set_ _ _).cast (cv_setN _ _), hr.far (show w.heap.size + 1 ≠ w.heap.size by omega) _, F.setNew (Nat.le_refl _) _⟩, by simp [intOf]⟩
    · have c0 : wr.cell? ⟨w.heap.size, 35, none⟩ = some (.bool (setF c v 1).Z) := hb.cellv (cv_35 _)
      have f0 : wr.frozen? ⟨w.heap.size, 35, none⟩ = false := hb.frozen _
      go_wp2
      exact ⟨⟨2, by omega, rfl, (hb.set_ _ _).cast (cv_setZ _ _), hr.far (show w.heap.size + 1 ≠ w.heap.size by omega) _, F.setNew (Nat.le_refl _) _⟩, by simp [intOf]⟩
    · have c0 : wr.cell? ⟨w.heap.size, 36, none⟩ = some (.bool (setF c v 2).C) := hb.cellv (cv_36 _)
      have f0 : wr.frozen? ⟨w.heap.size, 36, none⟩ = false := hb.frozen _
      go_wp2
      exact ⟨⟨3, by omega, rfl, (hb.set_ _ _).cast (cv_setC _ _), hr.far (show w.heap.size + 1 ≠ w.heap.size by omega) _, F.setNew (Nat.le_refl _) _⟩, by simp [intOf]⟩
    · have c0 : wr.cell? ⟨w.heap.size, 37, none⟩ = some (.bool (setF c v 3).V) := hb.cellv (cv_37 _)
      have f0 : wr.frozen? ⟨w.heap.size, 37, none⟩ = false := hb.frozen _
      go_wp2
      exact ⟨⟨4, by omega, rfl, (hb.set_ _ _).cast (cv_setV _ _), hr.far (show w.heap.size + 1 ≠ w.heap.size by omega) _, F.setNew (Nat.le_refl _) _⟩, by simp [intOf]⟩
    · go_wp2_with (first
        | (refine wpList_load_blk rfl 26 (.tmp 2) rfl w.heap.size rfl _ hb Try.underlying26 rfl info26 ?_)
        | (refine wpList_store_blk0 rfl 26 (.tmp 4) (.tmp 21) rfl (w.heap.size + 1) rfl (cv (setF c v 4)) rfl hr info26 rfl (one_cv _) ?_; intro w3 hf3 hb3))
      refine bodyPost_ret (results_cell_one (p := 4) (ty := 26) rfl _ _ (w.heap.size + 1) (cv (setF c v 4)) _ rfl hb3 Try.underlying26 rfl info26) rfl ?_
      exact ⟨rfl, F.own1 hf3 (by omega)⟩
end Go.Proofs.Ytiaflkabnaofpaa
