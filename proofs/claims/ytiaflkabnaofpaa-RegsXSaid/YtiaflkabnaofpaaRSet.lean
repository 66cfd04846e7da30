/- The contract of the reference's SetNzcv. -/
import Derived.Test.YtiaflkabnaofpaaFlags
namespace Go.Proofs.Ytiaflkabnaofpaa
open Go.RowKit
set_option linter.unusedVariables false
attribute [local go_sem] fold0

theorem Blk.farc {w : World} {g : Nat} {t : TypeId} {cs : Array Value} (h : Blk w g t cs) {b i : Nat} (hp : g ≠ b) (u : Value) : Blk (w.setCell ⟨b, i, none⟩ u) g t cs := h.far (p := ⟨b, i, none⟩) hp u
theorem blk_setN {w : World} {g : Nat} {c : Cr} (h : Blk w g 26 (cv c)) (v : Bool) : Blk (w.setCell ⟨g, 34, none⟩ (.bool v)) g 26 (cv { c with N := v }) := (Blk.set_ h 34 _).cast (cv_setN c v)
theorem blk_setZ {w : World} {g : Nat} {c : Cr} (h : Blk w g 26 (cv c)) (v : Bool) : Blk (w.setCell ⟨g, 35, none⟩ (.bool v)) g 26 (cv { c with Z := v }) := (Blk.set_ h 35 _).cast (cv_setZ c v)
theorem blk_setC {w : World} {g : Nat} {c : Cr} (h : Blk w g 26 (cv c)) (v : Bool) : Blk (w.setCell ⟨g, 36, none⟩ (.bool v)) g 26 (cv { c with C := v }) := (Blk.set_ h 36 _).cast (cv_setC c v)
theorem blk_setV {w : World} {g : Nat} {c : Cr} (h : Blk w g 26 (cv c)) (v : Bool) : Blk (w.setCell ⟨g, 37, none⟩ (.bool v)) g 26 (cv { c with V := v }) := (Blk.set_ h 37 _).cast (cv_setV c v)
theorem bit_mod (v d : Int) (h0 : 0 ≤ v) (h1 : v ≤ 18446744073709551615) (hd : 0 < d) : bits .and .u64 (v / d) 1 = v / d % 2 := by
  have e1 : 0 ≤ v / d := Int.ediv_nonneg h0 (by omega)
  have e2 : v / d ≤ 18446744073709551615 := Int.le_trans (Int.ediv_le_self d h0) h1
  obtain ⟨n, hn⟩ : ∃ n : Nat, v / d = (n : Int) := ⟨(v / d).toNat, by omega⟩
  rw [hn] at e2 ⊢
  have hlt : n < 2 ^ 64 := by omega
  have key : (BitVec.ofNat 64 n &&& BitVec.ofNat 64 1).toNat = n % 2 := by
    rw [BitVec.toNat_and, BitVec.toNat_ofNat, BitVec.toNat_ofNat, Nat.mod_eq_of_lt hlt]
    exact Nat.and_one_is_mod n
  have hb : bits .and .u64 (n : Int) 1 = IntKind.u64.wrap (((BitVec.ofNat 64 n &&& BitVec.ofNat 64 1).toNat : Nat) : Int) := rfl
  rw [hb, key, IntKind.wrap_u64]
  omega
def setR (c : Cr) (v : Int) : Cr := { c with N := v / 2147483648 % 2 == 1, Z := v / 1073741824 % 2 == 1, C := v / 536870912 % 2 == 1, V := v / 268435456 % 2 == 1 }
theorem setR_eq (c : Cr) (v : Int) (h0 : 0 ≤ v) (h1 : v ≤ 18446744073709551615) : setR c v = setF c v 4 := by
  simp only [setR, setF, bitB, bit_mod v _ h0 h1 (by decide : (0:Int) < 2147483648), bit_mod v _ h0 h1 (by decide : (0:Int) < 1073741824), bit_mod v _ h0 h1 (by decide : (0:Int) < 536870912), bit_mod v _ h0 h1 (by decide : (0:Int) < 268435456)]
set_option maxHeartbeats 2000000 in
theorem rsetnzcv_ok (c : Cr) (v : Int) (w : World) (h0 : 0 ≤ v) (h1 : v ≤ 18446744073709551615) : Calls Try.prog 15 #[.agg (cv c), .int .u64 v] w fun e w' => e = .returned (.agg (cv (setR c v))) ∧ Fr Nil w w' := by
  go_enter Try.func15, Try.ntmps15
  go_upto_region 1 with fail
  have hb : Blk ((w.alloc (.cells (cv c) 26)).alloc (.cells (cv zeroC) 26)) w.heap.size 26 (cv c) := Blk.alloc (Blk.new _ _ _) _
  have hr : Blk ((w.alloc (.cells (cv c) 26)).alloc (.cells (cv zeroC) 26)) (w.heap.size + 1) 26 (cv zeroC) := Blk.new2 _ _ _ _
  have F := (((Fr.refl Nil w).alloc (.cells (cv c) 26)).alloc (.cells (cv zeroC) 26))
  have hne : w.heap.size + 1 ≠ w.heap.size := by omega
  have hge : w.heap.size ≤ w.heap.size := Nat.le_refl _
  generalize (w.alloc (.cells (cv c) 26)).alloc (.cells (cv zeroC) 26) = w2 at *
  generalize hg : w.heap.size = g at *
  generalize hg1 : g + 1 = g1 at *
  have d34 : w2.cell? ⟨g, 34, none⟩ = some (.bool c.N) := hb.cellv (cv_34 c)
  have d35 : w2.cell? ⟨g, 35, none⟩ = some (.bool c.Z) := hb.cellv (cv_35 c)
  have d36 : w2.cell? ⟨g, 36, none⟩ = some (.bool c.C) := hb.cellv (cv_36 c)
  have d37 : w2.cell? ⟨g, 37, none⟩ = some (.bool c.V) := hb.cellv (cv_37 c)
  have f34 : w2.frozen? ⟨g, 34, none⟩ = false := hb.frozen _
  have f35 : w2.frozen? ⟨g, 35, none⟩ = false := hb.frozen _
  have f36 : w2.frozen? ⟨g, 36, none⟩ = false := hb.frozen _
  have f37 : w2.frozen? ⟨g, 37, none⟩ = false := hb.frozen _
  have H1 := blk_setV (blk_setC (blk_setZ (blk_setN hb (v / 2147483648 % 2 == 1)) (v / 1073741824 % 2 == 1)) (v / 536870912 % 2 == 1)) (v / 268435456 % 2 == 1)
  have H2 := Blk.farc (b := g) (i := 37) (Blk.farc (b := g) (i := 36) (Blk.farc (b := g) (i := 35) (Blk.farc (b := g) (i := 34) hr hne (.bool (v / 2147483648 % 2 == 1))) hne (.bool (v / 1073741824 % 2 == 1))) hne (.bool (v / 536870912 % 2 == 1))) hne (.bool (v / 268435456 % 2 == 1))
  have hle : w.heap.size ≤ g := by omega
  have H3 := Fr.setNew (g := g) (i := 37) (Fr.setNew (g := g) (i := 36) (Fr.setNew (g := g) (i := 35) (Fr.setNew (g := g) (i := 34) F hle (.bool (v / 2147483648 % 2 == 1))) hle (.bool (v / 1073741824 % 2 == 1))) hle (.bool (v / 536870912 % 2 == 1))) hle (.bool (v / 268435456 % 2 == 1))
  go_upto_region 5 with fail
  generalize (((w2.setCell ⟨g, 34, none⟩ (.bool (v / 2147483648 % 2 == 1))).setCell ⟨g, 35, none⟩ (.bool (v / 1073741824 % 2 == 1))).setCell ⟨g, 36, none⟩ (.bool (v / 536870912 % 2 == 1))).setCell ⟨g, 37, none⟩ (.bool (v / 268435456 % 2 == 1)) = w3 at *
  clear d34 d35 d36 d37 f34 f35 f36 f37
  go_wp2_with (first
    | (refine wpList_load_blk rfl 26 (.tmp 2) rfl g rfl _ H1 Try.underlying26 rfl info26 ?_)
    | (refine wpList_store_blk0 rfl 26 (.tmp 4) (.tmp 25) rfl g1 rfl (cv (setR c v)) rfl H2 info26 rfl (one_cv _) ?_; intro w5 hf5 hb5))
  refine bodyPost_ret (results_cell_one (p := 4) (ty := 26) rfl _ _ g1 (cv (setR c v)) _ rfl hb5 Try.underlying26 rfl info26) rfl ?_
  exact ⟨rfl, H3.own1 hf5 (by omega)⟩
end Go.Proofs.Ytiaflkabnaofpaa
