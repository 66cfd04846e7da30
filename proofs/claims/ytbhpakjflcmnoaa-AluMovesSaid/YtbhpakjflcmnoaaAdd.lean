/- The contract of alu.Add. -/
import Derived.Test.YtbhpakjflcmnoaaAlu
import Derived.Test.YtbhpakjflcmnoaaBase2
namespace Go.Proofs.Ytbhpakjflcmnoaa
open Go.RowKit
set_option linter.unusedVariables false

theorem results_tmp_cell {P : Program} {fn : Func} {p q : Tmp} {ty t : TypeId} (h : fn.results = #[.tmp p, .cell q ty]) (tmps : Array Value) (w : World) (g : Nat) (cs : Array Value) (d : TypeDesc)
    (hp : tmps.getD q undef = .pointer (some ⟨g, 0, none⟩)) (hg : Blk w g t cs)
    (hu : P.underlying ty = some d) (hd : (match d with | .struct _ | .array _ _ => true | _ => false) = true) (hi : (P.info? ty).map (·.size) = some cs.size) :
    (results fn tmps).run P w = .ok (.tuple #[tmps.getD p undef, .agg cs]) w := by
  have hp' : tmps[q]?.getD undef = .pointer (some ⟨g, 0, none⟩) := by simpa using hp
  simp [results, h, hp', asAddr, run_loadVar_row w g t ty cs (0, 0) d hg hu hd hi]
theorem call24 (a b c : Int) (ha : 0 ≤ a) (hb : 0 ≤ b) (hc0 : 0 ≤ c) (hc : c ≤ 1) (W : World) : (callFunc 24 #[.int .u64 a, .int .u64 b, .int .u64 c]).run Try.prog W =
    .ok (.value (.tuple #[.int .u64 ((a + b + c) % 18446744073709551616), .int .u64 ((a + b + c) / 18446744073709551616)])) W := by
  rw [run_callFunc_extern (fn := Try.f24) (e := add64Entry) (by kernel_rfl) (by kernel_rfl) (by kernel_rfl) (by kernel_rfl) (by kernel_rfl), run_add64 a b c ha hb hc0 hc]
  rfl
def sumF (a b c : Int) : Int := (a + b + c) % 18446744073709551616
def outF (a b c : Int) : Int := (a + b + c) / 18446744073709551616
def flg (a b c : Int) : Array Value := #[.bool (decide (wrap64 (sumF a b c) < 0)), .bool (sumF a b c == 0), .bool (outF a b c == 1), .bool (decide (wrap64 (bits .and .u64 (bits .xor .u64 a (sumF a b c)) (bits .xor .u64 b (sumF a b c))) < 0))]
theorem info31 : (Try.prog.info? 31).map (·.size) = some 4 := by kernel_rfl
theorem add_0 (a b : Int) (w : World) (a0 : 0 ≤ a) (b0 : 0 ≤ b) : Calls Try.prog 12 #[.int .u64 a, .int .u64 b, .bool false] w fun e w' => e = .returned (.tuple #[.int .u64 (sumF a b 0), .agg (flg a b 0)]) ∧ Fr Nil w w' := by
  have hc := call24 a b 0 a0 b0 (by omega) (by omega)
  have e1 : (a + b + 0) % 18446744073709551616 = sumF a b 0 := rfl
  have e2 : (a + b + 0) / 18446744073709551616 = outF a b 0 := rfl
  rw [e1, e2] at hc
  clear e1 e2
  have hv : flg a b 0 = #[.bool (decide (wrap64 (sumF a b 0) < 0)), .bool (sumF a b 0 == 0), .bool (outF a b 0 == 1), .bool (decide (wrap64 (bits .and .u64 (bits .xor .u64 a (sumF a b 0)) (bits .xor .u64 b (sumF a b 0))) < 0))] := rfl
  rw [hv]
  clear hv
  generalize sumF a b 0 = s at *
  generalize outF a b 0 = c at *
  go_enter Try.func12, Try.ntmps12
  go_wp2
  refine bodyPost_ret (results_tmp_cell (p := 6) (q := 7) (ty := 31) rfl _ _ w.heap.size _ _ rfl (Blk.new _ _ _) Try.underlying31 rfl info31) rfl ?_
  exact ⟨rfl, (Fr.refl Nil w).alloc _⟩
theorem add_1 (a b : Int) (w : World) (a0 : 0 ≤ a) (b0 : 0 ≤ b) : Calls Try.prog 12 #[.int .u64 a, .int .u64 b, .bool true] w fun e w' => e = .returned (.tuple #[.int .u64 (sumF a b 1), .agg (flg a b 1)]) ∧ Fr Nil w w' := by
  have hc := call24 a b 1 a0 b0 (by omega) (by omega)
  have e1 : (a + b + 1) % 18446744073709551616 = sumF a b 1 := rfl
  have e2 : (a + b + 1) / 18446744073709551616 = outF a b 1 := rfl
  rw [e1, e2] at hc
  clear e1 e2
  have hv : flg a b 1 = #[.bool (decide (wrap64 (sumF a b 1) < 0)), .bool (sumF a b 1 == 0), .bool (outF a b 1 == 1), .bool (decide (wrap64 (bits .and .u64 (bits .xor .u64 a (sumF a b 1)) (bits .xor .u64 b (sumF a b 1))) < 0))] := rfl
  rw [hv]
  clear hv
  generalize sumF a b 1 = s at *
  generalize outF a b 1 = c at *
  go_enter Try.func12, Try.ntmps12
  go_wp2
  refine bodyPost_ret (results_tmp_cell (p := 6) (q := 7) (ty := 31) rfl _ _ w.heap.size _ _ rfl (Blk.new _ _ _) Try.underlying31 rfl info31) rfl ?_
  exact ⟨rfl, (Fr.refl Nil w).alloc _⟩
end Go.Proofs.Ytbhpakjflcmnoaa
