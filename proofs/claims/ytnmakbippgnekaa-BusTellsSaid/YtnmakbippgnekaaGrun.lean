/- What a core works at. -/
import Derived.Test.YtnmakbippgnekaaGget
set_option linter.unusedSimpArgs false
set_option linter.unusedSectionVars false
namespace Go.Proofs.Ytnmakbippgnekaa
open Go.RowKit
set_option linter.unusedVariables false
set_option maxRecDepth 100000

def lfn (l : List Mo) (k : Nat) : Mo := l.getD k (0, 0)
theorem lfn_map (l : List Mo) : l = (List.range l.length).map (lfn l) := by
  apply List.ext_getElem (by simp)
  intro i h1 h2
  simp [lfn, List.getD_eq_getElem?_getD, h1]
theorem wks_rows (l : List Mo) : wks l = rows (mo (lfn l)) l.length := by
  unfold wks rows
  conv => lhs; rw [lfn_map l]
  rw [List.flatMap_map]
  rfl
def runl (l : List Mo) : Int := l.foldl (fun n m => min n m.1) 256
def GS.run (s : GS) (c : Int) : Int := if thereB s c = true then runl (s.at_ c.toNat) else 0
theorem runl_take (l : List Mo) (k : Nat) (hk : k < l.length) : runl (l.take (k + 1)) = min (runl (l.take k)) (lfn l k).1 := by
  unfold runl
  rw [List.take_succ_eq_append_getElem hk, List.foldl_append]
  simp [lfn, List.getD_eq_getElem?_getD, hk]
theorem min_if (x y : Int) : min x y = if y < x then y else x := by split <;> omega
set_option maxHeartbeats 1000000 in
theorem run_at (gb cb : Nat) (av : Nat → Value) (s : GS) (c : Int) (w : World) (h : GicAt w gb cb av s) (hc : s.c ≤ 8) :
    Calls Try.prog 63 #[.pointer (some ⟨gb, 0, none⟩), .int .i64 c] w fun e w' => e = .returned (.int .i64 (s.run c)) ∧ Fr Nil w w' := by
  have TH := there_ok gb cb av s c w h hc
  cases hk : thereB s c
  · rw [hk] at TH
    have TH' := Lib.hid TH
    have E : s.run c = 0 := by unfold GS.run; rw [hk]; rfl
    rw [E]
    clear hk E h TH
    go_enter Try.func63, Try.ntmps63
    go_wp2_with (go_at_call 41; refine TH'.out.mono ?_; rintro e w2 ⟨rfl, rfl⟩)
    go_ret
    exact ⟨rfl, Fr.refl _ _⟩
  · rw [hk] at TH
    have TH' := Lib.hid TH
    obtain ⟨c, rfl, h1⟩ := thereB_nat hk
    have E : s.run (c : Int) = runl (s.at_ c) := by unfold GS.run; rw [hk, if_pos rfl, Int.toNat_natCast]
    rw [E]
    have c0 := h.cores_c
    have c1 := h.at_c h1
    have hw := h.ats c h1
    generalize s.at_ c = l at *
    rw [wks_rows] at hw
    obtain ⟨ao, cap, ev, hcap, hmax, -⟩ := hw.shape
    have HMX := Lib.hid (Nat.le_trans hcap hmax)
    rw [ev] at c1 hw
    have HW := Lib.hid hw
    have n1 : (c : Int) < (s.c : Int) := by omega
    have n8 : (s.c : Int) ≤ 8 := by omega
    clear h E hk TH h1 hc ev hw hcap hmax
    go_enter Try.func63, Try.ntmps63
    go_wp2_with (go_at_call 41; refine TH'.out.mono ?_; rintro e w2 ⟨rfl, rfl⟩)
    go_loopw [5, 21] (fun x i wr => ∃ k : Nat, k ≤ l.length ∧ i = .int .i64 (k : Int) ∧ x = .int .i64 (runl (l.take k)) ∧ Fr Nil w wr) (fun _ i _ => l.length - (intOf i).toNat)
    case atStart => exact ⟨0, Nat.zero_le _, rfl, rfl, Fr.refl _ _⟩
    case round =>
      obtain ⟨k, hk, rfl, rfl, hf⟩ := hrel
      by_cases hlt : k < l.length
      · have hW := HW.out.fr hf fun _ _ => id
        obtain ⟨g, off, cap', e, -, -, -, -, -⟩ := hW.form (by omega)
        injection e with e1 e2 e3
        subst e1
        obtain ⟨m0, m1⟩ := mo_cells hW hlt
        have HT := Lib.hid (runl_take l k hlt)
        have hx := HMX.out
        unfold maxLen at hx
        have HF := Lib.hid hf
        clear hW e2 e3 hf
        go_wp2
        go_roundw
        case rel => exact ⟨k + 1, by omega, by go_num, by rw [HT.out, min_if], HF.out.alloc _⟩
        case measure => simp [intOf]; omega
      · have hk' : k = l.length := by omega
        subst hk'
        have hd : decide (l.length < l.length) = false := by simp
        rw [List.take_length]
        go_wp2
        go_ret
        exact ⟨rfl, hf⟩
end Go.Proofs.Ytnmakbippgnekaa
