/- Which things are in a list: marks. -/
import Derived.Test.YtpcpjmbfinpmlaaDoorLWays
set_option linter.unusedSimpArgs false
set_option linter.unusedVariables false
set_option linter.unusedSectionVars false
namespace Go.Proofs.YtpcpjmbfinpmlaaDoor
open Go.RowKit Go.Deep
set_option maxRecDepth 100000

def mkS (V : Nat → Int) (len : Nat) : Nat → Bool := fun x => (List.range len).any fun i => V i == (x : Int)
theorem mkS_next (V : Nat → Int) (k x : Nat) : mkS V (k + 1) x = (mkS V k x || V k == (x : Int)) := by
  unfold mkS
  rw [List.range_succ, List.any_append]
  simp
def MarksTo (w : World) (n : Nat) (S : Nat → Bool) (e : Ending) (w' : World) : Prop := ∃ g, e = .returned (.slice (some ⟨g, 0, none⟩) n n) ∧ Blk w' g 4 (barr n S).toArray ∧ Fr Nil w w' ∧ w.heap.size ≤ g
theorem barr_congr {n : Nat} {f g : Nat → Bool} (h : ∀ k, k < n → f k = g k) : barr n f = barr n g := by
  unfold barr
  refine List.map_congr_left fun x hx => ?_
  rw [h x (by simpa using hx)]
theorem SlInts.at0 {w wr : World} {a : Option Addr} {len : Nat} {V : Nat → Int} (h : SlInts .i64 w a len V) (hf : Fr Nil w wr) {k : Nat} (hk : k < len) : ∃ b off, a = some ⟨b, off, none⟩ ∧ wr.cell? ⟨b, off + k, none⟩ = some (.int .i64 (V k)) := by
  obtain ⟨b, off, e, hb, hc, -⟩ := h k hk
  exact ⟨b, off, e, (hf.cell (p := ⟨b, off + k, none⟩) hb id).trans hc⟩
set_option maxHeartbeats 1000000 in
theorem marks_ok (n : Nat) (a0 : Option Addr) (len cap : Nat) (V : Nat → Int) (w : World) (hn : n ≤ 64) (hV : SlInts .i64 w a0 len V) (hl : (len : Int) ≤ 9223372036854775807) : Calls Tryd.prog 33 #[.int .i64 (n : Int), .slice a0 len cap] w (MarksTo w n (mkS V len)) := by
  have HV := Lib.hid hV
  have N64 := Lib.hid hn
  have n64 : (n : Int) ≤ 64 := by omega
  have MK := fun W => make28 n N64.out W
  clear hV hn
  go_enter Tryd.func33, Tryd.ntmps33
  go_upto_region 2 with fail
  have B0 := Lib.hid (Blk.new w 4 (barr n fun _ => false).toArray)
  have F0 := Lib.hid ((Fr.refl Nil w).alloc (.cells (barr n fun _ => false).toArray 4))
  generalize (w.alloc (.cells (barr n fun _ => false).toArray 4)) = w0 at *
  obtain ⟨g, hg⟩ : ∃ g, g = w.heap.size := ⟨_, rfl⟩
  rw [← hg] at B0 ⊢
  have HG := Lib.hid (Nat.le_of_eq hg.symm)
  clear hg MK
  go_wp2_with fail
  go_loopw [6] (fun i wr => ∃ k : Nat, k ≤ len ∧ i = .int .i64 (k : Int) ∧ Blk wr g 4 (barr n (mkS V k)).toArray ∧ Fr Nil w wr) (fun i _ => len - (intOf i).toNat)
  case atStart => exact ⟨0, Nat.zero_le _, rfl, B0.out, F0.out⟩
  case round =>
    clear B0 F0
    obtain ⟨k, hk, rfl, hq, hf⟩ := hrel
    have HQ := Lib.hid hq
    have HF := Lib.hid hf
    clear hq hf
    by_cases hlt : k < len
    · have HK := Lib.hid hlt
      have kn : (k : Int) < (len : Int) := by omega
      obtain ⟨b, off, hab, h0⟩ := HV.out.at0 HF.out hlt
      subst hab
      have NX := Lib.hid (mkS_next V k)
      clear hk hlt
      by_cases hx : 0 ≤ V k ∧ V k < (n : Int)
      · obtain ⟨x, hxe, hxn⟩ : ∃ x : Nat, V k = (x : Int) ∧ x < n := ⟨(V k).toNat, by omega, by omega⟩
        have B1 := Lib.hid (show Blk (wr.setCell ⟨g, x, none⟩ (.bool true)) g 4 (barr n (mkS V (k + 1))).toArray by
          have := HQ.out.bset hxn true
          rw [barr_congr (g := mkS V (k + 1)) fun y hy => by
            rw [NX.out]
            by_cases e : y = x
            · subst e; rw [upd_same, hxe]; simp
            · rw [upd_other _ _ e, hxe]
              have : ((x : Int) == (y : Int)) = false := by simp; omega
              rw [this, Bool.or_false]] at this
          exact this)
        have F1 := Lib.hid (HF.out.setNew (g := g) (i := x) HG.out (.bool true))
        have c1 := HQ.out.bget hxn
        have z1 := HQ.out.frozen x
        have xn : (x : Int) < (n : Int) := by omega
        have x0 : decide ((0 : Int) ≤ (x : Int)) = true := by simp
        have xk : decide (x < n) = true := by simpa using hxn
        rw [hxe] at h0
        clear hx hxe hxn HQ HF
        generalize mkS V k x = old at *
        go_wp2_with fail
        go_roundw
        case rel => exact ⟨k + 1, HK.out, by go_num, B1.out, F1.out⟩
        case measure => have := HK.out; simp [intOf]; omega
      · have B1 := Lib.hid (show Blk wr g 4 (barr n (mkS V (k + 1))).toArray by
          have := HQ.out
          rw [barr_congr (g := mkS V (k + 1)) fun y hy => by
            rw [NX.out]
            have : (V k == (y : Int)) = false := by simp; omega
            rw [this, Bool.or_false]] at this
          exact this)
        clear HQ
        by_cases hz : 0 ≤ V k
        · have hy : ¬ V k < (n : Int) := fun h => hx ⟨hz, h⟩
          have y0 : decide ((0 : Int) ≤ V k) = true := by simpa using hz
          have y1 : decide (V k < (n : Int)) = false := by simpa using hy
          clear hx
          generalize V k = v at *
          go_wp2_with fail
          go_roundw
          case rel => exact ⟨k + 1, HK.out, by go_num, B1.out, HF.out⟩
          case measure => have := HK.out; simp [intOf]; omega
        · have y0 : decide ((0 : Int) ≤ V k) = false := by simpa using hz
          clear hx
          generalize V k = v at *
          go_wp2_with fail
          go_roundw
          case rel => exact ⟨k + 1, HK.out, by go_num, B1.out, HF.out⟩
          case measure => have := HK.out; simp [intOf]; omega
    · obtain rfl : k = len := by omega
      have l1 : decide (k < k) = false := by simp
      clear hk hlt
      go_wp2_with fail
      go_ret
      exact ⟨g, rfl, HQ.out, HF.out, HG.out⟩
end Go.Proofs.YtpcpjmbfinpmlaaDoor
