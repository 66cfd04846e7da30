/- New. -/
import Derived.Test.YtnmakbippgnekaaGbest2
import Derived.Laws.MakeOwn
import Derived.Laws.OwnMore
set_option linter.unusedSimpArgs false
set_option linter.unusedSectionVars false
namespace Go.Proofs.Ytnmakbippgnekaa
open Go.RowKit
set_option linter.unusedVariables false
set_option maxRecDepth 100000

def i0 : I := ⟨false, false, false, false, 0, 0⟩
def i160 : I := ⟨false, false, false, false, 160, 0⟩
/-- A controller while it is made: of the shared ones ks are ranked; of the cores' own the first k of each, the next of the first d cores. -/
def newS (c ks k d : Nat) : GS :=
  ⟨c, fun i j => if j < k ∨ (j = k ∧ i < d) then i160 else i0, fun j => if j < ks then i160 else i0, fun i => if 0 < k ∨ i < d then 255 else 0, fun _ => []⟩
def new (c : Nat) : GS := ⟨c, fun _ _ => i160, fun _ => i160, fun _ => 255, fun _ => []⟩
theorem GicAt.congr {w : World} {gb cb : Nat} {av : Nat → Value} {s s' : GS} (h : GicAt w gb cb av s) (hc : s'.c = s.c) (ho : ∀ i j, i < s.c → j < 32 → s.own i j = s'.own i j) (hs : ∀ j, j < 32 → s.sh j = s'.sh j) (hl : ∀ i, i < s.c → s.lim i = s'.lim i) (ha : ∀ i, i < s.c → s.at_ i = s'.at_ i) : GicAt w gb cb av s' := by
  have e1 : gcs cb s = gcs cb s' := by
    unfold gcs irow
    rw [hc]
    congr 1
    exact rows_congr fun k hk => by rw [hs k hk]
  have e2 : ccs av s = ccs av s' := by
    unfold ccs
    rw [hc]
    refine rows_congr fun i hi => ?_
    unfold crow irow
    rw [hl i hi]
    congr 1
    exact rows_congr fun k hk => by rw [ho i k hi hk]
  exact ⟨by rw [← e1]; exact h.top, by rw [← e2]; exact h.cores, fun i hi => by rw [hc] at hi; rw [← ha i hi]; exact h.ats i hi, by rw [hc]; exact h.sep⟩
theorem newS_sh (c k : Nat) : { newS c k k 0 with sh := upd (newS c k k 0).sh k i160 } = newS c (k + 1) k 0 := by
  have e : upd (newS c k k 0).sh k i160 = (newS c (k + 1) k 0).sh := by
    funext j
    by_cases e : j = k
    · subst e
      rw [upd_same]
      simp [newS]
    · rw [upd_other _ _ e]
      have : (j < k + 1) = (j < k) := by apply propext; omega
      simp [newS, this]
  rw [e]
  rfl
theorem newS_own (c ks k d : Nat) : { newS c ks k d with own := upd (newS c ks k d).own d (upd ((newS c ks k d).own d) k i160), lim := upd (newS c ks k d).lim d 255 } = newS c ks k (d + 1) := by
  have e1 : upd (newS c ks k d).own d (upd ((newS c ks k d).own d) k i160) = (newS c ks k (d + 1)).own := by
    funext i j
    by_cases e : i = d
    · subst e
      rw [upd_same]
      by_cases e : j = k
      · subst e
        rw [upd_same]
        simp [newS]
      · rw [upd_other _ _ e]
        simp [newS, e]
    · rw [upd_other _ _ e]
      have : (i < d + 1) = (i < d) := by apply propext; omega
      simp [newS, this]
  have e2 : upd (newS c ks k d).lim d 255 = (newS c ks k (d + 1)).lim := by
    funext i
    by_cases e : i = d
    · subst e
      rw [upd_same]
      simp [newS]
    · rw [upd_other _ _ e]
      have : (i < d + 1) = (i < d) := by apply propext; omega
      simp [newS, this]
  rw [e1, e2]
  rfl
theorem newS_row {w : World} {gb cb : Nat} {av : Nat → Value} {c k : Nat} (h : GicAt w gb cb av (newS c (k + 1) k c)) : GicAt w gb cb av (newS c (k + 1) (k + 1) 0) := by
  refine h.congr rfl (fun i j hi hj => ?_) (fun _ _ => rfl) (fun i hi => ?_) fun _ _ => rfl
  · have hi' : i < c := hi
    have : (j < k ∨ j = k ∧ i < c) = (j < k + 1 ∨ j = k + 1 ∧ i < 0) := by apply propext; omega
    simp only [newS, this]
  · have hi' : i < c := hi
    simp [newS, hi']
theorem newS_new {w : World} {gb cb : Nat} {av : Nat → Value} {c : Nat} (h : GicAt w gb cb av (newS c 32 32 0)) : GicAt w gb cb av (new c) := by
  refine h.congr rfl (fun i j hi hj => ?_) (fun j hj => ?_) (fun i hi => ?_) fun _ _ => rfl
  · simp [newS, new, hj]
  · simp [newS, new, hj]
  · simp [newS, new]
theorem made_rows (cs : Array Value) (s n : Nat) (hs : cs.size = s) (h0 : 0 < s) : madeCells cs (n * s) = (rows (fun _ => cs.toList) n).toArray := by
  apply Array.ext
  · simp [size_madeCells, rows_length (fun _ => cs.toList) s (fun _ => by simpa using hs)]
  · intro i h1 h2
    have hi : i < n * s := by simpa [size_madeCells] using h1
    have hm := Nat.mod_lt i h0
    have hd : i / s < n := Nat.div_lt_of_lt_mul (by rw [Nat.mul_comm]; exact hi)
    have hr := rows_get (fun _ => cs.toList) s (fun _ => by simpa using hs) (m := n) (i := i / s) (j := i % s) hd hm
    have e : i / s * s + i % s = i := Nat.div_add_mod' i s
    rw [e] at hr
    have h3 : (rows (fun _ => cs.toList) n).toArray[i]? = some ((rows (fun _ => cs.toList) n).toArray[i]) := Array.getElem?_eq_getElem h2
    rw [List.getElem?_toArray, hr] at h3
    simp only [madeCells, Array.getElem_map, Array.getElem_range]
    rw [hs]
    have h4 : i % s < cs.size := by omega
    simp [h4] at h3 ⊢
    exact h3
noncomputable def z68 : Value := ((Try.prog.info? 83).bind (·.zero)).getD undef
theorem Try.info83 : (Try.prog.info? 83).map (fun i => (i.zero, i.size, i.bytes)) = some (some z68, 194, 800) := by kernel_rfl
theorem z68_cells : z68.cells.toList = crow (fun _ => i0) 0 (.slice none 0 0) := by kernel_rfl
theorem make60 (n : Nat) (hn : n ≤ 8) (w : World) : (Instr.makeSlice 77 (.int .i64 (n : Int)) (.int .i64 (n : Int))).run Try.prog w = .ok (.slice (some ⟨w.heap.size, 0, none⟩) n n) (w.alloc (.cells (rows (fun _ => crow (fun _ => i0) 0 (.slice none 0 0)) n).toArray 83)) := by
  obtain ⟨i, hi, hz0, hz1, hz2⟩ := info_parts Try.info83
  have := run_make (P := Try.prog) w 77 83 i _ Try.underlying77 hi hz0 .i64 .i64 n n (by omega) (by omega) (by rw [hz2]; omega) (by omega)
  have hs : z68.cells.size = 194 := by rw [← Array.length_toList, z68_cells]; exact crow_length _ _ _
  rw [hz1, Int.toNat_natCast, made_rows z68.cells 194 n hs (by omega), z68_cells] at this
  exact this
theorem z65_cells : Try.zeroCells80.toList = [.slice none 0 0] ++ irow (fun _ => i0) := by kernel_rfl
def NewTo (K : Nat → Prop) (w : World) (n : Nat) (e : Ending) (w' : World) : Prop := ∃ gb, e = .returned (.tuple #[.pointer (some ⟨gb, 0, none⟩), .int .i64 0]) ∧ Gk K w' gb (new n) ∧ Fr Nil w w' ∧ w.heap.size ≤ gb
theorem new_first (w : World) (n : Nat) : GicAt ((w.alloc (.cells (rows (fun _ => crow (fun _ => i0) 0 (.slice none 0 0)) n).toArray 83)).alloc (.cells (Try.zeroCells80.setIfInBounds 0 (.slice (some ⟨w.heap.size, 0, none⟩) n n)) 80)) (w.heap.size + 1) w.heap.size (fun _ => .slice none 0 0) (newS n 0 0 0) := by
  refine ⟨?_, ?_, fun i hi => Win.nil _ _ _, fun i j _ _ _ k h => by cases h⟩
  · have h := Blk.new (w.alloc (.cells (rows (fun _ => crow (fun _ => i0) 0 (.slice none 0 0)) n).toArray 83)) 80 (Try.zeroCells80.setIfInBounds 0 (.slice (some ⟨w.heap.size, 0, none⟩) n n))
    have e : (Try.zeroCells80.setIfInBounds 0 (.slice (some ⟨w.heap.size, 0, none⟩) n n)) = (gcs w.heap.size (newS n 0 0 0)).toArray := by
      apply Array.toList_inj.1
      rw [Array.toList_setIfInBounds, z65_cells]
      rfl
    rw [← e]
    simpa using h
  · exact (Blk.new w 83 _).alloc _
set_option maxHeartbeats 4000000 in
theorem new_ok (K : Nat → Prop) (n : Nat) {z : Int} (w : World) (hz : z = (n : Int)) (h1 : 1 ≤ n) (h8 : n ≤ 8) (hK : ∀ k, K k → k < w.heap.size) : Calls Try.prog 22 #[.int .i64 z] w (NewTo K w n) := by
  subst hz
  have m1 := make60 n h8
  have a1 : (1 : Int) ≤ (n : Int) := by omega
  have a2 : (n : Int) ≤ 8 := by omega
  have G0 := Lib.hid (new_first w n)
  have F0 := Lib.hid (((Fr.refl Nil w).alloc (.cells (rows (fun _ => crow (fun _ => i0) 0 (.slice none 0 0)) n).toArray 83)).alloc (.cells (Try.zeroCells80.setIfInBounds 0 (.slice (some ⟨w.heap.size, 0, none⟩) n n)) 80))
  have HK := Lib.hid hK
  have H18 := Lib.hid (And.intro h1 h8)
  clear h1 h8 hK
  go_enter Try.func22, Try.ntmps22
  go_upto_region 4 with fail
  generalize ((w.alloc (.cells (rows (fun _ => crow (fun _ => i0) 0 (.slice none 0 0)) n).toArray 83)).alloc (.cells (Try.zeroCells80.setIfInBounds 0 (.slice (some ⟨w.heap.size, 0, none⟩) n n)) 80)) = w0 at *
  obtain ⟨cb, hcb⟩ : ∃ cb, cb = w.heap.size := ⟨_, rfl⟩
  rw [← hcb] at G0 ⊢
  obtain ⟨gb, hgb⟩ : ∃ gb, gb = cb + 1 := ⟨_, rfl⟩
  rw [← hgb] at G0 ⊢
  have HB := Lib.hid (And.intro hcb hgb)
  clear hcb hgb m1
  go_wp2_with fail
  go_loopw [17] (fun i wr => ∃ k : Nat, k ≤ 32 ∧ i = .int .i64 (k : Int) ∧ GicAt wr gb cb (fun _ => .slice none 0 0) (newS n k k 0) ∧ Fr Nil w wr) (fun i _ => 32 - (intOf i).toNat)
  case atStart => exact ⟨0, by omega, rfl, G0.out, F0.out⟩
  case round =>
    obtain ⟨k, hk, rfl, hG, hF⟩ := hrel
    by_cases hlt : k < 32
    · have c4 := hG.sh_c (k := k) (j := 4) hlt (by omega) rfl
      have fz := hG.top.frozen (1 + k * 6 + 4)
      have GS := hG.setSh (k := k) (j := 4) (u := .int .i64 160) (y := i160) hlt (by omega) (by simp [newS]; rfl)
      rw [newS_sh] at GS
      have FS : Fr Nil w (wr.setCell ⟨gb, 1 + k * 6 + 4, none⟩ (.int .i64 160)) := hF.setNew (by have := HB.out; omega) _
      have c0 := GS.cores_c
      have H1 := Lib.hid GS
      have H2 := Lib.hid FS
      have KL := Lib.hid hlt
      clear hG hF GS FS
      go_wp2_with fail
      generalize (wr.setCell ⟨gb, 1 + k * 6 + 4, none⟩ (.int .i64 160)) = w2 at *
      go_loopw [31] (fun i w3 => ∃ d : Nat, d ≤ n ∧ i = .int .i64 (d : Int) ∧ GicAt w3 gb cb (fun _ => .slice none 0 0) (newS n (k + 1) k d) ∧ Fr Nil w w3) (fun i _ => n - (intOf i).toNat)
      case atStart => exact ⟨0, by omega, rfl, H1.out, H2.out⟩
      case round =>
        obtain ⟨d, hd, rfl, hG, hF⟩ := hrel
        by_cases hlt : d < n
        · have c0' := hG.cores_c
          have c1 := hG.own_c (i := d) (k := k) (j := 4) hlt KL.out (by omega) rfl
          have fz1 := hG.cores.frozen (d * 194 + (k * 6 + 4))
          have GS := hG.setOwn (i := d) (k := k) (j := 4) (u := .int .i64 160) (y := i160) hlt KL.out (by omega) (by simp [newS]; rfl)
          have d0 := GS.cores_c
          have d1 := GS.lim_c (i := d) hlt
          have fz2 := GS.cores.frozen (d * 194 + 192)
          have GL := GS.setLim (i := d) hlt 255
          have EL := newS_own n (k + 1) k d
          have H3 := Lib.hid (show GicAt _ gb cb _ (newS n (k + 1) k (d + 1)) from EL ▸ GL)
          have H4 := Lib.hid (show Fr Nil w _ from (hF.setNew (g := cb) (i := d * 194 + (k * 6 + 4)) (by have := HB.out; omega) (.int .i64 160)).setNew (g := cb) (i := d * 194 + 192) (by have := HB.out; omega) (.int .i64 255))
          have DL := Lib.hid hlt
          have n1 : (d : Int) < (n : Int) := by omega
          rw [← Nat.add_assoc] at c1 fz1 H3 H4 d0 d1 fz2
          clear GS GL EL hG hF
          go_wp2_with fail
          go_roundw
          case rel => exact ⟨d + 1, DL.out, by go_num, H3.out, H4.out⟩
          case measure => simp [intOf]; omega
        · have hd' : d = n := by omega
          subst hd'
          have hq : decide (d < d) = false := by simp
          have H3 := Lib.hid (newS_row hG)
          have H4 := Lib.hid hF
          clear hG hF
          go_wp2_with fail
          go_roundw
          case rel => exact ⟨k + 1, KL.out, by go_num, H3.out, H4.out⟩
          case measure => simp [intOf]; omega
    · have hk' : k = 32 := by omega
      subst hk'
      have H1 := Lib.hid (newS_new hG)
      have H2 := Lib.hid hF
      clear hG hF
      go_wp2_with fail
      go_ret2
      refine ⟨gb, rfl, ⟨⟨cb, _, H1.out, fun k hk hK => ?_⟩, fun k hk => Nat.lt_of_lt_of_le (HK.out k hk) H2.out.size, H18.out.2, H18.out.1⟩, H2.out, by have := HB.out; omega⟩
      have h1 := HK.out k hK
      have h2 := HB.out
      rcases hk with e | e | ⟨i, hi, e⟩
      · omega
      · omega
      · cases e
end Go.Proofs.Ytnmakbippgnekaa
