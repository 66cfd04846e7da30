/- Contract of Store: a store is held. -/
import Derived.Test.YtjbdbmahbcaniaaStor
set_option linter.unusedSimpArgs false
set_option linter.unusedSectionVars false
namespace Go.Proofs.Ytjbdbmahbcaniaa
open Go.RowKit
set_option linter.unusedVariables false

def St.hold (s : St) (i : Nat) (x : L) : St := { s with st := s.st ++ [0], H := upd s.H i (s.H i ++ [x]) }
theorem news_lit (w : World) (x y z : Value) (t : TypeId) : ∀ j u, [x, y, z][j]? = some u → (w.alloc (.cells #[x, y, z] t)).cell? ((⟨w.heap.size, 0, none⟩ : Addr).add j) = some u := by
  intro j u hu
  rw [Addr.add_lit, Nat.zero_add]
  exact (Blk.new w t #[x, y, z]).cellv (by simpa using hu)
set_option maxHeartbeats 1000000 in
theorem store_ok (q : Bs) (s : St) (i : Nat) (x : L) (k : Nat) (w : World) (hm : MemAt w q s) (hi : i < s.c) (hk : k < s.n) (hn : s.n ≤ 8192) (ha : x.a = 8 * (k : Int)) (ht : x.t = s.st.length) (hf : (s.H i).length < s.d) (hd32 : s.d ≤ 32) (hs : s.st.length ≤ 1000000) :
    Calls Try.prog 14 #[.pointer (some ⟨q.b, 0, none⟩), .int .i64 (i : Int), .int .u64 x.a, .int .u64 x.v] w fun e w' => e = .returned (.tuple #[.int .i64 (x.t : Int), .int .i64 0]) ∧ Upd w q s (s.hold i x) w' := by
  have HA := Lib.hid (at_ok q s x.a k w hm hk hn ha)
  have HC := Lib.hid (core_ok q s (i : Int) w hm)
  have hd : decide (0 ≤ (i : Int) ∧ (i : Int) < (s.c : Int)) = true := by simp; omega
  rw [hd] at HC
  have c1 : w.cell? ⟨q.b, 1, none⟩ = some (.slice (some ⟨q.bh, 0, none⟩) s.c s.c) := hm.top.cellv rfl
  have c3 : w.cell? ⟨q.b, 2, none⟩ = some (.int .i64 (s.d : Int)) := hm.top.cellv rfl
  have c2 : w.cell? ⟨q.bh, i, none⟩ = some (q.hv i) := hm.held.cellv (hvs_get hi)
  obtain ⟨ao, cap, hv, _, _, _⟩ := (hm.own i hi).shape
  rw [hv] at c2
  have i0 : (0 : Int) ≤ (i : Int) := by omega
  have i1 : (i : Int) < (s.c : Int) := by omega
  have hne : (((s.H i).length : Int) == (s.d : Int)) = false := by simp; omega
  have HM := Lib.hid hm
  have HH := Lib.hid hf
  have HD := Lib.hid hd32
  have HS := Lib.hid hs
  have HT := Lib.hid ht
  have HI := Lib.hid hi
  obtain ⟨i47, hi47, hz0, hz1, hz2⟩ := info_parts Try.info47
  clear hm hv hd hk hn ha hf hd32 hs ht hi
  go_enter Try.func14, Try.ntmps14
  go_wp2_with fail
  refine HA.out.mono ?_
  rintro e w2 ⟨rfl, rfl⟩
  go_wp2_with fail
  refine HC.out.mono ?_
  rintro e w2 ⟨rfl, rfl⟩
  go_wp2_with fail
  go_quiet (fail)
  go_wp2_with fail
  refine (ticket_ok q s _ (HM.out.fr0 (Fr.drewN (Fr.refl _ _) _)) HS.out).mono ?_
  rintro e w1 ⟨rfl, U0⟩
  have U1 := Lib.hid (Upd.before (Fr.drewN (Fr.refl _ _) _) HM.out U0)
  clear U0 c1 c2 c3 HC HA hne
  obtain ⟨q1, e1, m1, f1, t1⟩ := U1.out
  obtain ⟨ao1, cap1, hv1, _, _, _⟩ := (m1.own i HI.out).shape
  have hw1 := m1.own i HI.out
  have htop := m1.top
  have hheld := m1.held
  have nb : q1.b ≠ q1.bh := m1.b_bh
  have o1 : (q1.hv i).ownBlock ≠ some q1.b := (m1.own i HI.out).ne m1.top (by decide)
  have o2 : (q1.hv i).ownBlock ≠ some q1.bh := (m1.own i HI.out).ne m1.held (by decide)
  rw [hv1] at hw1 o1 o2
  rw [e1] at htop nb o1
  have hg1 : (hvs q1.hv s.c)[i]? = some (.slice ao1 (s.H i).length cap1) := by rw [hvs_get HI.out, hv1]
  have HG := Lib.hid hg1
  have c1 : w1.cell? ⟨q.b, 1, none⟩ = some (.slice (some ⟨q1.bh, 0, none⟩) s.c s.c) := htop.cellv rfl
  have c2 : w1.cell? ⟨q1.bh, i, none⟩ = some (.slice ao1 (s.H i).length cap1) := hheld.cellv hg1
  have HW := Lib.hid hw1
  have HTOP := Lib.hid htop
  have HHELD := Lib.hid hheld
  have HO1 := Lib.hid o1
  have HO2 := Lib.hid o2
  have HV1 := Lib.hid hv1
  have HM1 := Lib.hid m1
  have hxt : Value.int .i64 (s.st.length : Int) = .int .i64 (x.t : Int) := by rw [HT.out]
  rw [hxt]
  have HXT := Lib.hid hxt
  clear hw1 htop hheld nb o1 o2 hg1 hv1 m1 hxt
  go_upto_region 6 with fail
  have c1A := (HTOP.out.alloc (.cells #[.int .u64 x.a, .int .u64 x.v, .int .i64 (x.t : Int)] 47)).cellv (i := 1) rfl
  have c2A := (HHELD.out.alloc (.cells #[.int .u64 x.a, .int .u64 x.v, .int .i64 (x.t : Int)] 47)).cellv HG.out
  go_region_law (refine step_append_win _ rfl (.tmp 47) (.tmp 52) 33 rfl 47 i47 _ 3 24 Try.underlying33 hi47 hz0 hz1 hz2 rfl (by decide) _ _ _ rfl (HW.out.drew.alloc _) ⟨w1.heap.size, 0, none⟩ 1 1 [.int .u64 x.a, .int .u64 x.v, .int .i64 (x.t : Int)] rfl rfl (news_lit w1.drew _ _ _ _) (by simp [Value.oneCell']) (by omega) (by have := HH.out; have := HD.out; simp only [maxLen]; omega) (by have := HH.out; have := HD.out; omega) (w1.heap.size + 1) (by simp) ?_; intro g off cap' w2 hw2 hgr hat; have hgr' : w1.grownBy w2 (Value.slice ao1 (s.H i).length cap1).ownBlock := (let h := (World.grownBy_alloc w1.drew _ _).trans hgr; ⟨h.os, h.tape, h.output, h.size, h.block⟩); have hat' : (Value.slice ao1 (s.H i).length cap1).ownBlock = some g ∨ w1.heap.size ≤ g := hat.imp id (fun h => by rw [h]; exact Nat.le_add_right _ _); clear hgr hat; have hc1 := (HTOP.out.grown hgr' (Ne.symm HO1.out)).cellv (i := 1) rfl; have hc2 := (HHELD.out.grown hgr' (Ne.symm HO2.out)).cellv HG.out; have hf2 := (HHELD.out.grown hgr' (Ne.symm HO2.out)).frozen i)
  all_goals
    have U2 : Upd w1 q1 { s with st := s.st ++ [0] } (s.hold i x) (w2.setCell ⟨q1.bh, i, none⟩ (.slice (some ⟨g, off, none⟩) ((s.H i).length + 1) cap')) := by
      refine HM1.out.setHv HI.out (l := s.H i ++ [x]) ((Fr.refl _ w1).grown hgr' fun k hk => .inl (by rw [HV1.out]; exact hk)) (by rw [lcs_append, List.length_append]; exact hw2) fun k hk => ?_
      cases hk
      exact hat'.imp (fun h => by rw [HV1.out]; exact h) id
    have U3 := Lib.hid (Upd.chain e1 f1 t1 U2)
    clear U2 hw2
    go_wp2_with fail
    go_ret2
    exact ⟨rfl, U3.out⟩
end Go.Proofs.Ytjbdbmahbcaniaa
