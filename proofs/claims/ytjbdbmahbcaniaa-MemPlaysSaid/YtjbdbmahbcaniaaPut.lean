/- Contracts of Put, Fetch, New. -/
import Derived.Test.YtjbdbmahbcaniaaFlu
import Derived.Laws.MakeOwn
set_option linter.unusedSimpArgs false
set_option linter.unusedSectionVars false
namespace Go.Proofs.Ytjbdbmahbcaniaa
open Go.RowKit
set_option linter.unusedVariables false

def St.tick (s : St) : St := { s with st := s.st ++ [0] }
def St.put (s : St) (i : Nat) (k : Nat) (v : Int) : St := (s.drains i (s.H i).length).tick.reach ⟨8 * (k : Int), v, s.st.length⟩ k
def PutTo (w : World) (q : Bs) (s s' : St) (t : Nat) (l : List L) (e : Ending) (w' : World) : Prop := ∃ v q', e = .returned (.tuple #[.int .i64 (t : Int), v, .int .i64 0]) ∧ UpdL w q s s' v l w' q'
theorem put_bad (q : Bs) (s : St) (c : Int) (a v : Int) (w : World) (hm : MemAt w q s) (hn : s.n ≤ 8192) (a0 : 0 ≤ a) (a1 : a ≤ 18446744073709551615) (h : (c < 0 ∨ (s.c : Int) ≤ c) ∨ (a % 8 ≠ 0 ∨ (s.n : Int) ≤ a / 8)) :
    Calls Try.prog 25 #[.pointer (some ⟨q.b, 0, none⟩), .int .i64 c, .int .u64 a, .int .u64 v] w fun e w' => e = .returned (.tuple #[.int .i64 0, .slice none 0 0, .int .i64 1]) ∧ w = w' := by
  have HC := Lib.hid (core_ok q s c w hm)
  by_cases hg : a % 8 = 0 ∧ a / 8 < (s.n : Int)
  · obtain ⟨k, hk⟩ : ∃ k : Nat, a = 8 * (k : Int) := ⟨(a / 8).toNat, by omega⟩
    have hk2 : k < s.n := by omega
    have HA := Lib.hid (at_ok q s a k _ hm hk2 hn hk)
    have hd : decide (0 ≤ c ∧ c < (s.c : Int)) = false := by simp; omega
    rw [hd] at HC
    clear hm h hk hk2 hg hd hn a0 a1
    go_enter Try.func25, Try.ntmps25
    go_wp2_with fail
    refine HA.out.mono ?_
    rintro e w2 ⟨rfl, rfl⟩
    go_wp2_with fail
    refine HC.out.mono ?_
    rintro e w2 ⟨rfl, rfl⟩
    go_wp2_with fail
    go_ret3
    exact ⟨rfl, rfl⟩
  · have HA := Lib.hid (at_bad q s a _ hm hn a0 a1 (by omega))
    clear hm h hg hn a0 a1
    go_enter Try.func25, Try.ntmps25
    go_wp2_with fail
    refine HA.out.mono ?_
    rintro e w2 ⟨rfl, rfl⟩
    go_wp2_with fail
    go_ret3
    exact ⟨rfl, rfl⟩
set_option maxHeartbeats 1000000 in
theorem put_ok (q : Bs) (s : St) (i : Nat) (a v : Int) (k : Nat) (w : World) (hm : MemAt w q s) (hi : i < s.c) (hk : k < s.n) (hn : s.n ≤ 8192) (ha : a = 8 * (k : Int)) (hf : Fine s i) (hs : s.st.length ≤ 100000) (ho : s.od.length ≤ 100000) (hl : (s.H i).length ≤ 1000) :
    Calls Try.prog 25 #[.pointer (some ⟨q.b, 0, none⟩), .int .i64 (i : Int), .int .u64 a, .int .u64 v] w (PutTo w q s (s.put i k v) s.st.length (s.H i)) := by
  have HA := Lib.hid (at_ok q s a k w hm hk hn ha)
  have HC := Lib.hid (core_ok q s (i : Int) w hm)
  have hd : decide (0 ≤ (i : Int) ∧ (i : Int) < (s.c : Int)) = true := by simp; omega
  rw [hd] at HC
  have FL := Lib.hid (flush_ok q s i w hm hi hn hf (by omega) ho hl)
  have dr := drains_same s i (s.H i).length
  have DR := Lib.hid dr
  have HAA := Lib.hid ha
  clear ha hd dr hm hf
  go_enter Try.func25, Try.ntmps25
  go_wp2_with fail
  refine HA.out.mono ?_
  rintro e w2 ⟨rfl, rfl⟩
  go_wp2_with fail
  refine HC.out.mono ?_
  rintro e w2 ⟨rfl, rfl⟩
  go_wp2_with fail
  refine FL.out.mono ?_
  rintro e w1 ⟨lv1, q1, rfl, hu⟩
  have TK := ticket_ok q1 _ w1 hu.mem (by rw [DR.out.2.2.2.1]; omega)
  rw [hu.b, DR.out.2.2.2.1] at TK
  have TKH := Lib.hid TK
  have HU := Lib.hid hu
  obtain ⟨ao, cap, hv, _, _, _⟩ := hu.win.shape
  have HV := Lib.hid hv
  clear TK hu
  rw [hv]
  clear hv
  go_wp2_with fail
  refine TKH.out.mono ?_
  rintro e w2 ⟨rfl, U2⟩
  obtain ⟨q2, hu2⟩ := HU.out.step U2
  have RR := reach_ok q2 _ ⟨8 * (k : Int), v, s.st.length⟩ k w2 hu2.mem (by show k < (s.drains i (s.H i).length).n; rw [DR.out.1]; exact hk) (by show (s.drains i (s.H i).length).n ≤ 8192; rw [DR.out.1]; exact hn) rfl (by show s.st.length < ((s.drains i (s.H i).length).st ++ [0]).length; rw [List.length_append, DR.out.2.2.2.1]; simp) (by show ((s.drains i (s.H i).length).st ++ [0]).length ≤ 1000000; rw [List.length_append, DR.out.2.2.2.1]; simp; omega) (by show (s.drains i (s.H i).length).od.length ≤ 1000000; have := DR.out.2.2.2.2.2; omega)
  rw [hu2.b, ← HAA.out] at RR
  have RH := Lib.hid RR
  have HU2 := Lib.hid hu2
  clear RR hu2 U2
  go_wp2_with fail
  refine RH.out.mono ?_
  rintro e w3 ⟨rfl, U3⟩
  obtain ⟨q3, hu3⟩ := HU2.out.step U3
  have HU3 := Lib.hid hu3
  clear hu3 U3
  go_wp2_with fail
  go_ret3
  refine ⟨_, q3, rfl, ?_⟩
  rw [← HV.out]
  exact HU3.out
end Go.Proofs.Ytjbdbmahbcaniaa
