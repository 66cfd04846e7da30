/- Contract of Flush. -/
import Derived.Test.YtjbdbmahbcaniaaDrn
set_option linter.unusedSimpArgs false
set_option linter.unusedSectionVars false
namespace Go.Proofs.Ytjbdbmahbcaniaa
open Go.RowKit
set_option linter.unusedVariables false

def L.k (x : L) : Nat := (x.a / 8).toNat
/-- A store that waits is of a word and has a ticket. -/
def Fine (s : St) (i : Nat) : Prop := ∀ x ∈ s.H i, x.k < s.n ∧ x.a = 8 * (x.k : Int) ∧ x.t < s.st.length
def St.drain1 (s : St) (i : Nat) : St := match s.H i with
  | [] => s
  | x :: l => (s.pop i l).reach x x.k
def St.drains (s : St) (i : Nat) : Nat → St
  | 0 => s
  | n + 1 => (s.drains i n).drain1 i
theorem drain1_cons {s : St} {i : Nat} {x : L} {l : List L} (h : s.H i = x :: l) : s.drain1 i = (s.pop i l).reach x x.k := by unfold St.drain1; rw [h]
theorem drain1_same (s : St) (i : Nat) : (s.drain1 i).n = s.n ∧ (s.drain1 i).c = s.c ∧ (s.drain1 i).d = s.d ∧ (s.drain1 i).st.length = s.st.length ∧ (s.drain1 i).H i = (s.H i).drop 1 ∧ (s.drain1 i).od.length ≤ s.od.length + 1 := by
  cases h : s.H i with
  | nil => unfold St.drain1; rw [h]; simp [h]
  | cons x l => rw [drain1_cons h]; simp [St.reach, St.pop, upd]
theorem drains_same (s : St) (i j : Nat) : (s.drains i j).n = s.n ∧ (s.drains i j).c = s.c ∧ (s.drains i j).d = s.d ∧ (s.drains i j).st.length = s.st.length ∧ (s.drains i j).H i = (s.H i).drop j ∧ (s.drains i j).od.length ≤ s.od.length + j := by
  induction j with
  | zero => simp [St.drains]
  | succ j ih =>
    obtain ⟨a, b, c, d, e, f⟩ := ih
    obtain ⟨a', b', c', d', e', f'⟩ := drain1_same (s.drains i j) i
    refine ⟨a'.trans a, b'.trans b, c'.trans c, d'.trans d, ?_, ?_⟩
    · show ((s.drains i j).drain1 i).H i = _
      rw [e', e, List.drop_drop]
    · show ((s.drains i j).drain1 i).od.length ≤ _
      omega
/-- What a call leaves that turns a memory and hands back a list of stores of its own. -/
structure UpdL (w : World) (q : Bs) (s s' : St) (v : Value) (l : List L) (w' : World) (q' : Bs) : Prop where
  b : q'.b = q.b
  mem : MemAt w' q' s'
  fr : Fr (Foot q s) w w'
  foot : ∀ k, Foot q' s' k → Foot q s k ∨ w.heap.size ≤ k
  win : Win w' 47 3 v l.length (lcs l)
  own : ∀ k, v.ownBlock = some k → w.heap.size ≤ k ∧ ¬ Foot q' s' k
theorem UpdL.upd {w w' : World} {q q' : Bs} {s s' : St} {v : Value} {l : List L} (h : UpdL w q s s' v l w' q') : Upd w q s s' w' := ⟨q', h.b, h.mem, h.fr, h.foot⟩
theorem UpdL.fr0 {w w' w2 : World} {q q' : Bs} {s s' : St} {v : Value} {l : List L} (h : UpdL w q s s' v l w' q') (hf : Fr Nil w' w2) : UpdL w q s s' v l w2 q' :=
  ⟨h.b, h.mem.fr0 hf, h.fr.trans hf.nil, h.foot, h.win.fr hf fun _ _ => id, h.own⟩
theorem UpdL.start {w : World} {q : Bs} {s : St} (h : MemAt w q s) : UpdL w q s s (.slice none 0 0) [] w q :=
  ⟨rfl, h, Fr.refl _ _, fun _ hk => .inl hk, Win.nil _ _ _, fun _ hk => by cases hk⟩
theorem UpdL.step {w w1 w2 : World} {q q1 : Bs} {s s1 s2 : St} {v : Value} {l : List L} (h : UpdL w q s s1 v l w1 q1) (k : Upd w1 q1 s1 s2 w2) : ∃ q2, UpdL w q s s2 v l w2 q2 := by
  obtain ⟨q2, e2, m2, f2, t2⟩ := k
  refine ⟨q2, e2.trans h.b, m2, h.fr.step f2 fun i hi hs => h.foot i hs, fun i hi => ?_, h.win.fr f2 fun k hk => (h.own k hk).2, fun k hk => ⟨(h.own k hk).1, fun hF => ?_⟩⟩
  · rcases t2 i hi with h' | h'
    · exact h.foot i h'
    · exact .inr (Nat.le_trans h.fr.size h')
  · rcases t2 k hF with h' | h'
    · exact (h.own k hk).2 h'
    · have := h.win.lt hk; omega
/-- A store more is appended. -/
theorem UpdL.push {w w1 w2 : World} {q q1 : Bs} {s s1 : St} {v v' : Value} {l : List L} {x : L} (h : UpdL w q s s1 v l w1 q1) (hw : Win w2 47 3 v' (l ++ [x]).length (lcs (l ++ [x]))) (hg : w1.grownBy w2 v.ownBlock)
    (hat : ∀ k, v'.ownBlock = some k → v.ownBlock = some k ∨ w1.heap.size ≤ k) : UpdL w q s s1 v' (l ++ [x]) w2 q1 := by
  have f : Fr (fun k => v.ownBlock = some k) w1 w2 := (Fr.refl _ w1).grown hg fun k hk => .inl hk
  refine ⟨h.b, h.mem.fr f fun k hk hs => (h.own k hs).2 hk, h.fr.step f fun i _ hs => .inr (h.own i hs).1, h.foot, hw, fun k hk => ?_⟩
  rcases hat k hk with h' | h'
  · exact h.own k h'
  · exact ⟨Nat.le_trans h.fr.size h', fun hF => by have := h.mem.lt hF; omega⟩
def slen : Value → Nat
  | .slice _ n _ => n
  | _ => 0
def FlushTo (w : World) (q : Bs) (s s' : St) (l : List L) (e : Ending) (w' : World) : Prop := ∃ v q', e = .returned (.tuple #[v, .int .i64 0]) ∧ UpdL w q s s' v l w' q'
theorem flush_bad (q : Bs) (s : St) (c : Int) (w : World) (hm : MemAt w q s) (h : c < 0 ∨ (s.c : Int) ≤ c) :
    Calls Try.prog 16 #[.pointer (some ⟨q.b, 0, none⟩), .int .i64 c] w fun e w' => e = .returned (.tuple #[.slice none 0 0, .int .i64 1]) ∧ w = w' := by
  have HC := Lib.hid (core_ok q s c w hm)
  have hd : decide (0 ≤ c ∧ c < (s.c : Int)) = false := by simp; omega
  rw [hd] at HC
  clear hm h hd
  go_enter Try.func16, Try.ntmps16
  go_wp2_with fail
  refine HC.out.mono ?_
  rintro e w2 ⟨rfl, rfl⟩
  go_wp2_with fail
  go_ret2
  exact ⟨rfl, rfl⟩
set_option maxHeartbeats 1000000 in
theorem flush_ok (q : Bs) (s : St) (i : Nat) (w : World) (hm : MemAt w q s) (hi : i < s.c) (hn : s.n ≤ 8192) (hf : Fine s i) (hs : s.st.length ≤ 1000000) (ho : s.od.length ≤ 100000) (hl : (s.H i).length ≤ 1000) :
    Calls Try.prog 16 #[.pointer (some ⟨q.b, 0, none⟩), .int .i64 (i : Int)] w (FlushTo w q s (s.drains i (s.H i).length) (s.H i)) := by
  have HC := Lib.hid (core_ok q s (i : Int) w hm)
  have hd : decide (0 ≤ (i : Int) ∧ (i : Int) < (s.c : Int)) = true := by simp; omega
  rw [hd] at HC
  have HM := Lib.hid hm
  have HF := Lib.hid hf
  have HI := Lib.hid hi
  have HN := Lib.hid hn
  have HS := Lib.hid hs
  have HO := Lib.hid ho
  have HL := Lib.hid hl
  obtain ⟨i47, hi47, hz0, hz1, hz2⟩ := info_parts Try.info47
  clear hm hf hi hn hs ho hl hd
  go_enter Try.func16, Try.ntmps16
  go_wp2_with fail
  refine HC.out.mono ?_
  rintro e w2 ⟨rfl, rfl⟩
  go_wp2_with fail
  go_loopw [7] (fun v wr => ∃ (j : Nat) (q' : Bs), j ≤ (s.H i).length ∧ UpdL w q s (s.drains i j) v ((s.H i).take j) wr q') (fun v _ => (s.H i).length + 1 - slen v)
  case atStart => exact ⟨0, q, Nat.zero_le _, by simpa [St.drains] using UpdL.start HM.out⟩
  case round =>
    obtain ⟨j, q1, hj, hu⟩ := hrel
    obtain ⟨dn, dc, dd, dst, dH, dod⟩ := drains_same s i j
    have hlen : ((s.H i).take j).length = j := by rw [List.length_take]; omega
    rcases Nat.lt_or_ge j (s.H i).length with hlt | hge
    · obtain ⟨x, hx⟩ : ∃ x, (s.H i)[j]? = some x := ⟨_, List.getElem?_eq_getElem hlt⟩
      have hxm : x ∈ s.H i := List.mem_of_getElem? hx
      obtain ⟨f1, f2, f3⟩ := HF.out x hxm
      have hHx : (s.drains i j).H i = x :: (s.H i).drop (j + 1) := by
        have hge : (s.H i)[j] = x := by
          rw [List.getElem?_eq_getElem hlt] at hx
          exact Option.some.inj hx
        rw [dH, List.drop_eq_getElem_cons hlt, hge]
      have RR := drain_ok q1 (s.drains i j) i x _ x.k wr hu.mem (by rw [dc]; exact HI.out) hHx (by rw [dn]; exact f1) (by rw [dn]; exact HN.out) f2 (by rw [dst]; exact f3) (by rw [dst]; exact HS.out) (by have := HO.out; have := HL.out; omega)
      have e1 : ((s.drains i j).pop i ((s.H i).drop (j + 1))).reach x x.k = s.drains i (j + 1) := (drain1_cons hHx).symm
      rw [e1, hu.b] at RR
      have RH := Lib.hid RR
      have htk : (s.H i).take (j + 1) = (s.H i).take j ++ [x] := by rw [List.take_add_one, hx]; rfl
      have HTK := Lib.hid htk
      have HU := Lib.hid hu
      have HLT := Lib.hid hlt
      have HLEN := Lib.hid hlen
      obtain ⟨ao, cap, hv, _, _, _⟩ := hu.win.shape
      rw [hlen] at hv
      have HV := Lib.hid hv
      clear RR e1 htk hu hlt hlen hHx f1 f2 f3 hx hxm dn dc dd dst dH dod hj
      rw [hv]
      clear hv
      go_wp2_with fail
      refine RH.out.mono ?_
      rintro e w3 ⟨rfl, U2⟩
      obtain ⟨q2, hu2⟩ := HU.out.step U2
      have hwin := hu2.win
      rw [HV.out, HLEN.out] at hwin
      have HW := Lib.hid hwin
      have HU2 := Lib.hid hu2
      clear hu2 hwin U2
      go_wp2_with (at_builtin; refine wpList_append_win _ rfl (.tmp 24) (.tmp 26) 33 rfl 47 i47 _ 3 24 Try.underlying33 hi47 hz0 hz1 hz2 rfl (by decide) _ _ _ rfl ((HW.out.alloc _).alloc _) ⟨w3.heap.size + 1, 0, none⟩ 1 1 [.int .u64 x.a, .int .u64 x.v, .int .i64 (x.t : Int)] rfl rfl (by simpa using news_lit (w3.alloc (.cells #[.int .u64 x.a, .int .u64 x.v, .int .i64 (x.t : Int)] 47)) (.int .u64 x.a) (.int .u64 x.v) (.int .i64 (x.t : Int)) 47) (by simp [Value.oneCell']) (by omega) (by have := HLT.out; have := HL.out; simp only [maxLen]; omega) (by have := HLT.out; have := HL.out; omega) (w3.heap.size + 2) (by simp) ?_; intro g off cap' w4 hw4 hgr hat)
      have hgr' : w3.grownBy w4 (Value.slice ao j cap).ownBlock := ((World.grownBy_alloc w3 _ _).trans (World.grownBy_alloc _ _ _)).trans hgr
      have hp := HU2.out.push (v' := .slice (some ⟨g, off, none⟩) (j + 1) cap') (x := x) (by rw [lcs_append, List.length_append, HLEN.out]; exact hw4) (by rw [HV.out]; exact hgr') (fun k hk => by
        cases hk
        rw [HV.out]
        exact hat.imp id (fun h => by rw [h]; exact Nat.le_add_right _ _))
      rw [← HTK.out] at hp
      have HP := Lib.hid hp
      have HLT2 := Lib.hid HLT.out
      clear hp hw4 hgr hat hgr'
      go_roundw
      case rel => exact ⟨j + 1, q2, HLT2.out, HP.out⟩
      case measure => have := HLT2.out; show (s.H i).length + 1 - (j + 1) < (s.H i).length + 1 - j; omega
    · have hjl : j = (s.H i).length := by omega
      subst hjl
      have RR := drain_none q1 (s.drains i (s.H i).length) i wr hu.mem (by rw [dc]; exact HI.out) (by rw [dH]; exact List.drop_length)
      rw [hu.b] at RR
      have RH := Lib.hid RR
      have HU := Lib.hid hu
      rw [List.take_length] at HU
      obtain ⟨ao, cap, hv, _, _, _⟩ := hu.win.shape
      rw [hlen] at hv
      have HV := Lib.hid hv
      clear RR hu hlen dn dc dd dst dH dod hj hge
      rw [hv]
      clear hv
      go_wp2_with fail
      refine RH.out.mono ?_
      rintro e w3 ⟨rfl, F2⟩
      go_wp2_with fail
      go_ret2
      refine ⟨_, q1, rfl, ?_⟩
      rw [← HV.out]
      exact (HU.out.fr0 F2).fr0 ((Fr.refl Nil _).alloc _)
end Go.Proofs.Ytjbdbmahbcaniaa
