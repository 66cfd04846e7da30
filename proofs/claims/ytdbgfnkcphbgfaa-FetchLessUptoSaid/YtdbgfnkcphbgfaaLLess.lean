/- The walk of FetchLess. -/
import Derived.Test.YtdbgfnkcphbgfaaLSees
namespace Go.Proofs.Ytdbgfnkcphbgfaa
open Go.RowKit
set_option linter.unusedVariables false

theorem cell_grown {w w' : World} {row : Option Nat} {b i : Nat} {v : Value} (h : w.cell? ⟨b, i, none⟩ = some v) (hg : w.grownBy w' row) (hp : b < w.heap.size) (hr : ∀ k, row = some k → k ≠ b) : w'.cell? ⟨b, i, none⟩ = some v :=
  (World.cell?_of_block (a := ⟨b, i, none⟩) (hg.block b hp fun e => hr b e.symm rfl)).trans h
def lK (addr : Int) (l more : List N) (k : Nat) : List N := l ++ (more.take k).filter (notW addr)
def mK (core addr : Int) (l more : List N) (k : Nat) : List N := l ++ (more.take k).filter fun n => notW addr n && mine core n
theorem lK_succ {addr : Int} {l more : List N} {k : Nat} (hk : k < more.length) : lK addr l more (k + 1) = if notW addr more[k] = true then lK addr l more k ++ [more[k]] else lK addr l more k := by
  unfold lK
  rw [List.take_succ_eq_append_getElem hk, List.filter_append]
  cases h : notW addr more[k] <;> simp [h]
theorem mK_succ {core addr : Int} {l more : List N} {k : Nat} (hk : k < more.length) : mK core addr l more (k + 1) = if (notW addr more[k] && mine core more[k]) = true then mK core addr l more k ++ [more[k]] else mK core addr l more k := by
  unfold mK
  rw [List.take_succ_eq_append_getElem hk, List.filter_append]
  cases h : (notW addr more[k] && mine core more[k]) <;> simp [h]
theorem lK_len (addr : Int) (l more : List N) (k : Nat) : (lK addr l more k).length ≤ l.length + k := by
  unfold lK
  rw [List.length_append]
  have := List.length_filter_le (notW addr) (more.take k)
  rw [List.length_take] at this
  omega
theorem mK_len (core addr : Int) (l more : List N) (k : Nat) : (mK core addr l more k).length ≤ l.length + k := by
  unfold mK
  rw [List.length_append]
  have := List.length_filter_le (fun n => notW addr n && mine core n) (more.take k)
  rw [List.length_take] at this
  omega
/-- Two slices that are made beside each other. -/
structure Pr (w0 w : World) (v u : Value) (L M : List N) : Prop where
  l : Win w 31 4 v L.length (ncs L)
  m : Win w 31 4 u M.length (ncs M)
  vl : ∀ k, v.ownBlock = some k → w0.heap.size ≤ k
  ul : ∀ k, u.ownBlock = some k → w0.heap.size ≤ k
  ne : ∀ k, v.ownBlock = some k → u.ownBlock ≠ some k
  fr : Fr Nil w0 w
theorem Pr.pushL {w0 w w' : World} {v u : Value} {L M : List N} (h : Pr w0 w v u L M) {g off cap : Nat} {n : N} (hw : Win w' 31 4 (.slice (some ⟨g, off, none⟩) (L.length + 1) cap) (L.length + 1) (ncs L ++ ncells n)) (hg : w.grownBy w' v.ownBlock) (hat : v.ownBlock = some g ∨ g = w.heap.size + 1) :
    Pr w0 w' (.slice (some ⟨g, off, none⟩) (L.length + 1) cap) u (L ++ [n]) M := by
  have hs := h.fr.size
  refine ⟨?_, h.m.grown hg ?_, fun k hk => ?_, h.ul, fun k hk => ?_, h.fr.grown hg fun k hk => .inr (h.vl k hk)⟩
  · rw [List.length_append, List.length_singleton, ncs_append, show ncs [n] = ncells n from by simp [ncs]]
    exact hw
  · cases hu : u.ownBlock with
    | none => exact .inl rfl
    | some k => exact .inr fun e => h.ne k e.symm hu
  · cases hk
    rcases hat with hat | hat
    · exact h.vl _ hat
    · show w0.heap.size ≤ g
      omega
  · cases hk
    rcases hat with hat | hat
    · exact h.ne _ hat
    · intro e
      have := h.m.lt e
      have : g < w.heap.size := this
      omega
theorem Pr.pushM {w0 w w' : World} {v u : Value} {L M : List N} (h : Pr w0 w v u L M) {g off cap : Nat} {n : N} (hw : Win w' 31 4 (.slice (some ⟨g, off, none⟩) (M.length + 1) cap) (M.length + 1) (ncs M ++ ncells n)) (hg : w.grownBy w' u.ownBlock) (hat : u.ownBlock = some g ∨ g = w.heap.size + 1) :
    Pr w0 w' v (.slice (some ⟨g, off, none⟩) (M.length + 1) cap) L (M ++ [n]) := by
  have hs := h.fr.size
  refine ⟨h.l.grown hg ?_, ?_, h.vl, fun k hk => ?_, fun k hk => ?_, h.fr.grown hg fun k hk => .inr (h.ul k hk)⟩
  · cases hu : v.ownBlock with
    | none => exact .inl rfl
    | some k => exact .inr fun e => h.ne k hu e.symm
  · rw [List.length_append, List.length_singleton, ncs_append, show ncs [n] = ncells n from by simp [ncs]]
    exact hw
  · cases hk
    rcases hat with hat | hat
    · exact h.ul _ hat
    · show w0.heap.size ≤ g
      omega
  · intro e
    cases e
    rcases hat with hat | hat
    · exact h.ne _ hk hat
    · have := h.l.lt hk
      have : g < w.heap.size := this
      omega
theorem Pr.shL {w0 w : World} {v u : Value} {L M : List N} (h : Pr w0 w v u L M) : ∃ a c, v = .slice a L.length c ∧ L.length ≤ c := by
  obtain ⟨a, c, e, h1, _, _⟩ := h.l.shape
  exact ⟨a, c, e, h1⟩
theorem Pr.alloc {w0 w : World} {v u : Value} {L M : List N} (h : Pr w0 w v u L M) (o : Obj) : Pr w0 (w.alloc o) v u L M := ⟨h.l.alloc o, h.m.alloc o, h.vl, h.ul, h.ne, h.fr.alloc o⟩
set_option maxRecDepth 100000 in
set_option maxHeartbeats 4000000 in
theorem less_gen (l more : List N) (ok : ∀ n ∈ l, n.Ok) (okm : ∀ n ∈ more, n.Ok) (a am : Option Addr) (cap capm : Nat) (core addr first : Int) (w : World) (hl : l.length ≤ 1048576) (hlm : more.length ≤ 1048576) (hc : l.length ≤ cap) (hcm : more.length ≤ capm) (hm : Nts w a l) (hmm : Nts w am more)
    (c0 : -9223372036854775808 ≤ core) (c1 : core ≤ 9223372036854775807) (a0 : 0 ≤ addr) (a1 : addr ≤ 18446744073709551615) (x0 : 0 ≤ first) (x1 : first ≤ 4294967295) :
    Calls Try.prog 4 #[.slice a l.length cap, .slice am more.length capm, .int .i64 core, .int .u64 addr, .int .u32 first] w fun e w' => e = .returned (.bool true) ∧ Fr Nil w w' := by
  have HM := Lib.hid hm
  have HMM := Lib.hid hmm
  have OK := Lib.hid ok
  have OKM := Lib.hid okm
  clear hm hmm ok okm
  cases hok : mayOk core addr l with
  | false =>
    have HN := Lib.hid (fun W h => may_no l OK.out core addr first a0 a1 a cap W (by unfold maxLen; omega) hc h hok)
    clear hok
    go_enter Try.func4, Try.ntmps4
    go_wp2_with fail
    refine (examples_ok w).mono ?_
    rintro e w1 ⟨rfl, F1⟩
    go_wp2_with fail
    refine (HN.out _ (HM.out.fr F1)).mono ?_
    rintro e w2 ⟨rfl, F2⟩
    go_wp2_with fail
    go_ret
    exact ⟨rfl, F1.trans F2⟩
  | true =>
    have HY := Lib.hid (fun W h => may_yes' l OK.out core addr first a0 a1 a cap W (by omega) hc h hok)
    have hml := may_len core addr first l
    have HOK := Lib.hid hok
    obtain ⟨i31, hi31, hz0, hz1, hz2⟩ := info_parts Try.info31
    clear hok
    go_enter Try.func4, Try.ntmps4
    go_wp2_with fail
    refine (examples_ok w).mono ?_
    rintro e w1 ⟨rfl, F1⟩
    go_wp2_with fail
    refine (HY.out _ (HM.out.fr F1)).mono ?_
    rintro e w2 ⟨ao, cp, rfl, F2, D2, hcp, _⟩
    have FA := Lib.hid (F1.trans F2)
    have DA := Lib.hid D2
    have ML := Lib.hid (HM.out.fr FA.out)
    have MM := Lib.hid (HMM.out.fr FA.out)
    clear F1 F2 D2 HY HM HMM
    go_upto_region 8 with (refine wpList_copy_nts rfl _ _ rfl rfl l _ _ rfl ML.out (by omega) ?_; intro v w5 hw5 F5 hk5; obtain ⟨av, cv, rfl, hcv, _, _⟩ := hw5.shape; have W5 := Lib.hid hw5; have F5' := Lib.hid F5; have K5 := Lib.hid hk5; clear hw5 F5 hk5)
    go_upto_region 9 with (refine wpList_copy_nts rfl _ _ rfl rfl l _ _ rfl (ML.out.fr F5'.out) (by omega) ?_; intro v w6 hw6 F6 hk6; obtain ⟨au, cu, rfl, hcu, _, _⟩ := hw6.shape; have W6 := Lib.hid hw6; have F6' := Lib.hid F6; have K6 := Lib.hid hk6; clear hw6 F6 hk6)
    have P0 : Hid (Pr w2 w6 (.slice av l.length cv) (.slice au l.length cu) l l) := Lib.hid ⟨W5.out.fr F6'.out (fun _ _ => id), W6.out, K5.out, fun k hk => Nat.le_trans F5'.out.size (K6.out k hk), fun k h1 h2 => by have := W5.out.lt h1; have := K6.out k h2; omega, F5'.out.trans F6'.out⟩
    clear W5 W6 F5' F6' K5 K6 hcv hcu ML
    go_wp2_with fail
    go_loopw [14, 15, 16] (fun x y i wr => ∃ (k : Nat) (av au : Option Addr) (cv cu : Nat), k ≤ more.length ∧ i = .int .i64 (k : Int) ∧ x = .slice av (lK addr l more k).length cv ∧ y = .slice au (mK core addr l more k).length cu ∧ Hid (Pr w2 wr (.slice av (lK addr l more k).length cv) (.slice au (mK core addr l more k).length cu) (lK addr l more k) (mK core addr l more k))) (fun _ _ i _ => more.length - (intOf i).toNat)
    case atStart =>
      have e1 : lK addr l more 0 = l := by simp [lK]
      have e2 : mK core addr l more 0 = l := by simp [mK]
      exact ⟨0, av, au, cv, cu, Nat.zero_le _, rfl, by rw [e1], by rw [e2], by rw [e1, e2]; exact P0⟩
    case round =>
      clear P0
      obtain ⟨k, av, au, cv, cu, hk, rfl, rfl, rfl, P⟩ := hrel
      by_cases hlt : k < more.length
      · obtain ⟨b, off, ha, hb, q0, q1, q2, q3⟩ := MM.out k more[k] (List.getElem?_eq_getElem hlt)
        have HBB := Lib.hid hb
        have e1 := Lib.hid (lK_succ (addr := addr) (l := l) hlt)
        have e2 := Lib.hid (mK_succ (core := core) (addr := addr) (l := l) hlt)
        have g1 := lK_len addr l more k
        have g2 := mK_len core addr l more k
        have QQ : Hid (∀ W, Fr Nil w2 W → W.cell? ⟨b, off + k * 4, none⟩ = some (.int .i64 more[k].k) ∧ W.cell? ⟨b, off + k * 4 + 1, none⟩ = some (.int .i64 more[k].c) ∧ W.cell? ⟨b, off + k * 4 + 2, none⟩ = some (.int .u64 more[k].a) ∧ W.cell? ⟨b, off + k * 4 + 3, none⟩ = some (.int .u32 more[k].w)) :=
          Lib.hid fun W hW => ⟨(hW.cell (p := ⟨b, off + k * 4, none⟩) hb id).trans q0, (hW.cell (p := ⟨b, off + k * 4 + 1, none⟩) hb id).trans q1, (hW.cell (p := ⟨b, off + k * 4 + 2, none⟩) hb id).trans q2, (hW.cell (p := ⟨b, off + k * 4 + 3, none⟩) hb id).trans q3⟩
        clear q0 q1 q2 q3 hb
        subst ha
        have hOK := OKM.out _ (List.getElem_mem hlt)
        obtain ⟨k0, k1, d0, d1, b0, b1, w0', w1'⟩ := hOK
        generalize more[k] = n at *
        obtain ⟨nk, nc, na, nw⟩ := n
        dsimp only at *
        obtain ⟨q0, q1, q2, q3⟩ := QQ.out wr P.out.fr
        generalize hL : lK addr l more k = L at *
        generalize hM : mK core addr l more k = M at *
        clear hL hM
        have hcase : (nk = 1 ∧ (na == addr) = true) ∨ (notW addr ⟨nk, nc, na, nw⟩ = true ∧ ((nk = 1 ∧ (na == addr) = false) ∨ ((nk == 1) = false ∧ (nk != 4) = true) ∨ (nk = 4 ∧ (nc == core) = true) ∨ (nk = 4 ∧ (nc == core) = false))) := by
          by_cases h1 : nk = 1
          · cases h2 : (na == addr)
            · exact .inr ⟨by simp [notW, isW, h2], .inl ⟨h1, rfl⟩⟩
            · exact .inl ⟨h1, rfl⟩
          · refine .inr ⟨by simp [notW, isW, h1], ?_⟩
            by_cases h4 : nk = 4
            · cases h2 : (nc == core)
              · exact .inr (.inr (.inr ⟨h4, rfl⟩))
              · exact .inr (.inr (.inl ⟨h4, rfl⟩))
            · exact .inr (.inl ⟨by simp [h1], by simp [h4]⟩)
        rcases hcase with ⟨rfl, h2⟩ | ⟨hn, hcs⟩
        · rw [if_neg (by simp [notW, isW, h2])] at e1
          rw [if_neg (by simp [notW, isW, h2])] at e2
          go_wp2_with fail
          go_roundw
          case rel => exact ⟨k + 1, av, au, cv, cu, by omega, by go_num, by rw [e1.out], by rw [e2.out], by rw [e1.out, e2.out]; exact P⟩
          case measure => simp [intOf]; omega
        · rw [if_pos hn] at e1
          rw [hn, Bool.true_and] at e2
          clear hn
          rcases hcs with ⟨rfl, h2⟩ | ⟨h1, h2⟩ | ⟨rfl, h2⟩ | ⟨rfl, h2⟩
          · rw [if_pos (by simp [mine])] at e2
            go_wp2_with (first
              | (refine wpList_append_win _ rfl (.tmp 63) (.tmp 68) 22 rfl 31 i31 _ 4 32 Try.underlying22 hi31 hz0 hz1 hz2 rfl (by decide) _ _ _ rfl (P.out.l.alloc _) ⟨wr.heap.size, 0, none⟩ 1 1 [.int .i64 1, .int .i64 nc, .int .u64 na, .int .u32 nw] rfl rfl (news4 wr _ _ _ _ _) (by simp [Value.oneCell']) (by omega) (by simp only [maxLen]; omega) (by omega) (wr.heap.size + 1) (by simp) ?_; intro g7 o7 cp7 w7 hw hg hat; have P7 := Lib.hid (P.out.pushL (n := ⟨1, nc, na, nw⟩) hw ((World.grownBy_alloc wr _ _).trans hg) hat); obtain ⟨q0, q1, q2, q3⟩ := QQ.out w7 P7.out.fr; clear hw hg hat)
              | (refine wpList_append_win _ rfl (.tmp 85) (.tmp 90) 22 rfl 31 i31 _ 4 32 Try.underlying22 hi31 hz0 hz1 hz2 rfl (by decide) _ _ _ rfl (P7.out.m.alloc _) ⟨w7.heap.size, 0, none⟩ 1 1 [.int .i64 1, .int .i64 nc, .int .u64 na, .int .u32 nw] rfl rfl (news4 w7 _ _ _ _ _) (by simp [Value.oneCell']) (by omega) (by simp only [maxLen]; omega) (by omega) (w7.heap.size + 1) (by simp) ?_; intro g8 o8 cp8 w8 hw hg hat; have P8 := Lib.hid (P7.out.pushM (n := ⟨1, nc, na, nw⟩) hw ((World.grownBy_alloc w7 _ _).trans hg) hat); obtain ⟨q0, q1, q2, q3⟩ := QQ.out w8 P8.out.fr; clear hw hg hat))
            go_roundw
            case rel => exact ⟨k + 1, _, _, _, _, by omega, by go_num, by rw [e1.out, List.length_append]; rfl, by rw [e2.out, List.length_append]; rfl, by rw [e1.out, e2.out, List.length_append, List.length_append]; exact P8⟩
            case measure => simp [intOf]; omega
          · rw [if_pos (by simp only [mine, h2, Bool.true_or])] at e2
            go_wp2_with (first
              | (refine wpList_append_win _ rfl (.tmp 63) (.tmp 68) 22 rfl 31 i31 _ 4 32 Try.underlying22 hi31 hz0 hz1 hz2 rfl (by decide) _ _ _ rfl (P.out.l.alloc _) ⟨wr.heap.size, 0, none⟩ 1 1 [.int .i64 nk, .int .i64 nc, .int .u64 na, .int .u32 nw] rfl rfl (news4 wr _ _ _ _ _) (by simp [Value.oneCell']) (by omega) (by simp only [maxLen]; omega) (by omega) (wr.heap.size + 1) (by simp) ?_; intro g7 o7 cp7 w7 hw hg hat; have P7 := Lib.hid (P.out.pushL (n := ⟨nk, nc, na, nw⟩) hw ((World.grownBy_alloc wr _ _).trans hg) hat); obtain ⟨q0, q1, q2, q3⟩ := QQ.out w7 P7.out.fr; clear hw hg hat)
              | (refine wpList_append_win _ rfl (.tmp 85) (.tmp 90) 22 rfl 31 i31 _ 4 32 Try.underlying22 hi31 hz0 hz1 hz2 rfl (by decide) _ _ _ rfl (P7.out.m.alloc _) ⟨w7.heap.size, 0, none⟩ 1 1 [.int .i64 nk, .int .i64 nc, .int .u64 na, .int .u32 nw] rfl rfl (news4 w7 _ _ _ _ _) (by simp [Value.oneCell']) (by omega) (by simp only [maxLen]; omega) (by omega) (w7.heap.size + 1) (by simp) ?_; intro g8 o8 cp8 w8 hw hg hat; have P8 := Lib.hid (P7.out.pushM (n := ⟨nk, nc, na, nw⟩) hw ((World.grownBy_alloc w7 _ _).trans hg) hat); obtain ⟨q0, q1, q2, q3⟩ := QQ.out w8 P8.out.fr; clear hw hg hat))
            go_roundw
            case rel => exact ⟨k + 1, _, _, _, _, by omega, by go_num, by rw [e1.out, List.length_append]; rfl, by rw [e2.out, List.length_append]; rfl, by rw [e1.out, e2.out, List.length_append, List.length_append]; exact P8⟩
            case measure => simp [intOf]; omega
          · rw [if_pos (by simp only [mine, h2, Bool.or_true])] at e2
            go_wp2_with (first
              | (refine wpList_append_win _ rfl (.tmp 63) (.tmp 68) 22 rfl 31 i31 _ 4 32 Try.underlying22 hi31 hz0 hz1 hz2 rfl (by decide) _ _ _ rfl (P.out.l.alloc _) ⟨wr.heap.size, 0, none⟩ 1 1 [.int .i64 4, .int .i64 nc, .int .u64 na, .int .u32 nw] rfl rfl (news4 wr _ _ _ _ _) (by simp [Value.oneCell']) (by omega) (by simp only [maxLen]; omega) (by omega) (wr.heap.size + 1) (by simp) ?_; intro g7 o7 cp7 w7 hw hg hat; have P7 := Lib.hid (P.out.pushL (n := ⟨4, nc, na, nw⟩) hw ((World.grownBy_alloc wr _ _).trans hg) hat); obtain ⟨q0, q1, q2, q3⟩ := QQ.out w7 P7.out.fr; clear hw hg hat)
              | (refine wpList_append_win _ rfl (.tmp 85) (.tmp 90) 22 rfl 31 i31 _ 4 32 Try.underlying22 hi31 hz0 hz1 hz2 rfl (by decide) _ _ _ rfl (P7.out.m.alloc _) ⟨w7.heap.size, 0, none⟩ 1 1 [.int .i64 4, .int .i64 nc, .int .u64 na, .int .u32 nw] rfl rfl (news4 w7 _ _ _ _ _) (by simp [Value.oneCell']) (by omega) (by simp only [maxLen]; omega) (by omega) (w7.heap.size + 1) (by simp) ?_; intro g8 o8 cp8 w8 hw hg hat; have P8 := Lib.hid (P7.out.pushM (n := ⟨4, nc, na, nw⟩) hw ((World.grownBy_alloc w7 _ _).trans hg) hat); obtain ⟨q0, q1, q2, q3⟩ := QQ.out w8 P8.out.fr; clear hw hg hat))
            go_roundw
            case rel => exact ⟨k + 1, _, _, _, _, by omega, by go_num, by rw [e1.out, List.length_append]; rfl, by rw [e2.out, List.length_append]; rfl, by rw [e1.out, e2.out, List.length_append, List.length_append]; exact P8⟩
            case measure => simp [intOf]; omega
          · rw [if_neg (by simp [mine, h2])] at e2
            go_wp2_with (first
              | (refine wpList_append_win _ rfl (.tmp 63) (.tmp 68) 22 rfl 31 i31 _ 4 32 Try.underlying22 hi31 hz0 hz1 hz2 rfl (by decide) _ _ _ rfl (P.out.l.alloc _) ⟨wr.heap.size, 0, none⟩ 1 1 [.int .i64 4, .int .i64 nc, .int .u64 na, .int .u32 nw] rfl rfl (news4 wr _ _ _ _ _) (by simp [Value.oneCell']) (by omega) (by simp only [maxLen]; omega) (by omega) (wr.heap.size + 1) (by simp) ?_; intro g7 o7 cp7 w7 hw hg hat; have P7 := Lib.hid (P.out.pushL (n := ⟨4, nc, na, nw⟩) hw ((World.grownBy_alloc wr _ _).trans hg) hat); obtain ⟨q0, q1, q2, q3⟩ := QQ.out w7 P7.out.fr; clear hw hg hat))
            go_roundw
            case rel => exact ⟨k + 1, _, _, _, _, by omega, by go_num, by rw [e1.out, List.length_append]; rfl, by rw [e2.out], by rw [e1.out, e2.out, List.length_append]; exact P7⟩
            case measure => simp [intOf]; omega
      · have hk' : k = more.length := by omega
        subst hk'
        have hd : decide (more.length < more.length) = false := by simp
        have g1 := lK_len addr l more more.length
        have g2 := mK_len core addr l more more.length
        have e1 : lK addr l more more.length = l ++ more.filter (notW addr) := by simp [lK]
        have e2 : mK core addr l more more.length = l ++ more.filter (fun n => notW addr n && mine core n) := by simp [mK]
        have okL : ∀ n ∈ lK addr l more more.length, n.Ok := by
          intro n hn
          rw [e1] at hn
          rcases List.mem_append.1 hn with h | h
          · exact OK.out n h
          · exact OKM.out n (List.mem_filter.1 h).1
        have okM : ∀ n ∈ mK core addr l more more.length, n.Ok := by
          intro n hn
          rw [e2] at hn
          rcases List.mem_append.1 hn with h | h
          · exact OK.out n h
          · exact OKM.out n (List.mem_filter.1 h).1
        have hsame : may core addr first (mK core addr l more more.length) = may core addr first (lK addr l more more.length) := by rw [e1, e2]; exact less_may_same core addr first l more
        have hsub : ∀ x ∈ may core addr first (lK addr l more more.length), (may core addr first l).contains x = true := by
          intro x hx
          rw [e1] at hx
          rw [List.contains_iff_mem]
          exact less_may_sub core addr first l more x hx
        have hokM : mayOk core addr (lK addr l more more.length) = true → mayOk core addr (mK core addr l more more.length) = true := by
          rw [e1, e2]
          intro h
          have hp := (mayOk_parts h).2.2.2
          refine mayOk_append HOK.out _ ?_
          rw [rightL_append] at hp
          have hq := (Bool.and_eq_true_iff.1 hp).2
          unfold rightL at hq ⊢
          rw [List.all_eq_true] at hq ⊢
          intro n hn
          obtain ⟨h1, h2⟩ := List.mem_filter.1 hn
          exact hq n (List.mem_filter.2 ⟨h1, (Bool.and_eq_true_iff.1 h2).1⟩)
        have hpos := may_pos core addr first (lK addr l more more.length)
        have hmB := may_len core addr first (lK addr l more more.length)
        have hcl : (lK addr l more more.length).length ≤ cv := by obtain ⟨_, _, he, h, _, _⟩ := P.out.l.shape; cases he; exact h
        have hcm : (mK core addr l more more.length).length ≤ cu := by obtain ⟨_, _, he, h, _, _⟩ := P.out.m.shape; cases he; exact h
        have NL := Lib.hid P.out.l.nts
        have NM := Lib.hid P.out.m.nts
        have PF := Lib.hid P.out.fr
        have SAME := Lib.hid hsame
        have SUB := Lib.hid hsub
        have OKL := Lib.hid okL
        have OKM' := Lib.hid okM
        have HOKM := Lib.hid hokM
        have CL := Lib.hid hcl
        have CM := Lib.hid hcm
        clear e1 e2 okL okM hsame hsub hokM hcl hcm P
        generalize lK addr l more more.length = L at *
        generalize mK core addr l more more.length = M at *
        cases hb : mayOk core addr L with
        | false =>
          have N1 := Lib.hid (may_no L OKL.out core addr first a0 a1 av cv wr (by unfold maxLen; omega) CL.out NL.out hb)
          clear hb
          go_wp2_with fail
          refine N1.out.mono ?_
          rintro e w7 ⟨rfl, F7⟩
          have F7' := Lib.hid F7
          clear F7
          go_wp2_with fail
          cases hq : mayOk core addr M with
          | false =>
            refine (may_no M OKM'.out core addr first a0 a1 au cu w7 (by unfold maxLen; omega) CM.out (NM.out.fr F7'.out) hq).mono ?_
            rintro e w8 ⟨rfl, F8⟩
            have F8' := Lib.hid F8
            clear F8 hq
            go_wp2_with fail
            go_ret
            exact ⟨rfl, ((FA.out.trans PF.out).trans F7'.out).trans F8'.out⟩
          | true =>
            refine (may_yes2 M rfl OKM'.out core addr first a0 a1 au cu w7 (by omega) CM.out (NM.out.fr F7'.out) hq rfl rfl).mono ?_
            rintro e w8 ⟨a8, c8, rfl, F8, D8, q8, k8⟩
            have F8' := Lib.hid F8
            clear F8 hq D8 q8 k8
            go_wp2_with fail
            go_ret
            exact ⟨rfl, ((FA.out.trans PF.out).trans F7'.out).trans F8'.out⟩
        | true =>
          have N1 := Lib.hid (may_yes2 L rfl OKL.out core addr first a0 a1 av cv wr (by omega) CL.out NL.out hb rfl rfl)
          have hq := HOKM.out hb
          have N2 := Lib.hid (fun W h => may_yes2 M rfl OKM'.out core addr first a0 a1 au cu W (by omega) CM.out h hq SAME.out rfl)
          clear hb hq
          go_wp2_with fail
          refine N1.out.mono ?_
          rintro e w7 ⟨a7, c7, rfl, F7, D7, q7, _⟩
          have F7' := Lib.hid F7
          have D7' := Lib.hid D7
          have Q7 := Lib.hid q7
          clear F7 D7 q7
          go_wp2_with fail
          refine (N2.out w7 (NM.out.fr F7'.out)).mono ?_
          rintro e w8 ⟨a8, c8, rfl, F8, D8, q8, _⟩
          have DA8 := Lib.hid (((DA.out.fr PF.out).fr F7'.out).fr F8)
          have DB8 := Lib.hid (D7'.out.fr F8)
          have DC8 := Lib.hid D8
          have Q8 := Lib.hid q8
          have FF := Lib.hid (((FA.out.trans PF.out).trans F7'.out).trans F8)
          clear F8 D8 q8 F7' D7' N1 N2 DA
          generalize may core addr first L = B at *
          go_wp2_with fail
          go_loop [21] (fun i => ∃ k : Nat, k ≤ B.length ∧ i = .int .i64 (k : Int)) (fun i => B.length - (intOf i).toNat)
          case atStart => exact ⟨0, Nat.zero_le _, rfl⟩
          case round =>
            obtain ⟨k, hk, rfl⟩ := hrel
            by_cases hlt : k < B.length
            · obtain ⟨b, off, ha, hb, cx⟩ := DB8.out k _ (List.getElem?_eq_getElem hlt)
              have IN := Lib.hid (in_ok (may core addr first l) B[k] ao cp w8 (by unfold maxLen; omega) hcp DA8.out)
              rw [SUB.out _ (List.getElem_mem hlt)] at IN
              subst ha
              go_wp2_with (go_at_call 11; refine IN.out.mono ?_; rintro e w' ⟨rfl, rfl⟩)
              go_round
              case rel => exact ⟨k + 1, by omega, by go_num⟩
              case measure => simp [intOf]; omega
            · have hk' : k = B.length := by omega
              subst hk'
              have hd : decide (B.length < B.length) = false := by simp
              go_wp2_with fail
              refine (same_ok B a7 a8 c7 c8 w8 (by unfold maxLen; omega) Q7.out Q8.out DB8.out DC8.out).mono ?_
              rintro e w9 ⟨rfl, F9⟩
              have F9' := Lib.hid F9
              clear F9
              go_wp2_with fail
              go_ret
              exact ⟨rfl, FF.out.trans F9'.out⟩
theorem fetchLess_walk (a0 : Option Addr) (len cap : Nat) (V : Nat → Nat → Int) (a1 : Option Addr) (len1 cap1 : Nat) (V1 : Nat → Nat → Int) (core addr first : Int) (w : World) (hl : len ≤ cap) (hcap : cap ≤ maxLen) (hs : SlRows [.i64, .i64, .u64, .u32] w a0 len V) (z : len ≤ 1048576) (hl1 : len1 ≤ cap1) (hcap1 : cap1 ≤ maxLen) (hs1 : SlRows [.i64, .i64, .u64, .u32] w a1 len1 V1) (z1 : len1 ≤ 1048576) (w1 : (Lit.int .i64 core).wf = true) (w2 : (Lit.int .u64 addr).wf = true) (w3 : (Lit.int .u32 first).wf = true) :
    Calls Try.prog 4 #[.slice a0 len cap, .slice a1 len1 cap1, .int .i64 core, .int .u64 addr, .int .u32 first] w fun e w' => e = .returned (.bool true) ∧ Below w.heap.size w w' := by
  obtain ⟨c0, c1⟩ := i64_rng w1
  obtain ⟨b0, b1⟩ := u64_rng w2
  obtain ⟨x0, x1⟩ := u32_rng w3
  have h := less_gen (lN V len) (lN V1 len1) (lN_ok hs) (lN_ok hs1) a0 a1 cap cap1 core addr first w (by rw [lN_length]; omega) (by rw [lN_length]; omega) (by rw [lN_length]; exact hl) (by rw [lN_length]; exact hl1) (lN_nts hs) (lN_nts hs1) c0 c1 b0 b1 x0 x1
  rw [lN_length, lN_length] at h
  exact h.mono fun e w' h => ⟨h.1, Fr.bel h.2⟩
end Go.Proofs.Ytdbgfnkcphbgfaa
