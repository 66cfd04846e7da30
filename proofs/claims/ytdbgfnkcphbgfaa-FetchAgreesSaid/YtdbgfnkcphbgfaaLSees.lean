/- The walk of FetchSees. -/
import Derived.Test.YtdbgfnkcphbgfaaExs
namespace Go.Proofs.Ytdbgfnkcphbgfaa
open Go.RowKit
set_option linter.unusedVariables false

theorem Try.info31 : (Try.prog.info? 31).map (fun i => (i.zero, i.size, i.bytes)) = some (some (.agg #[.int .i64 0, .int .i64 0, .int .u64 0, .int .u32 0]), 4, 32) := by kernel_rfl
theorem oneN (l : List N) : ∀ u ∈ ncs l, u.oneCell' = true := by
  intro u hu
  simp only [ncs, List.mem_flatMap, ncells] at hu
  obtain ⟨n, _, hn⟩ := hu
  simp only [List.mem_cons, List.not_mem_nil, or_false] at hn
  rcases hn with rfl | rfl | rfl | rfl <;> rfl
theorem Nts.cellAt {w : World} {a : Option Addr} {l : List N} (h : Nts w a l) (hl : 0 < l.length) : ∃ b off, a = some ⟨b, off, none⟩ ∧ ∀ j u, (ncs l)[j]? = some u → w.cell? ((⟨b, off, none⟩ : Addr).add j) = some u := by
  obtain ⟨b, off, rfl, _⟩ := h 0 _ (List.getElem?_eq_getElem hl)
  refine ⟨b, off, rfl, fun j u hu => ?_⟩
  rw [Addr.add_lit]
  have hj : j < (ncs l).length := (List.getElem?_eq_some_iff.1 hu).1
  rw [ncs_length] at hj
  obtain ⟨i, r, hr, rfl⟩ : ∃ i r, r < 4 ∧ j = i * 4 + r := ⟨j / 4, j % 4, by omega, by omega⟩
  have hi : i < l.length := by omega
  have hg := List.getElem?_eq_getElem hi
  rw [ncs_get hg hr] at hu
  obtain ⟨b', off', he, _, h0, h1, h2, h3⟩ := h i _ hg
  cases he
  rw [← Nat.add_assoc]
  have : r = 0 ∨ r = 1 ∨ r = 2 ∨ r = 3 := by omega
  rcases this with rfl | rfl | rfl | rfl <;> (simp only [ncells, List.getElem?_cons_zero, List.getElem?_cons_succ, Option.some.injEq] at hu; subst hu; assumption)
/-- append([]Note(nil), l...). -/
theorem wpList_copy_nts {ops : Array Oper} {rest : List Oper} {o : Oper} {a : Act} {w : World} {Q : Exit → Act → World → Prop} (hgd : o.guard = none) (s x : Operand)
    (ho : o.op = .call { callee := .builtin .append, args := #[s, x], argTypes := #[22, 22] }) (hs : a.eval s = .slice none 0 0)
    (l : List N) (ao : Option Addr) (cap : Nat) (hx : a.eval x = .slice ao l.length cap) (hm : Nts w ao l) (hl : l.length ≤ 4398046511096)
    (h : ∀ v w', Win w' 31 4 v l.length (ncs l) → Fr Nil w w' → (∀ k, v.ownBlock = some k → w.heap.size ≤ k) → wpList Try.prog ops Q rest (a.put o.dst v) w') : wpList Try.prog ops Q (o :: rest) a w := by
  obtain ⟨i31, hi, hz0, hz1, hz2⟩ := info_parts Try.info31
  rcases Nat.eq_zero_or_pos l.length with h0 | h0
  · have hn : l = [] := List.eq_nil_of_length_eq_zero h0
    subst hn
    refine wpList_plain hgd fun K hK => ?_
    have hr : (Builtin.append_ #[22, 22] o.type #[.slice none 0 0, .slice ao 0 cap]).run Try.prog w = .ok (.slice none 0 0) w := by
      cases ao with
      | none => simp [Builtin.append_, run_underlying Try.underlying22, sizeOf, typeInfo, hi, Builtin.lenOf, run_firstCells_none, storeCells]
      | some ad =>
        have hf := run_firstCells_some (P := Try.prog) w i31.size 0 ad 0 cap [] (by simp) (by simp)
        simp [Builtin.append_, run_underlying Try.underlying22, sizeOf, typeInfo, hi, Builtin.lenOf, hf, storeCells]
    unfold Oper.wp execOp
    simp only [ho, resolve, invoke, builtin, Sem.run_bind, Sem.run_pure, Result.andThen_ok, List.map_toArray, List.map_cons, List.map_nil, hs, hx, List.length_nil, hr]
    exact hK _ _ (h _ w (Win.nil _ _ _) (Fr.refl _ _) (fun k hk => by cases hk))
  · obtain ⟨b, off, rfl, hcell⟩ := hm.cellAt h0
    refine wpList_append_win w hgd s x 22 ho 31 i31 _ 4 32 Try.underlying22 hi hz0 hz1 hz2 rfl (by decide) _ 0 [] hs (Win.nil _ _ _) ⟨b, off, none⟩ l.length cap (ncs l) hx (ncs_length l) hcell (oneN l) h0 (by simp only [maxLen]; omega) (by omega) w.heap.size rfl ?_
    intro g off' cap' w' hw hg hat
    rw [Nat.zero_add, List.nil_append] at hw
    refine h _ w' (by rw [Nat.zero_add]; exact hw) ((Fr.refl Nil w).grown hg fun k hk => by cases hk) fun k hk => ?_
    cases hk
    rcases hat with hat | hat
    · cases hat
    · exact Nat.le_of_eq hat.symm
theorem Wds.frS {S : Nat → Prop} {w w' : World} {a : Option Addr} {l : List Int} (h : Wds w a l) (hf : Fr S w w') (hS : ∀ b off, a = some ⟨b, off, none⟩ → b < w.heap.size → ¬ S b) : Wds w' a l := by
  intro i n hi
  obtain ⟨b, off, ha, hlt, h0⟩ := h i n hi
  exact ⟨b, off, ha, Nat.lt_of_lt_of_le hlt hf.size, (hf.cell (p := ⟨b, _, none⟩) hlt (hS b off ha hlt)).trans h0⟩
theorem u32_rng {a : Int} (h : (Lit.int .u32 a).wf = true) : 0 ≤ a ∧ a ≤ 4294967295 := by
  simp only [Lit.wf, Bool.and_eq_true, decide_eq_true_eq] at h
  exact h
/-- Notes that came in. -/
def lN (V : Nat → Nat → Int) (n : Nat) : List N := (List.range n).map fun i => ⟨V i 0, V i 1, V i 2, V i 3⟩
theorem lN_length (V : Nat → Nat → Int) (n : Nat) : (lN V n).length = n := by simp [lN]
theorem lN_ok {w : World} {a : Option Addr} {len : Nat} {V : Nat → Nat → Int} (hs : SlRows [.i64, .i64, .u64, .u32] w a len V) : ∀ n ∈ lN V len, n.Ok := by
  intro n hn
  simp only [lN, List.mem_map, List.mem_range] at hn
  obtain ⟨i, hi, rfl⟩ := hn
  obtain ⟨b, off, _, _, hc⟩ := hs i hi
  obtain ⟨a0, a1⟩ := i64_rng (hc 0 .i64 rfl).2
  obtain ⟨b0, b1⟩ := i64_rng (hc 1 .i64 rfl).2
  obtain ⟨c0, c1⟩ := u64_rng (hc 2 .u64 rfl).2
  obtain ⟨d0, d1⟩ := u32_rng (hc 3 .u32 rfl).2
  exact ⟨a0, a1, b0, b1, c0, c1, d0, d1⟩
theorem lN_nts {w : World} {a : Option Addr} {len : Nat} {V : Nat → Nat → Int} (hs : SlRows [.i64, .i64, .u64, .u32] w a len V) : Nts w a (lN V len) := by
  intro i n hi
  have hlt : i < len := by have := (List.getElem?_eq_some_iff.1 hi).1; rwa [lN_length] at this
  simp only [lN, List.getElem?_map, List.getElem?_range hlt, Option.map_some, Option.some.injEq] at hi
  subst hi
  obtain ⟨b, off, ha, hb, hc⟩ := hs i hlt
  exact ⟨b, off, ha, hb, (hc 0 .i64 rfl).1, (hc 1 .i64 rfl).1, (hc 2 .u64 rfl).1, (hc 3 .u32 rfl).1⟩
/-- May's answer, the slice written out. -/
theorem may_yes' (l : List N) (ok : ∀ n ∈ l, n.Ok) (core addr first : Int) (ha0 : 0 ≤ addr) (ha1 : addr ≤ 18446744073709551615) (a : Option Addr) (cap : Nat) (w : World) (hl : l.length ≤ 4398046511096) (hc : l.length ≤ cap) (hm : Nts w a l) (hok : mayOk core addr l = true) :
    Calls Try.prog 7 #[.slice a l.length cap, .int .i64 core, .int .u64 addr, .int .u32 first] w fun e w' => ∃ ao cp, e = .returned (.tuple #[.slice ao (may core addr first l).length cp, .int .i64 0]) ∧ Fr Nil w w' ∧ Wds w' ao (may core addr first l) ∧ (may core addr first l).length ≤ cp ∧ (∀ b off, ao = some ⟨b, off, none⟩ → w.heap.size ≤ b) :=
  (may_yes l ok core addr first ha0 ha1 a cap w hl hc hm hok).mono fun e w' ⟨v, he, hf, hw, hk⟩ => by
    obtain ⟨ao, cp, rfl, hc, _, _⟩ := hw.shape
    exact ⟨ao, cp, he, hf, hw.wds, hc, fun b off h => by subst h; exact hk b rfl⟩
theorem may_len (core addr first : Int) (l : List N) : (may core addr first l).length ≤ l.length + 1 := by
  have h1 := dd_len (wordsV (vers core addr first l))
  have h2 := wordsV_len (vers core addr first l)
  have h3 := (vers_len core addr first l).2
  unfold may; omega
theorem may_yes2 {n m : Nat} {out : List Int} (l : List N) (hn : l.length = n) (ok : ∀ n ∈ l, n.Ok) (core addr first : Int) (ha0 : 0 ≤ addr) (ha1 : addr ≤ 18446744073709551615) (a : Option Addr) (cap : Nat) (w : World) (hl : l.length ≤ 4398046511096) (hc : n ≤ cap) (hm : Nts w a l) (hok : mayOk core addr l = true) (ho : may core addr first l = out) (hm' : out.length = m) :
    Calls Try.prog 7 #[.slice a n cap, .int .i64 core, .int .u64 addr, .int .u32 first] w fun e w' => ∃ ao cp, e = .returned (.tuple #[.slice ao m cp, .int .i64 0]) ∧ Fr Nil w w' ∧ Wds w' ao out ∧ m ≤ cp ∧ (∀ b off, ao = some ⟨b, off, none⟩ → w.heap.size ≤ b) := by
  subst hn ho hm'
  exact may_yes' l ok core addr first ha0 ha1 a cap w hl hc hm hok
theorem rightL_append (a b : List N) : rightL (a ++ b) = (rightL a && rightL b) := by simp [rightL]
theorem mayOk_append {core addr : Int} {l : List N} (h : mayOk core addr l = true) (b : List N) (hb : rightL b = true) : mayOk core addr (l ++ b) = true := by
  unfold mayOk at *
  rw [rightL_append, hb, Bool.and_true]
  exact h
theorem news4 (w : World) (a b c d : Value) (t : TypeId) : ∀ j u, [a, b, c, d][j]? = some u → (w.alloc (.cells #[a, b, c, d] t)).cell? ((⟨w.heap.size, 0, none⟩ : Addr).add j) = some u := by
  intro j u hu
  rw [Addr.add_lit, Nat.zero_add]
  exact (Blk.new w t #[a, b, c, d]).cellv (by simpa using hu)
theorem news8 (w : World) (a b c d a' b' c' d' : Value) (t : TypeId) : ∀ j u, [a, b, c, d, a', b', c', d'][j]? = some u → (w.alloc (.cells #[a, b, c, d, a', b', c', d'] t)).cell? ((⟨w.heap.size, 0, none⟩ : Addr).add j) = some u := by
  intro j u hu
  rw [Addr.add_lit, Nat.zero_add]
  exact (Blk.new w t #[a, b, c, d, a', b', c', d']).cellv (by simpa using hu)
set_option maxRecDepth 100000 in
set_option maxHeartbeats 2000000 in
theorem sees_gen (l : List N) (ok : ∀ n ∈ l, n.Ok) (a : Option Addr) (cap : Nat) (core addr word : Int) (all : Bool) (w : World) (hl : l.length ≤ 4398046511000) (hc : l.length ≤ cap) (hm : Nts w a l)
    (c0 : -9223372036854775808 ≤ core) (c1 : core ≤ 9223372036854775807) (a0 : 0 ≤ addr) (a1 : addr ≤ 18446744073709551615) (x0 : 0 ≤ word) (x1 : word ≤ 4294967295) :
    Calls Try.prog 3 #[.slice a l.length cap, .int .i64 core, .int .u64 addr, .int .u32 word, .bool all] w fun e w' => e = .returned (.bool true) ∧ Fr Nil w w' := by
  have HM := Lib.hid hm
  have OK := Lib.hid ok
  clear hm ok
  cases hok : mayOk core addr l with
  | false =>
    have HN := Lib.hid (fun W h => may_no l OK.out core addr 1 a0 a1 a cap W (by unfold maxLen; omega) hc h hok)
    clear hok
    go_enter Try.func3, Try.ntmps3
    go_wp2_with fail
    refine (examples_ok w).mono ?_
    rintro e w1 ⟨rfl, F1⟩
    go_wp2_with fail
    refine (HN.out _ (HM.out.fr F1)).mono ?_
    rintro e w2 ⟨rfl, F2⟩
    go_wp2_with fail
    go_ret
    exact ⟨rfl, F1.trans F2⟩
  | true =>
    have HY := Lib.hid (fun W h => may_yes' l OK.out core addr 1 a0 a1 a cap W (by omega) hc h hok)
    have hml := may_len core addr 1 l
    have HOK := Lib.hid hok
    obtain ⟨i31, hi31, hz0, hz1, hz2⟩ := info_parts Try.info31
    clear hok
    go_enter Try.func3, Try.ntmps3
    go_wp2_with fail
    refine (examples_ok w).mono ?_
    rintro e w1 ⟨rfl, F1⟩
    go_wp2_with fail
    refine (HY.out _ (HM.out.fr F1)).mono ?_
    rintro e w2 ⟨ao, cp, rfl, F2, D2, hcp, _⟩
    have FA := Lib.hid (F1.trans F2)
    have DA := Lib.hid D2
    clear F1 F2 D2 HY
    go_wp2_with fail
    refine (ic_lit addr _).mono ?_
    rintro e w3 ⟨rfl, F3⟩
    go_upto_region 10 with fail
    · have H : ∃ y : N, isW addr y = false ∧ isI addr y = true ∧ y.Ok ∧ rightN y = true ∧ Blk (w3.alloc (.cells #[.int .i64 3, .int .i64 0, .int .u64 0, .int .u32 0] 31)) w3.heap.size 31 #[.int .i64 y.k, .int .i64 y.c, .int .u64 y.a, .int .u32 y.w] ∧ Fr Nil w2 (w3.alloc (.cells #[.int .i64 3, .int .i64 0, .int .u64 0, .int .u32 0] 31)) :=
        ⟨⟨3, 0, 0, 0⟩, rfl, rfl, okN _ _ _ _ (by omega), by decide, Blk.new _ _ _, F3.alloc _⟩
      generalize (w3.alloc (.cells #[.int .i64 3, .int .i64 0, .int .u64 0, .int .u32 0] 31)) = W4 at *
      obtain ⟨y, hy1, hy2, hy3, hy4, hB, hF⟩ := H
      have YB := Lib.hid hB
      have YF := Lib.hid (FA.out.trans hF)
      have YD := Lib.hid (DA.out.fr hF)
      have YY := Lib.hid (And.intro hy1 (And.intro hy2 (And.intro hy3 hy4)))
      have ML := Lib.hid (HM.out.fr YF.out)
      clear hy1 hy2 hy3 hy4 hB hF DA FA HM F3
      generalize w3.heap.size = xb at *
      go_wp2_with (first
        | (refine wpList_copy_nts rfl _ _ rfl rfl l _ _ rfl ML.out (by omega) ?_; intro v w5 hw5 F5 hk5; obtain ⟨av, cv, rfl, _, _, _⟩ := hw5.shape; have W5 := Lib.hid hw5; have F5' := Lib.hid F5; have K5 := Lib.hid hk5; clear hw5 F5 hk5)
        | (go_at_call 9; refine (write_lit addr word _).mono ?_; rintro e w6 ⟨rfl, F6⟩; have F6' := Lib.hid F6; have W6 := Lib.hid (W5.out.fr F6 (fun _ _ => id)); clear F6)
        | (refine wpList_append_win _ rfl (.tmp 46) (.tmp 50) 22 rfl 31 i31 _ 4 32 Try.underlying22 hi31 hz0 hz1 hz2 rfl (by decide) _ _ _ rfl (W6.out.alloc _) ⟨w6.heap.size, 0, none⟩ 1 1 [.int .i64 1, .int .i64 0, .int .u64 addr, .int .u32 word] rfl rfl (news4 w6 _ _ _ _ _) (by simp [Value.oneCell']) (by omega) (by simp only [maxLen]; omega) (by omega) (w6.heap.size + 1) (by simp) ?_; intro g7 o7 cp7 w7 hw7 hg7 hat7; have W7 := Lib.hid hw7; have G7 := Lib.hid ((World.grownBy_alloc w6 _ _).trans hg7); have A7 := Lib.hid hat7; clear hw7 hg7 hat7))
      have L7 : Hid (Nts w7 (some ⟨g7, o7, none⟩) (l ++ [⟨1, 0, addr, word⟩])) := Lib.hid (by
        have := W7.out
        rw [show ([.int .i64 1, .int .i64 0, .int .u64 addr, .int .u32 word] : List Value) = ncs [⟨1, 0, addr, word⟩] from rfl, ← ncs_append] at this
        exact this.nts)
      have f47 : Hid (Fr Nil W4 w7) := Lib.hid (by
        refine ((F5'.out.trans F6'.out)).grown G7.out fun k hk => .inr ?_
        exact K5.out k hk)
      obtain ⟨_, _, he7, hcp7, _, _⟩ := W7.out.shape
      cases he7
      go_wp2_with fail
      refine (may_yes2 (l ++ [⟨1, 0, addr, word⟩]) (by simp) (by intro n hn; rcases List.mem_append.1 hn with h | h; exact OK.out n h; rw [List.mem_singleton.1 h]; exact okN _ _ _ _ (by omega)) core addr 1 a0 a1 _ _ _ (by simp; omega) hcp7 L7.out (mayOk_append HOK.out _ (by have := (mayOk_parts HOK.out).2.2.1; simp [rightL, rightN, this])) rfl rfl).mono ?_
      rintro e w8 ⟨a8, c8, rfl, F8, D8, q8, k8⟩
      have hg7 : g7 < w7.heap.size := W7.out.lt rfl
      have X8 := Lib.hid ((YB.out.fr0 f47.out).fr0 F8)
      have F8' := Lib.hid ((YF.out.trans f47.out).trans F8)
      have E8 := Lib.hid D8
      have K8 := Lib.hid (show ∀ b off, a8 = some ⟨b, off, none⟩ → g7 < b from fun b off h => by have := k8 b off h; omega)
      have F48 := Lib.hid (f47.out.trans F8)
      have S4 := Lib.hid YF.out.size
      have W8 := Lib.hid (W7.out.fr F8 (fun _ _ => id))
      have G8 := Lib.hid (show W4.heap.size ≤ g7 by
        rcases A7.out with h | h
        · exact K5.out _ h
        · have h1 := F5'.out.size
          have h2 := F6'.out.size
          omega)
      have S8 := Lib.hid (show W4.heap.size ≤ w8.heap.size from (f47.out.trans F8).size)
      have Q8 := Lib.hid q8
      have Q7 := Lib.hid hcp7
      have hm1 := may_len core addr 1 (l ++ [⟨1, 0, addr, word⟩])
      rw [List.length_append, List.length_singleton] at hm1
      clear D8 F8 q8 k8 hg7 hcp7 L7 f47 A7 G7 W7 F5' F6' K5 W5 W6 YB YF ML
      go_upto_region 12 with fail
      have k0 : w8.cell? ⟨xb, 0, none⟩ = some (.int .i64 y.k) := X8.out.cellv rfl
      have k1 : w8.cell? ⟨xb, 1, none⟩ = some (.int .i64 y.c) := X8.out.cellv rfl
      have k2 : w8.cell? ⟨xb, 2, none⟩ = some (.int .u64 y.a) := X8.out.cellv rfl
      have k3 : w8.cell? ⟨xb, 3, none⟩ = some (.int .u32 y.w) := X8.out.cellv rfl
      go_region_law (first
        | (refine step_append_win _ rfl (.tmp 60) (.tmp 64) 22 rfl 31 i31 _ 4 32 Try.underlying22 hi31 hz0 hz1 hz2 rfl (by decide) _ _ _ rfl (W9.out.alloc _) ⟨w9.heap.size, 0, none⟩ 2 2 [.int .i64 y.k, .int .i64 y.c, .int .u64 y.a, .int .u32 y.w, .int .i64 4, .int .i64 core, .int .u64 0, .int .u32 0] rfl rfl (news8 w9 _ _ _ _ _ _ _ _ _) (by simp [Value.oneCell']) (by omega) (by simp only [maxLen]; omega) (by omega) (w9.heap.size + 1) (by simp) ?_; intro g10 o10 cp10 w10 hw10 hg10 hat10; have W10 := Lib.hid hw10; have G10 := Lib.hid ((World.grownBy_alloc w9 _ _).trans hg10); clear hw10 hg10 hat10)
        | (go_simp; go_at_call 10; refine (isb_lit core _).mono ?_; rintro e w9 ⟨rfl, F9⟩; have W9 := Lib.hid (W8.out.drew.fr F9 (fun _ _ => id)); have F9' := Lib.hid ((Fr.drew (Fr.refl Nil w8)).trans F9); have k0 : w9.cell? ⟨xb, 0, none⟩ = some (.int .i64 y.k) := (X8.out.fr0 F9'.out).cellv rfl; have k1 : w9.cell? ⟨xb, 1, none⟩ = some (.int .i64 y.c) := (X8.out.fr0 F9'.out).cellv rfl; have k2 : w9.cell? ⟨xb, 2, none⟩ = some (.int .u64 y.a) := (X8.out.fr0 F9'.out).cellv rfl; have k3 : w9.cell? ⟨xb, 3, none⟩ = some (.int .u32 y.w) := (X8.out.fr0 F9'.out).cellv rfl; clear F9)
        | (go_simp; go_at_call 7; refine (may_yes2 (l ++ [⟨1, 0, addr, word⟩] ++ [y] ++ [⟨4, core, 0, 0⟩]) (by simp) (by intro n hn; simp only [List.mem_append, List.mem_singleton] at hn; rcases hn with ((h | h) | h) | h; exact OK.out n h; rw [h]; exact okN _ _ _ _ (by omega); rw [h]; exact YY.out.2.2.1; rw [h]; exact okN _ _ _ _ (by omega)) core addr 1 a0 a1 _ _ _ (by simp; omega) (by obtain ⟨_, _, he10, hcp10, _, _⟩ := W10.out.shape; cases he10; exact hcp10) (by
              have := W10.out
              rw [show ([.int .i64 y.k, .int .i64 y.c, .int .u64 y.a, .int .u32 y.w, .int .i64 4, .int .i64 core, .int .u64 0, .int .u32 0] : List Value) = ncs ([y] ++ [⟨4, core, 0, 0⟩]) from rfl, show ([.int .i64 1, .int .i64 0, .int .u64 addr, .int .u32 word] : List Value) = ncs [⟨1, 0, addr, word⟩] from rfl, ← ncs_append, ← ncs_append, ← List.append_assoc] at this
              exact this.nts) (mayOk_append (mayOk_append (mayOk_append HOK.out _ (by have := (mayOk_parts HOK.out).2.2.1; simp [rightL, rightN, this])) _ (by simp [rightL, YY.out.2.2.2])) _ (by have h1 := (mayOk_parts HOK.out).1; have h2 := (mayOk_parts HOK.out).2.1; simp [rightL, rightN, h1, h2])) (sees_only core addr 1 word l y YY.out.1 YY.out.2.1) rfl).mono ?_; rintro e w11 ⟨a11, c11, rfl, F11, D11, q11, _⟩; have F11' := Lib.hid (show Fr (One g7) w8 w11 from (F9'.out.nil.grown G10.out (fun k hk => .inl (by cases hk; rfl))).trans F11.nil); have D11' := Lib.hid D11; have Q11 := Lib.hid q11; clear F11 D11 q11))
      all_goals
        have DB := Lib.hid (YD.out.frS (F48.out.nil.trans F11'.out) fun b off h hlt hs => by have := G8.out; cases hs; omega)
        have DS := Lib.hid (E8.out.frS F11'.out fun b off h hlt hs => by have := K8.out b off h; cases hs; omega)
        have DO := Lib.hid D11'.out
        have FF := Lib.hid (show Fr Nil w w11 from F8'.out.step F11'.out fun i hi hs => .inr (by have := G8.out; have := S4.out; cases hs; omega))
        have SUB := Lib.hid (fun x (hx : x ∈ may core addr 1 l) => show (may core addr 1 (l ++ [⟨1, 0, addr, word⟩])).contains x = true by rw [List.contains_iff_mem, sees_some]; exact .inl hx)
        have LAST := Lib.hid (show (may core addr 1 (l ++ [⟨1, 0, addr, word⟩])).contains word = true by rw [List.contains_iff_mem, sees_some]; exact .inr rfl)
        clear YD F48 F11' E8 K8 D11' F8' S4 G8 G10 W10 W8 W9 F9' X8 k0 k1 k2 k3
        go_wp2_with fail
        go_loop [20] (fun i => ∃ k : Nat, k ≤ (may core addr 1 l).length ∧ i = .int .i64 (k : Int)) (fun i => (may core addr 1 l).length - (intOf i).toNat)
        case atStart => exact ⟨0, Nat.zero_le _, rfl⟩
        case round =>
          obtain ⟨k, hk, rfl⟩ := hrel
          by_cases hlt : k < (may core addr 1 l).length
          · obtain ⟨b, off, ha, hb, cx⟩ := DB.out k _ (List.getElem?_eq_getElem hlt)
            have IN := Lib.hid (in_ok (may core addr 1 (l ++ [⟨1, 0, addr, word⟩])) ((may core addr 1 l)[k]) a8 c8 w11 (by unfold maxLen; omega) Q8.out DS.out)
            rw [SUB.out _ (List.getElem_mem hlt)] at IN
            subst ha
            go_wp2_with (go_at_call 11; refine IN.out.mono ?_; rintro e w' ⟨rfl, rfl⟩)
            go_round
            case rel => exact ⟨k + 1, by omega, by go_num⟩
            case measure => simp [intOf]; omega
          · have hk' : k = (may core addr 1 l).length := by omega
            have IN := Lib.hid (in_ok (may core addr 1 (l ++ [⟨1, 0, addr, word⟩])) word a8 c8 w11 (by unfold maxLen; omega) Q8.out DS.out)
            rw [LAST.out] at IN
            obtain ⟨b, off, ha, hb, cx⟩ := DO.out 0 word rfl
            rw [Nat.add_zero] at cx
            subst ha
            subst hk'
            have hd : decide ((may core addr 1 l).length < (may core addr 1 l).length) = false := by simp
            go_wp2_with (go_at_call 11; refine IN.out.mono ?_; rintro e w' ⟨rfl, rfl⟩)
            go_ret
            exact ⟨rfl, FF.out⟩
    · have H : ∃ y : N, isW addr y = false ∧ isI addr y = true ∧ y.Ok ∧ rightN y = true ∧ Blk (w3.alloc (.cells #[.int .i64 2, .int .i64 0, .int .u64 addr, .int .u32 0] 31)) w3.heap.size 31 #[.int .i64 y.k, .int .i64 y.c, .int .u64 y.a, .int .u32 y.w] ∧ Fr Nil w2 (w3.alloc (.cells #[.int .i64 2, .int .i64 0, .int .u64 addr, .int .u32 0] 31)) :=
        ⟨⟨2, 0, addr, 0⟩, rfl, by simp [isI], okN _ _ _ _ (by omega), by simp [rightN], Blk.new _ _ _, F3.alloc _⟩
      generalize (w3.alloc (.cells #[.int .i64 2, .int .i64 0, .int .u64 addr, .int .u32 0] 31)) = W4 at *
      obtain ⟨y, hy1, hy2, hy3, hy4, hB, hF⟩ := H
      have YB := Lib.hid hB
      have YF := Lib.hid (FA.out.trans hF)
      have YD := Lib.hid (DA.out.fr hF)
      have YY := Lib.hid (And.intro hy1 (And.intro hy2 (And.intro hy3 hy4)))
      have ML := Lib.hid (HM.out.fr YF.out)
      clear hy1 hy2 hy3 hy4 hB hF DA FA HM F3
      generalize w3.heap.size = xb at *
      go_wp2_with (first
        | (refine wpList_copy_nts rfl _ _ rfl rfl l _ _ rfl ML.out (by omega) ?_; intro v w5 hw5 F5 hk5; obtain ⟨av, cv, rfl, _, _, _⟩ := hw5.shape; have W5 := Lib.hid hw5; have F5' := Lib.hid F5; have K5 := Lib.hid hk5; clear hw5 F5 hk5)
        | (go_at_call 9; refine (write_lit addr word _).mono ?_; rintro e w6 ⟨rfl, F6⟩; have F6' := Lib.hid F6; have W6 := Lib.hid (W5.out.fr F6 (fun _ _ => id)); clear F6)
        | (refine wpList_append_win _ rfl (.tmp 46) (.tmp 50) 22 rfl 31 i31 _ 4 32 Try.underlying22 hi31 hz0 hz1 hz2 rfl (by decide) _ _ _ rfl (W6.out.alloc _) ⟨w6.heap.size, 0, none⟩ 1 1 [.int .i64 1, .int .i64 0, .int .u64 addr, .int .u32 word] rfl rfl (news4 w6 _ _ _ _ _) (by simp [Value.oneCell']) (by omega) (by simp only [maxLen]; omega) (by omega) (w6.heap.size + 1) (by simp) ?_; intro g7 o7 cp7 w7 hw7 hg7 hat7; have W7 := Lib.hid hw7; have G7 := Lib.hid ((World.grownBy_alloc w6 _ _).trans hg7); have A7 := Lib.hid hat7; clear hw7 hg7 hat7))
      have L7 : Hid (Nts w7 (some ⟨g7, o7, none⟩) (l ++ [⟨1, 0, addr, word⟩])) := Lib.hid (by
        have := W7.out
        rw [show ([.int .i64 1, .int .i64 0, .int .u64 addr, .int .u32 word] : List Value) = ncs [⟨1, 0, addr, word⟩] from rfl, ← ncs_append] at this
        exact this.nts)
      have f47 : Hid (Fr Nil W4 w7) := Lib.hid (by
        refine ((F5'.out.trans F6'.out)).grown G7.out fun k hk => .inr ?_
        exact K5.out k hk)
      obtain ⟨_, _, he7, hcp7, _, _⟩ := W7.out.shape
      cases he7
      go_wp2_with fail
      refine (may_yes2 (l ++ [⟨1, 0, addr, word⟩]) (by simp) (by intro n hn; rcases List.mem_append.1 hn with h | h; exact OK.out n h; rw [List.mem_singleton.1 h]; exact okN _ _ _ _ (by omega)) core addr 1 a0 a1 _ _ _ (by simp; omega) hcp7 L7.out (mayOk_append HOK.out _ (by have := (mayOk_parts HOK.out).2.2.1; simp [rightL, rightN, this])) rfl rfl).mono ?_
      rintro e w8 ⟨a8, c8, rfl, F8, D8, q8, k8⟩
      have hg7 : g7 < w7.heap.size := W7.out.lt rfl
      have X8 := Lib.hid ((YB.out.fr0 f47.out).fr0 F8)
      have F8' := Lib.hid ((YF.out.trans f47.out).trans F8)
      have E8 := Lib.hid D8
      have K8 := Lib.hid (show ∀ b off, a8 = some ⟨b, off, none⟩ → g7 < b from fun b off h => by have := k8 b off h; omega)
      have F48 := Lib.hid (f47.out.trans F8)
      have S4 := Lib.hid YF.out.size
      have W8 := Lib.hid (W7.out.fr F8 (fun _ _ => id))
      have G8 := Lib.hid (show W4.heap.size ≤ g7 by
        rcases A7.out with h | h
        · exact K5.out _ h
        · have h1 := F5'.out.size
          have h2 := F6'.out.size
          omega)
      have S8 := Lib.hid (show W4.heap.size ≤ w8.heap.size from (f47.out.trans F8).size)
      have Q8 := Lib.hid q8
      have Q7 := Lib.hid hcp7
      have hm1 := may_len core addr 1 (l ++ [⟨1, 0, addr, word⟩])
      rw [List.length_append, List.length_singleton] at hm1
      clear D8 F8 q8 k8 hg7 hcp7 L7 f47 A7 G7 W7 F5' F6' K5 W5 W6 YB YF ML
      go_upto_region 12 with fail
      have k0 : w8.cell? ⟨xb, 0, none⟩ = some (.int .i64 y.k) := X8.out.cellv rfl
      have k1 : w8.cell? ⟨xb, 1, none⟩ = some (.int .i64 y.c) := X8.out.cellv rfl
      have k2 : w8.cell? ⟨xb, 2, none⟩ = some (.int .u64 y.a) := X8.out.cellv rfl
      have k3 : w8.cell? ⟨xb, 3, none⟩ = some (.int .u32 y.w) := X8.out.cellv rfl
      go_region_law (first
        | (refine step_append_win _ rfl (.tmp 60) (.tmp 64) 22 rfl 31 i31 _ 4 32 Try.underlying22 hi31 hz0 hz1 hz2 rfl (by decide) _ _ _ rfl (W9.out.alloc _) ⟨w9.heap.size, 0, none⟩ 2 2 [.int .i64 y.k, .int .i64 y.c, .int .u64 y.a, .int .u32 y.w, .int .i64 4, .int .i64 core, .int .u64 0, .int .u32 0] rfl rfl (news8 w9 _ _ _ _ _ _ _ _ _) (by simp [Value.oneCell']) (by omega) (by simp only [maxLen]; omega) (by omega) (w9.heap.size + 1) (by simp) ?_; intro g10 o10 cp10 w10 hw10 hg10 hat10; have W10 := Lib.hid hw10; have G10 := Lib.hid ((World.grownBy_alloc w9 _ _).trans hg10); clear hw10 hg10 hat10)
        | (go_simp; go_at_call 10; refine (isb_lit core _).mono ?_; rintro e w9 ⟨rfl, F9⟩; have W9 := Lib.hid (W8.out.drew.fr F9 (fun _ _ => id)); have F9' := Lib.hid ((Fr.drew (Fr.refl Nil w8)).trans F9); have k0 : w9.cell? ⟨xb, 0, none⟩ = some (.int .i64 y.k) := (X8.out.fr0 F9'.out).cellv rfl; have k1 : w9.cell? ⟨xb, 1, none⟩ = some (.int .i64 y.c) := (X8.out.fr0 F9'.out).cellv rfl; have k2 : w9.cell? ⟨xb, 2, none⟩ = some (.int .u64 y.a) := (X8.out.fr0 F9'.out).cellv rfl; have k3 : w9.cell? ⟨xb, 3, none⟩ = some (.int .u32 y.w) := (X8.out.fr0 F9'.out).cellv rfl; clear F9)
        | (go_simp; go_at_call 7; refine (may_yes2 (l ++ [⟨1, 0, addr, word⟩] ++ [y] ++ [⟨4, core, 0, 0⟩]) (by simp) (by intro n hn; simp only [List.mem_append, List.mem_singleton] at hn; rcases hn with ((h | h) | h) | h; exact OK.out n h; rw [h]; exact okN _ _ _ _ (by omega); rw [h]; exact YY.out.2.2.1; rw [h]; exact okN _ _ _ _ (by omega)) core addr 1 a0 a1 _ _ _ (by simp; omega) (by obtain ⟨_, _, he10, hcp10, _, _⟩ := W10.out.shape; cases he10; exact hcp10) (by
              have := W10.out
              rw [show ([.int .i64 y.k, .int .i64 y.c, .int .u64 y.a, .int .u32 y.w, .int .i64 4, .int .i64 core, .int .u64 0, .int .u32 0] : List Value) = ncs ([y] ++ [⟨4, core, 0, 0⟩]) from rfl, show ([.int .i64 1, .int .i64 0, .int .u64 addr, .int .u32 word] : List Value) = ncs [⟨1, 0, addr, word⟩] from rfl, ← ncs_append, ← ncs_append, ← List.append_assoc] at this
              exact this.nts) (mayOk_append (mayOk_append (mayOk_append HOK.out _ (by have := (mayOk_parts HOK.out).2.2.1; simp [rightL, rightN, this])) _ (by simp [rightL, YY.out.2.2.2])) _ (by have h1 := (mayOk_parts HOK.out).1; have h2 := (mayOk_parts HOK.out).2.1; simp [rightL, rightN, h1, h2])) (sees_only core addr 1 word l y YY.out.1 YY.out.2.1) rfl).mono ?_; rintro e w11 ⟨a11, c11, rfl, F11, D11, q11, _⟩; have F11' := Lib.hid (show Fr (One g7) w8 w11 from (F9'.out.nil.grown G10.out (fun k hk => .inl (by cases hk; rfl))).trans F11.nil); have D11' := Lib.hid D11; have Q11 := Lib.hid q11; clear F11 D11 q11))
      all_goals
        have DB := Lib.hid (YD.out.frS (F48.out.nil.trans F11'.out) fun b off h hlt hs => by have := G8.out; cases hs; omega)
        have DS := Lib.hid (E8.out.frS F11'.out fun b off h hlt hs => by have := K8.out b off h; cases hs; omega)
        have DO := Lib.hid D11'.out
        have FF := Lib.hid (show Fr Nil w w11 from F8'.out.step F11'.out fun i hi hs => .inr (by have := G8.out; have := S4.out; cases hs; omega))
        have SUB := Lib.hid (fun x (hx : x ∈ may core addr 1 l) => show (may core addr 1 (l ++ [⟨1, 0, addr, word⟩])).contains x = true by rw [List.contains_iff_mem, sees_some]; exact .inl hx)
        have LAST := Lib.hid (show (may core addr 1 (l ++ [⟨1, 0, addr, word⟩])).contains word = true by rw [List.contains_iff_mem, sees_some]; exact .inr rfl)
        clear YD F48 F11' E8 K8 D11' F8' S4 G8 G10 W10 W8 W9 F9' X8 k0 k1 k2 k3
        go_wp2_with fail
        go_loop [20] (fun i => ∃ k : Nat, k ≤ (may core addr 1 l).length ∧ i = .int .i64 (k : Int)) (fun i => (may core addr 1 l).length - (intOf i).toNat)
        case atStart => exact ⟨0, Nat.zero_le _, rfl⟩
        case round =>
          obtain ⟨k, hk, rfl⟩ := hrel
          by_cases hlt : k < (may core addr 1 l).length
          · obtain ⟨b, off, ha, hb, cx⟩ := DB.out k _ (List.getElem?_eq_getElem hlt)
            have IN := Lib.hid (in_ok (may core addr 1 (l ++ [⟨1, 0, addr, word⟩])) ((may core addr 1 l)[k]) a8 c8 w11 (by unfold maxLen; omega) Q8.out DS.out)
            rw [SUB.out _ (List.getElem_mem hlt)] at IN
            subst ha
            go_wp2_with (go_at_call 11; refine IN.out.mono ?_; rintro e w' ⟨rfl, rfl⟩)
            go_round
            case rel => exact ⟨k + 1, by omega, by go_num⟩
            case measure => simp [intOf]; omega
          · have hk' : k = (may core addr 1 l).length := by omega
            have IN := Lib.hid (in_ok (may core addr 1 (l ++ [⟨1, 0, addr, word⟩])) word a8 c8 w11 (by unfold maxLen; omega) Q8.out DS.out)
            rw [LAST.out] at IN
            obtain ⟨b, off, ha, hb, cx⟩ := DO.out 0 word rfl
            rw [Nat.add_zero] at cx
            subst ha
            subst hk'
            have hd : decide ((may core addr 1 l).length < (may core addr 1 l).length) = false := by simp
            go_wp2_with (go_at_call 11; refine IN.out.mono ?_; rintro e w' ⟨rfl, rfl⟩)
            go_ret
            exact ⟨rfl, FF.out⟩
theorem fetchSees_walk (a0 : Option Addr) (len cap : Nat) (V : Nat → Nat → Int) (core addr word : Int) (all : Bool) (w : World) (hl : len ≤ cap) (hcap : cap ≤ maxLen) (hs : SlRows [.i64, .i64, .u64, .u32] w a0 len V) (z : len * 32 ≤ 140737488351232) (w1 : (Lit.int .i64 core).wf = true) (w2 : (Lit.int .u64 addr).wf = true) (w3 : (Lit.int .u32 word).wf = true) :
    Calls Try.prog 3 #[.slice a0 len cap, .int .i64 core, .int .u64 addr, .int .u32 word, .bool all] w fun e w' => e = .returned (.bool true) ∧ Below w.heap.size w w' := by
  obtain ⟨c0, c1⟩ := i64_rng w1
  obtain ⟨b0, b1⟩ := u64_rng w2
  obtain ⟨x0, x1⟩ := u32_rng w3
  have h := sees_gen (lN V len) (lN_ok hs) a0 cap core addr word all w (by rw [lN_length]; omega) (by rw [lN_length]; exact hl) (lN_nts hs) c0 c1 b0 b1 x0 x1
  rw [lN_length] at h
  exact h.mono fun e w' h => ⟨h.1, Fr.bel h.2⟩
end Go.Proofs.Ytdbgfnkcphbgfaa
