/- What leads from some to some: Kept, with the law's closures. -/
import Derived.Test.YtpcpjmbfinpmlaaDoorMrk
import Derived.Test.YtpcpjmbfinpmlaaDoorBti
set_option linter.unusedSimpArgs false
set_option linter.unusedVariables false
set_option linter.unusedSectionVars false
namespace Go.Proofs.YtpcpjmbfinpmlaaDoor
open Go.RowKit
set_option maxRecDepth 100000

theorem clos35 (bx g n v : Nat) (S : Nat → Bool) (w : World) (hb : w.cell? ⟨bx, 0, none⟩ = some (.slice (some ⟨g, 0, none⟩) n n)) (hg : Blk w g 4 (barr n S).toArray) (hv : v < n) (hn : n ≤ 64) : Calls Tryd.prog 35 #[.int .i64 (v : Int), .pointer (some ⟨bx, 0, none⟩)] w fun e w' => e = .returned (.bool (S v)) ∧ w = w' := by
  have c1 := hg.bget hv
  have vn : (v : Int) < (n : Int) := by omega
  clear hg hv
  go_enter Tryd.func35, Tryd.ntmps35
  go_wp2
  go_ret
  exact ⟨rfl, rfl⟩
theorem clos36 (bx g n v : Nat) (S : Nat → Bool) (w : World) (hb : w.cell? ⟨bx, 0, none⟩ = some (.slice (some ⟨g, 0, none⟩) n n)) (hg : Blk w g 4 (barr n S).toArray) (hv : v < n) (hn : n ≤ 64) : Calls Tryd.prog 36 #[.int .i64 (v : Int), .pointer (some ⟨bx, 0, none⟩)] w fun e w' => e = .returned (.bool (S v)) ∧ w = w' := by
  have c1 := hg.bget hv
  have vn : (v : Int) < (n : Int) := by omega
  clear hg hv
  go_enter Tryd.func36, Tryd.ntmps36
  go_wp2
  go_ret
  exact ⟨rfl, rfl⟩
theorem clos38 (bx g n v : Nat) (S : Nat → Bool) (w : World) (hb : w.cell? ⟨bx, 0, none⟩ = some (.slice (some ⟨g, 0, none⟩) n n)) (hg : Blk w g 4 (barr n S).toArray) (hv : v < n) (hn : n ≤ 64) : Calls Tryd.prog 38 #[.int .i64 (v : Int), .pointer (some ⟨bx, 0, none⟩)] w fun e w' => e = .returned (.bool (S v)) ∧ w = w' := by
  have c1 := hg.bget hv
  have vn : (v : Int) < (n : Int) := by omega
  clear hg hv
  go_enter Tryd.func38, Tryd.ntmps38
  go_wp2
  go_ret
  exact ⟨rfl, rfl⟩
theorem eqn36 (k : Nat) (b : Nat) (w : World) : (binOp BinOp.eql 39 (.func (.func k) #[] #[.pointer (some ⟨b, 0, none⟩)]) Value.nilFunc).run Tryd.prog w = .ok (.bool false) w := by
  first
  | rfl
  | (simp [binOp, Op.equalIn, run_underlying Tryd.underlying39]; done)
def kepR (r : Rn) (S T : Nat → Bool) : Rn := fun a c => r a c && S a && T c
def pre (T : Nat → Bool) (k : Nat) : Nat → Bool := fun b => decide (b < k) && T b
theorem pre_zero (T : Nat → Bool) : bw (pre T 0) = 0 := by
  have : pre T 0 = fun _ => false := by funext b; simp [pre]
  rw [this, bw_zero]
theorem pre_yes {T : Nat → Bool} {k : Nat} (h : T k = true) : upd (pre T k) k true = pre T (k + 1) := by
  funext b
  unfold pre upd
  by_cases e : b = k
  · subst e; simp [h]
  · rw [if_neg e]
    have : decide (b < k + 1) = decide (b < k) := by simp; omega
    rw [this]
theorem pre_no {T : Nat → Bool} {k : Nat} (h : T k = false) : pre T k = pre T (k + 1) := by
  funext b
  unfold pre
  by_cases e : b = k
  · subst e; simp [h]
  · have : decide (b < k + 1) = decide (b < k) := by simp; omega
    rw [this]
theorem kepR_ok {n : Nat} {r : Rn} {S T : Nat → Bool} (hr : ∀ a c, r a c = true → a < n ∧ c < n) (a c : Nat) (h : kepR r S T a c = true) : a < n ∧ c < n := by
  unfold kepR at h
  rw [Bool.and_eq_true, Bool.and_eq_true] at h
  exact hr a c h.1.1
theorem firR_skip {q : Rn} {k : Nat} (h : ∀ c, q k c = false) : firR q (k + 1) = firR q k := by
  funext a c
  unfold firR
  by_cases e : a = k
  · subst e; rw [h c]; simp
  · have : decide (a < k + 1) = decide (a < k) := by simp; omega
    rw [this]
set_option maxHeartbeats 1000000 in
theorem kept_ok (b n sx sg tx tg : Nat) (r : Rn) (S T : Nat → Bool) (w : World) (h : RelAt w b n r) (hs : w.cell? ⟨sx, 0, none⟩ = some (.slice (some ⟨sg, 0, none⟩) n n)) (hsg : Blk w sg 4 (barr n S).toArray) (ht : w.cell? ⟨tx, 0, none⟩ = some (.slice (some ⟨tg, 0, none⟩) n n)) (htg : Blk w tg 4 (barr n T).toArray) :
    Calls Tryd.prog 34 #[.pointer (some ⟨b, 0, none⟩), .func (.func 35) #[] #[.pointer (some ⟨sx, 0, none⟩)], .func (.func 36) #[] #[.pointer (some ⟨tx, 0, none⟩)]] w (ClosedTo w n (kepR r S T)) := by
  have HB := Lib.hid h
  have N64 := Lib.hid h.n64
  have QK := Lib.hid (kepR_ok (S := S) (T := T) h.ok)
  have CS : Hid (∀ W, Fr Nil w W → ∀ v, v < n → Calls Tryd.prog 35 #[.int .i64 (v : Int), .pointer (some ⟨sx, 0, none⟩)] W fun e w' => e = .returned (.bool (S v)) ∧ W = w') := Lib.hid fun W hW v hv => clos35 sx sg n v S W ((hW.cell (p := ⟨sx, 0, none⟩) (World.block_lt_of_cell? _ _ hs) id).trans hs) (hsg.fr hW id) hv h.n64
  have CT : Hid (∀ W, Fr Nil w W → ∀ v, v < n → Calls Tryd.prog 36 #[.int .i64 (v : Int), .pointer (some ⟨tx, 0, none⟩)] W fun e w' => e = .returned (.bool (T v)) ∧ W = w') := Lib.hid fun W hW v hv => clos36 tx tg n v T W ((hW.cell (p := ⟨tx, 0, none⟩) (World.block_lt_of_cell? _ _ ht) id).trans ht) (htg.fr hW id) hv h.n64
  have n64 : (n : Int) ≤ 64 := by have := h.n64; omega
  have c0 := h.n_c
  have Z0 := Lib.hid (pre_zero T)
  have nf := fun W => eqn36 36 tx W
  have nf2 := fun W => eqn36 35 sx W
  clear h hs hsg ht htg
  go_enter Tryd.func34, Tryd.ntmps34
  go_upto_region 2 with fail
  have F0 := Lib.hid ((Fr.refl Nil w).alloc (.cells (Tryd.zeroCells68.setIfInBounds 0 (.int .i64 (n : Int))) 68))
  have R0 := Lib.hid (show RelAt (w.alloc (.cells (Tryd.zeroCells68.setIfInBounds 0 (.int .i64 (n : Int))) 68)) w.heap.size n noR from ⟨by rw [rcs_zero]; exact Blk.new w 68 _, N64.out, fun a c hh => by cases hh⟩)
  generalize (w.alloc (.cells (Tryd.zeroCells68.setIfInBounds 0 (.int .i64 (n : Int))) 68)) = w0 at *
  obtain ⟨g, hg⟩ : ∃ g, g = w.heap.size := ⟨_, rfl⟩
  rw [← hg] at R0 ⊢
  have HG := Lib.hid (Nat.le_of_eq hg.symm)
  clear hg c0
  have c0 := (HB.out.fr0 F0.out).n_c
  go_wp2_with fail
  clear c0
  go_loopw [8, 9, 21] (fun m _ i wr => ∃ k : Nat, k ≤ n ∧ i = .int .i64 (k : Int) ∧ m = .int .u64 (bw (pre T k) : Int) ∧ RelAt wr g n noR ∧ Fr Nil w wr) (fun _ _ i _ => n - (intOf i).toNat)
  case atStart => exact ⟨0, Nat.zero_le _, rfl, by rw [Z0.out]; rfl, R0.out, F0.out⟩
  case round =>
    obtain ⟨k, hk, rfl, rfl, hq, hf⟩ := hrel
    clear R0 F0
    have HQ := Lib.hid hq
    have HF := Lib.hid hf
    clear hq hf
    by_cases hlt : k < n
    · have HK := Lib.hid hlt
      have kn : (k : Int) < (n : Int) := by omega
      have CK := Lib.hid (CT.out wr HF.out k hlt)
      have k64 : (k : Int) < 64 := by omega
      have ho : bits .or .u64 (bw (pre T k) : Int) (2 ^ k) = (bw (upd (pre T k) k true) : Int) := by
        rw [powN, orN _ _ (bw_lt _) (Nat.pow_lt_pow_right (by decide) (by omega)), bw_set _ (by omega)]
      have hs : IntKind.u64.wrap (2 ^ k) = ((2 ^ k : Nat) : Int) := by
        have : 2 ^ k < 2 ^ 64 := Nat.pow_lt_pow_right (by decide) (by omega)
        rw [powN, IntKind.wrap_u64]
        generalize 2 ^ k = x at *
        omega
      clear hk hlt
      cases hT : T k
      · have E := Lib.hid (congrArg bw (pre_no hT))
        rw [hT] at CK
        clear hT
        go_wp2_with (first | (go_at_call 36; refine CK.out.mono ?_; rintro e w9 ⟨rfl, rfl⟩))
        go_roundw
        case rel => exact ⟨k + 1, HK.out, by go_num, by rw [← E.out], HQ.out, HF.out⟩
        case measure => have := HK.out; simp [intOf]; omega
      · have E := Lib.hid (congrArg bw (pre_yes hT))
        rw [hT] at CK
        clear hT
        go_wp2_with (first | (go_at_call 36; refine CK.out.mono ?_; rintro e w9 ⟨rfl, rfl⟩))
        go_roundw
        case rel => exact ⟨k + 1, HK.out, by go_num, by rw [← E.out], HQ.out, HF.out⟩
        case measure => have := HK.out; simp [intOf]; omega
    · obtain rfl : k = n := by omega
      have l1 : decide (k < k) = false := by simp
      clear hk hlt
      have c0 := (HB.out.fr0 HF.out).n_c
      have W64 := Lib.hid (bw_lt (pre T k))
      have AN : Hid (∀ x, S x = true → bits .and .u64 (bw (r x) : Int) (bw (pre T k) : Int) = (bw (kepR r S T x) : Int)) := Lib.hid fun x hx => by
        rw [bitsN _ _ (bw_lt _) (bw_lt _), bw_and]
        refine congrArg (fun z : Nat => (z : Int)) (bw_congr fun i _ => ?_)
        unfold pre kepR
        rw [hx]
        cases hr : r x i
        · simp
        · have := (HB.out.ok x i hr).2
          simp [this]
      go_upto_region 10 with fail
      clear c0
      generalize (bw (pre T k) : Int) = M at *
      go_loopw [10, 40] (fun _ i wr => ∃ a : Nat, a ≤ k ∧ i = .int .i64 (a : Int) ∧ RelAt wr g k (firR (kepR r S T) a) ∧ Fr Nil w wr) (fun _ i _ => k - (intOf i).toNat)
      case atStart => exact ⟨0, Nat.zero_le _, rfl, by rw [firR_zero]; exact HQ.out, HF.out⟩
      case round =>
        clear HQ HF
        obtain ⟨a, ha, rfl, hq, hf⟩ := hrel
        have HQ := Lib.hid hq
        have HF := Lib.hid hf
        clear hq hf
        by_cases hlt : a < k
        · have HA := Lib.hid hlt
          have an : (a : Int) < (k : Int) := by omega
          have a64 : (a : Int) < 64 := by omega
          have A64 := Lib.hid (show a < 64 by omega)
          have CK := Lib.hid (CS.out wr HF.out a hlt)
          clear ha hlt
          cases hS : S a
          · have E := Lib.hid (firR_skip (q := kepR r S T) (k := a) fun c => by unfold kepR; rw [hS]; simp)
            rw [hS] at CK
            clear hS
            go_wp2_with (go_at_call 35; refine CK.out.mono ?_; rintro e w9 ⟨rfl, rfl⟩)
            go_roundw
            case rel => exact ⟨a + 1, HA.out, by go_num, by rw [E.out]; exact HQ.out, HF.out⟩
            case measure => have := HA.out; simp [intOf]; omega
          · have an2 := AN.out a hS
            rw [hS] at CK
            clear hS
            go_upto_region 13 with (go_at_call 35; refine CK.out.mono ?_; rintro e w9 ⟨rfl, rfl⟩)
            have c1 : wr.drew.cell? ⟨b, 1 + a, none⟩ = some (.int .u64 (bw (r a) : Int)) := (HB.out.fr0 HF.out).row_c A64.out
            have c1' : wr.cell? ⟨b, 1 + a, none⟩ = some (.int .u64 (bw (r a) : Int)) := c1
            have Q2 : RelAt wr.drew g k (firR (kepR r S T) a) := HQ.out.fr0 (Fr.refl Nil wr).drew
            have F2 := HF.out.drew
            have c3 := Q2.row_c A64.out
            have z3 := Q2.blk.frozen (1 + a)
            have Q3 := Lib.hid (Q2.row_ (q := kepR r S T) A64.out (firR_next _ _) QK.out)
            have F3 := Lib.hid (F2.setNew (g := g) (i := 1 + a) HG.out (.int .u64 (bw (kepR r S T a) : Int)))
            clear Q2 F2 HQ HF
            go_still_tail 13, (by kernel_rfl)
            change wpList _ _ _ _ _ wr.drew
            clear c1 c1'
            generalize wr.drew = w4 at *
            go_wp2_with fail
            go_roundw
            case rel => exact ⟨a + 1, HA.out, by go_num, Q3.out, F3.out⟩
            case measure => have := HA.out; simp [intOf]; omega
        · obtain rfl : a = k := by omega
          have l2 : decide (a < a) = false := by simp
          have E : firR (kepR r S T) a = kepR r S T := by
            funext x c
            unfold firR
            cases hq : kepR r S T x c
            · simp
            · have := (QK.out x c hq).1
              simp; omega
          rw [E] at HQ
          clear ha hlt E
          go_wp2_with fail
          go_ret
          exact ⟨g, rfl, HQ.out, HF.out, HG.out⟩
end Go.Proofs.YtpcpjmbfinpmlaaDoor
