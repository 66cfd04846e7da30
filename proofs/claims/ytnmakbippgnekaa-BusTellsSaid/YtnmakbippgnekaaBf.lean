/- The ranges of registers, and which of them an address lies in. -/
import Derived.Test.YtnmakbippgnekaaBase3
import Derived.Test.YtnmakbippgnekaaWin
import Derived.Test.YtnmakbippgnekaaRows
import Derived.Laws.MakeOwn
import Derived.Laws.OwnMore
import Derived.Laws.EntriesVeiled
set_option linter.unusedSimpArgs false
set_option linter.unusedVariables false
set_option linter.unusedSectionVars false
namespace Go.Proofs.Ytnmakbippgnekaa
open Go.RowKit
set_option maxRecDepth 100000

theorem step_store_blk0 {P : Program} {w : World} {ops : Array Oper} {o : Oper} {a : Act} {K : Act → World → Prop} {Q : Exit → Act → World → Prop} {E : Prop} (hgd : o.guard = none) (ty : TypeId) (x y : Operand) (ho : o.op = .store ty x y)
    (g : Nat) (hx : a.eval x = .pointer (some ⟨g, 0, none⟩)) {cs : Array Value} (cs' : Array Value) (hy : a.eval y = .agg cs') (hg : Blk w g ty cs)
    (hi : (P.info? ty).map (·.size) = some cs'.size) (hs : cs.size = cs'.size) (h1 : cs'.all (·.oneCell') = true)
    (h : ∀ w2, Fr (One g) w w2 → Blk w2 g ty cs' → K (a.put o.dst undef) w2) :
    if Region.wanted o (yielded ops a.tmps) = true then Oper.wp P o a w K Q else E := by
  have hw : Region.wanted o (yielded ops a.tmps) = true := by simp [Region.wanted, hgd]
  rw [if_pos hw]
  unfold Oper.wp execOp
  simp only [ho, hx, hy, Instr.storeAt, Instr.sureAddr, Sem.run_bind, Sem.run_pure, Result.andThen_ok, run_storeVar_row w g ty ty cs cs' hg hi hs h1]
  exact h _ ((Fr.refl (One g) w).withRow (Or.inl (show One g g from rfl)) _) (Blk.withRow hg _)
/-- A range: where it begins and ends, what is read and written there. -/
structure Pl where
  lo : Int
  hi : Int
  rd : Nat
  wr : Nat
def pf (n : Nat) : Value := .func (.func n) #[] #[]
def pls : List Pl := [⟨134217728, 134217744, 46, 47⟩, ⟨134217744, 134217760, 48, 49⟩, ⟨134217760, 134217768, 50, 51⟩, ⟨134218240, 134218752, 52, 53⟩, ⟨134218752, 134219008, 54, 55⟩, ⟨150994944, 150994952, 56, 57⟩]
def p0 : Pl := ⟨0, 0, 0, 0⟩
def pcs (p : Pl) : List Value := [.int .u64 p.lo, .int .u64 p.hi, pf p.rd, pf p.wr]
def plAt (j : Nat) : Pl := pls.getD j p0
def plcs : Array Value := (pls.flatMap pcs).toArray
def PlsTo (w : World) (e : Ending) (w' : World) : Prop := ∃ g, e = .returned (.slice (some ⟨g, 0, none⟩) 6 6) ∧ Blk w' g 64 plcs ∧ Fr Nil w w' ∧ w.heap.size ≤ g
theorem places_ok (w : World) : Calls Try.prog 37 #[] w (PlsTo w) := by
  go_enter Try.func37, Try.ntmps37
  go_wp2_with fail
  go_ret
  exact ⟨w.heap.size, rfl, Blk.new w 64 _, (Fr.refl Nil w).alloc _, Nat.le_refl _⟩
theorem plcs_get {j i : Nat} (hj : j < 6) (hi : i < 4) : plcs[j * 4 + i]? = (pcs (plAt j))[i]? := by
  have : ∀ j, j < 6 → ∀ i, i < 4 → plcs[j * 4 + i]? = (pcs (plAt j))[i]? := by
    intro j hj i hi
    have hj' : j = 0 ∨ j = 1 ∨ j = 2 ∨ j = 3 ∨ j = 4 ∨ j = 5 := by omega
    have hi' : i = 0 ∨ i = 1 ∨ i = 2 ∨ i = 3 := by omega
    rcases hj' with rfl | rfl | rfl | rfl | rfl | rfl <;> rcases hi' with rfl | rfl | rfl | rfl <;> rfl
  exact this j hj i hi
/-- Does it lie in the j-th range? -/
def inPl (a : Int) (j : Nat) : Bool := decide ((plAt j).lo ≤ a) && decide (a < (plAt j).hi)
def pagg (p : Pl) : Value := .agg #[.int .u64 p.lo, .int .u64 p.hi, pf p.rd, pf p.wr]
def pz : Value := .agg #[.int .u64 0, .int .u64 0, .nilFunc, .nilFunc]
theorem pl_rng {j : Nat} (hj : j < 6) : 134217728 ≤ (plAt j).lo ∧ (plAt j).lo ≤ (plAt j).hi ∧ (plAt j).hi ≤ 150994952 := by
  have hj' : j = 0 ∨ j = 1 ∨ j = 2 ∨ j = 3 ∨ j = 4 ∨ j = 5 := by omega
  rcases hj' with rfl | rfl | rfl | rfl | rfl | rfl <;> decide
theorem results_cell3 {P : Program} {fn : Func} {p q r : Tmp} {ty : TypeId} (h : fn.results = #[.cell p ty, .tmp q, .tmp r]) (tmps : Array Value) (w : World) (g : Nat) (cs : Array Value) (d : TypeDesc)
    (hp : tmps.getD p undef = .pointer (some ⟨g, 0, none⟩)) {t : TypeId} (hg : Blk w g t cs)
    (hu : P.underlying ty = some d) (hd : (match d with | .struct _ | .array _ _ => true | _ => false) = true) (hi : (P.info? ty).map (·.size) = some cs.size) :
    (results fn tmps).run P w = .ok (.tuple #[.agg cs, tmps.getD q undef, tmps.getD r undef]) w := by
  have hp' : tmps[p]?.getD undef = .pointer (some ⟨g, 0, none⟩) := by simpa using hp
  simp [results, h, hp', asAddr, run_loadVar_row w g t ty cs (0, 0) d hg hu hd hi]
set_option maxHeartbeats 2000000 in
theorem find_no (b n : Nat) (v1 v2 v3 : Value) (c a : Int) (w : World) (hb : Blk w b 60 #[.int .i64 (n : Int), v1, v2, v3]) (h : (decide (0 ≤ c) && decide (c < (n : Int)) && (a % 8 == 0)) = true) (a0 : 0 ≤ a) (a1 : a ≤ 18446744073709551615) (hno : ∀ j, j < 6 → inPl a j = false) :
    Calls Try.prog 24 #[.pointer (some ⟨b, 0, none⟩), .int .i64 c, .int .u64 a] w fun e w' => e = .returned (.tuple #[pz, .int .i64 0, .bool false]) ∧ Fr Nil w w' := by
  have c0 : w.cell? ⟨b, 0, none⟩ = some (.int .i64 (n : Int)) := hb.cellv rfl
  simp only [Bool.and_eq_true] at h
  obtain ⟨⟨h1, h2⟩, h3⟩ := h
  have HN := Lib.hid hno
  have PO := Lib.hid places_ok
  have Z1 := Lib.hid (Blk.new w 64 #[.int .u64 0, .int .u64 0, .nilFunc, .nilFunc])
  have F1 := Lib.hid ((Fr.refl Nil w).alloc (.cells #[.int .u64 0, .int .u64 0, .nilFunc, .nilFunc] 64))
  have c1 : (w.alloc (.cells #[.int .u64 0, .int .u64 0, .nilFunc, .nilFunc] 64)).cell? ⟨b, 0, none⟩ = some (.int .i64 (n : Int)) := (hb.alloc (.cells #[.int .u64 0, .int .u64 0, .nilFunc, .nilFunc] 64)).cellv rfl
  clear hb hno c0
  go_enter Try.func24, Try.ntmps24
  go_upto_region 3 with (go_at_call 37; refine (PO.out _).mono ?_; rintro e w2 ⟨g, rfl, hg, f2, ng⟩)
  have Z2 := Lib.hid (Z1.out.fr0 f2)
  have F2 := Lib.hid (F1.out.trans f2)
  have NG := Lib.hid (show w.heap.size ≠ g from fun e => by rw [← e] at ng; simp at ng; omega)
  have HG := Lib.hid hg
  have L0 := Lib.hid (show w.heap.size ≤ w.heap.size from Nat.le_refl _)
  have NL := Lib.hid (show w.heap.size ≤ g from by simp at ng; omega)
  clear hg f2 c1 h1 h2 h3 PO ng Z1 F1
  generalize hsz : w.heap.size = zb at Z2 NG ⊢
  clear L0 NL
  go_wp2_with fail
  go_loopw [28] (fun x wr => ∃ j : Nat, j ≤ 6 ∧ x = .int .i64 (j : Int) ∧ Fr Nil w2 wr) (fun x _ => 6 - (intOf x).toNat)
  case atStart => exact ⟨0, by omega, rfl, Fr.refl _ _⟩
  case round =>
    obtain ⟨j, hj, rfl, hf⟩ := hrel
    have HF := Lib.hid hf
    clear hf
    by_cases hlt : j < 6
    · have HJ := Lib.hid hlt
      have hg := HG.out.fr0 HF.out
      have q0 : wr.cell? ⟨g, j * 4, none⟩ = some (.int .u64 (plAt j).lo) := hg.cellv (i := j * 4) ((plcs_get (i := 0) hlt (by omega)).trans rfl)
      have q1 : wr.cell? ⟨g, j * 4 + 1, none⟩ = some (.int .u64 (plAt j).hi) := hg.cellv ((plcs_get (i := 1) hlt (by omega)).trans rfl)
      have q2 : wr.cell? ⟨g, j * 4 + 2, none⟩ = some (.func (.func (plAt j).rd) #[] #[]) := hg.cellv ((plcs_get (i := 2) hlt (by omega)).trans rfl)
      have q3 : wr.cell? ⟨g, j * 4 + 3, none⟩ = some (.func (.func (plAt j).wr) #[] #[]) := hg.cellv ((plcs_get (i := 3) hlt (by omega)).trans rfl)
      have hn := HN.out j hlt
      unfold inPl at hn
      have j6 : (j : Int) < 6 := by omega
      obtain ⟨r0, r1, r2⟩ := pl_rng hlt
      generalize (plAt j).lo = lo at *
      generalize (plAt j).hi = hi at *
      generalize (plAt j).rd = rd at *
      generalize (plAt j).wr = wv at *
      clear hj hlt hg
      have ZN := Lib.hid (Blk.new wr 64 #[.int .u64 0, .int .u64 0, .nilFunc, .nilFunc])
      go_upto_region 5 with (first | (refine wpList_store_blk0 rfl 64 (.tmp 10) (.tmp 31) rfl wr.heap.size rfl #[.int .u64 lo, .int .u64 hi, .func (.func rd) #[] #[], .func (.func wv) #[] #[]] rfl ZN.out (by kernel_rfl) rfl (by simp [Value.oneCell']) ?_; intro w9 f9 b9) | fail)
      have u0 : w9.cell? ⟨wr.heap.size, 0, none⟩ = some (.int .u64 lo) := b9.cellv rfl
      have u1 : w9.cell? ⟨wr.heap.size, 1, none⟩ = some (.int .u64 hi) := b9.cellv rfl
      have HF9 := Lib.hid (show Fr Nil w2 w9 from (HF.out.alloc _).step f9 fun i _ hi => .inr (by have e : i = wr.heap.size := hi; rw [e]; exact HF.out.size))
      clear f9 b9 ZN q0 q1 q2 q3
      generalize wr.heap.size = xb at *
      cases e1 : decide (lo ≤ a)
      · rw [e1] at hn
        go_wp2_with fail
        go_roundw
        case rel => exact ⟨j + 1, HJ.out, by go_num, HF9.out⟩
        case measure => have := HJ.out; simp [intOf]; omega
      · rw [e1] at hn
        have e2 : decide (a < hi) = false := by simpa using hn
        clear hn
        go_wp2_with fail
        go_roundw
        case rel => exact ⟨j + 1, HJ.out, by go_num, HF9.out⟩
        case measure => have := HJ.out; simp [intOf]; omega
    · obtain rfl : j = 6 := by omega
      have Z3 := Lib.hid (Z2.out.fr0 HF.out)
      clear hj hlt
      go_wp2_with (first | (refine wpList_store_blk0 rfl 64 (.tmp 6) (.tmp 50) rfl zb rfl #[.int .u64 0, .int .u64 0, .nilFunc, .nilFunc] rfl Z3.out (by kernel_rfl) rfl (by simp [Value.oneCell']) ?_; intro w9 f9 b9) | fail)
      have HB := Lib.hid b9
      have HF9 := Lib.hid (show Fr Nil w w9 from (F2.out.trans HF.out).step f9 fun i _ hi => .inr (by have e : i = zb := hi; rw [e]; exact Nat.le_of_eq hsz))
      clear f9 b9
      refine bodyPost_ret (v := .tuple #[pz, .int .i64 0, .bool false]) ?_ rfl ⟨rfl, HF9.out⟩
      exact results_cell3 (p := 6) (q := 7) (r := 8) (ty := 64) Try.results24 _ _ zb _ _ rfl HB.out Try.underlying64 rfl (by kernel_rfl)
set_option maxHeartbeats 2000000 in
theorem find_at (J : Nat) (hJ : J < 6) (b n : Nat) (v1 v2 v3 : Value) (c a : Int) (w : World) (hb : Blk w b 60 #[.int .i64 (n : Int), v1, v2, v3]) (h : (decide (0 ≤ c) && decide (c < (n : Int)) && (a % 8 == 0)) = true) (a0 : 0 ≤ a) (a1 : a ≤ 18446744073709551615) (hno : ∀ j, j < J → inPl a j = false) (hin : inPl a J = true) :
    Calls Try.prog 24 #[.pointer (some ⟨b, 0, none⟩), .int .i64 c, .int .u64 a] w fun e w' => e = .returned (.tuple #[pagg (plAt J), .int .i64 ((a - (plAt J).lo) / 8), .bool true]) ∧ Fr Nil w w' := by
  have c0 : w.cell? ⟨b, 0, none⟩ = some (.int .i64 (n : Int)) := hb.cellv rfl
  simp only [Bool.and_eq_true] at h
  obtain ⟨⟨h1, h2⟩, h3⟩ := h
  have HN := Lib.hid (And.intro hJ (And.intro hno hin))
  have PO := Lib.hid places_ok
  have Z1 := Lib.hid (Blk.new w 64 #[.int .u64 0, .int .u64 0, .nilFunc, .nilFunc])
  have F1 := Lib.hid ((Fr.refl Nil w).alloc (.cells #[.int .u64 0, .int .u64 0, .nilFunc, .nilFunc] 64))
  have c1 : (w.alloc (.cells #[.int .u64 0, .int .u64 0, .nilFunc, .nilFunc] 64)).cell? ⟨b, 0, none⟩ = some (.int .i64 (n : Int)) := (hb.alloc (.cells #[.int .u64 0, .int .u64 0, .nilFunc, .nilFunc] 64)).cellv rfl
  clear hb hno c0 hin hJ
  go_enter Try.func24, Try.ntmps24
  go_upto_region 3 with (go_at_call 37; refine (PO.out _).mono ?_; rintro e w2 ⟨g, rfl, hg, f2, ng⟩)
  have Z2 := Lib.hid (Z1.out.fr0 f2)
  have F2 := Lib.hid (F1.out.trans f2)
  have NG := Lib.hid (show w.heap.size ≠ g from fun e => by rw [← e] at ng; simp at ng; omega)
  have HG := Lib.hid hg
  have L0 := Lib.hid (show w.heap.size ≤ w.heap.size from Nat.le_refl _)
  have NL := Lib.hid (show w.heap.size ≤ g from by simp at ng; omega)
  clear hg f2 c1 h1 h2 h3 PO ng Z1 F1
  generalize hsz : w.heap.size = zb at Z2 NG ⊢
  clear L0 NL
  go_wp2_with fail
  go_loopw [28] (fun x wr => ∃ j : Nat, j ≤ J ∧ x = .int .i64 (j : Int) ∧ Fr Nil w2 wr) (fun x _ => 6 - (intOf x).toNat)
  case atStart => exact ⟨0, by omega, rfl, Fr.refl _ _⟩
  case round =>
    obtain ⟨j, hj, rfl, hf⟩ := hrel
    have HF := Lib.hid hf
    clear hf
    have hj6 : j < 6 := by have := HN.out.1; omega
    by_cases hlt : j < J
    · have HJ := Lib.hid hlt
      have hg := HG.out.fr0 HF.out
      have q0 : wr.cell? ⟨g, j * 4, none⟩ = some (.int .u64 (plAt j).lo) := hg.cellv (i := j * 4) ((plcs_get (i := 0) hj6 (by omega)).trans rfl)
      have q1 : wr.cell? ⟨g, j * 4 + 1, none⟩ = some (.int .u64 (plAt j).hi) := hg.cellv ((plcs_get (i := 1) hj6 (by omega)).trans rfl)
      have q2 : wr.cell? ⟨g, j * 4 + 2, none⟩ = some (.func (.func (plAt j).rd) #[] #[]) := hg.cellv ((plcs_get (i := 2) hj6 (by omega)).trans rfl)
      have q3 : wr.cell? ⟨g, j * 4 + 3, none⟩ = some (.func (.func (plAt j).wr) #[] #[]) := hg.cellv ((plcs_get (i := 3) hj6 (by omega)).trans rfl)
      have hn := HN.out.2.1 j hlt
      unfold inPl at hn
      have j6 : (j : Int) < 6 := by omega
      obtain ⟨r0, r1, r2⟩ := pl_rng hj6
      generalize (plAt j).lo = lo at *
      generalize (plAt j).hi = hi at *
      generalize (plAt j).rd = rd at *
      generalize (plAt j).wr = wv at *
      clear hj hlt hg hj6
      have ZN := Lib.hid (Blk.new wr 64 #[.int .u64 0, .int .u64 0, .nilFunc, .nilFunc])
      go_upto_region 5 with (first | (refine wpList_store_blk0 rfl 64 (.tmp 10) (.tmp 31) rfl wr.heap.size rfl #[.int .u64 lo, .int .u64 hi, .func (.func rd) #[] #[], .func (.func wv) #[] #[]] rfl ZN.out (by kernel_rfl) rfl (by simp [Value.oneCell']) ?_; intro w9 f9 b9) | fail)
      have u0 : w9.cell? ⟨wr.heap.size, 0, none⟩ = some (.int .u64 lo) := b9.cellv rfl
      have u1 : w9.cell? ⟨wr.heap.size, 1, none⟩ = some (.int .u64 hi) := b9.cellv rfl
      have HF9 := Lib.hid (show Fr Nil w2 w9 from (HF.out.alloc _).step f9 fun i _ hi => .inr (by have e : i = wr.heap.size := hi; rw [e]; exact HF.out.size))
      clear f9 b9 ZN q0 q1 q2 q3
      generalize wr.heap.size = xb at *
      cases e1 : decide (lo ≤ a)
      · rw [e1] at hn
        go_wp2_with fail
        go_roundw
        case rel => exact ⟨j + 1, HJ.out, by go_num, HF9.out⟩
        case measure => have := HJ.out; have := HN.out.1; simp [intOf]; omega
      · rw [e1] at hn
        have e2 : decide (a < hi) = false := by simpa using hn
        clear hn
        go_wp2_with fail
        go_roundw
        case rel => exact ⟨j + 1, HJ.out, by go_num, HF9.out⟩
        case measure => have := HJ.out; have := HN.out.1; simp [intOf]; omega
    · obtain rfl : j = J := by omega
      have hg := HG.out.fr0 HF.out
      have q0 : wr.cell? ⟨g, j * 4, none⟩ = some (.int .u64 (plAt j).lo) := hg.cellv (i := j * 4) ((plcs_get (i := 0) hj6 (by omega)).trans rfl)
      have q1 : wr.cell? ⟨g, j * 4 + 1, none⟩ = some (.int .u64 (plAt j).hi) := hg.cellv ((plcs_get (i := 1) hj6 (by omega)).trans rfl)
      have q2 : wr.cell? ⟨g, j * 4 + 2, none⟩ = some (.func (.func (plAt j).rd) #[] #[]) := hg.cellv ((plcs_get (i := 2) hj6 (by omega)).trans rfl)
      have q3 : wr.cell? ⟨g, j * 4 + 3, none⟩ = some (.func (.func (plAt j).wr) #[] #[]) := hg.cellv ((plcs_get (i := 3) hj6 (by omega)).trans rfl)
      have hn := HN.out.2.2
      unfold inPl at hn
      simp only [Bool.and_eq_true] at hn
      obtain ⟨e1, e2⟩ := hn
      have p1 := of_decide_eq_true e1
      have p2 := of_decide_eq_true e2
      have j6 : (j : Int) < 6 := by omega
      obtain ⟨r0, r1, r2⟩ := pl_rng hj6
      generalize hlo : (plAt j).lo = lo at q0 e1 p1 r0 r1
      generalize hhi : (plAt j).hi = hi at q1 e2 p2 r1 r2
      generalize hrd : (plAt j).rd = rd at q2
      generalize hwv : (plAt j).wr = wv at q3
      have EQ := Lib.hid (And.intro hlo (And.intro hhi (And.intro hrd hwv)))
      clear hlo hhi hrd hwv
      clear hj hlt hg hj6
      have ZN := Lib.hid (Blk.new wr 64 #[.int .u64 0, .int .u64 0, .nilFunc, .nilFunc])
      go_upto_region 5 with (first | (refine wpList_store_blk0 rfl 64 (.tmp 10) (.tmp 31) rfl wr.heap.size rfl #[.int .u64 lo, .int .u64 hi, .func (.func rd) #[] #[], .func (.func wv) #[] #[]] rfl ZN.out (by kernel_rfl) rfl (by simp [Value.oneCell']) ?_; intro w9 f9 b9) | fail)
      have u0 : w9.cell? ⟨wr.heap.size, 0, none⟩ = some (.int .u64 lo) := b9.cellv rfl
      have u1 : w9.cell? ⟨wr.heap.size, 1, none⟩ = some (.int .u64 hi) := b9.cellv rfl
      have HF9 := Lib.hid (show Fr Nil w2 w9 from (HF.out.alloc _).step f9 fun i _ hi => .inr (by have e : i = wr.heap.size := hi; rw [e]; exact HF.out.size))
      have u2 : w9.cell? ⟨wr.heap.size, 2, none⟩ = some (.func (.func rd) #[] #[]) := b9.cellv rfl
      have u3 : w9.cell? ⟨wr.heap.size, 3, none⟩ = some (.func (.func wv) #[] #[]) := b9.cellv rfl
      have Z3 := Lib.hid (Z2.out.fr0 (show Fr Nil w2 w9 from HF9.out))
      have B9 := Lib.hid b9
      have XZ := Lib.hid (show wr.heap.size ≠ zb from fun e => by have := (Z2.out.fr0 HF.out).lt; omega)
      clear f9 b9 ZN q0 q1 q2 q3
      generalize wr.heap.size = xb at *
      go_upto_region 6 with fail
      have z0 : w9.cell? ⟨zb, 0, none⟩ = some (.int .u64 0) := Z3.out.cellv rfl
      have z1 : w9.cell? ⟨zb, 1, none⟩ = some (.int .u64 0) := Z3.out.cellv rfl
      have z2 : w9.cell? ⟨zb, 2, none⟩ = some .nilFunc := Z3.out.cellv rfl
      have z3 : w9.cell? ⟨zb, 3, none⟩ = some .nilFunc := Z3.out.cellv rfl
      have y0 := Z3.out.frozen 0
      have y1 := Z3.out.frozen 1
      have y2 := Z3.out.frozen 2
      have y3 := Z3.out.frozen 3
      have xz := XZ.out
      go_region
      have HB := Lib.hid ((((Z3.out.set_ 0 (.int .u64 lo)).set_ 1 (.int .u64 hi)).set_ 2 (.func (.func rd) #[] #[])).set_ 3 (.func (.func wv) #[] #[]))
      have hz : w.heap.size ≤ zb := Nat.le_of_eq hsz
      have HF8 := Lib.hid (show Fr Nil w ((((w9.setCell ⟨zb, 0, none⟩ (.int .u64 lo)).setCell ⟨zb, 1, none⟩ (.int .u64 hi)).setCell ⟨zb, 2, none⟩ (.func (.func rd) #[] #[])).setCell ⟨zb, 3, none⟩ (.func (.func wv) #[] #[])).drew from ((((F2.out.trans HF9.out).setNew hz _).setNew hz _).setNew hz _).setNew hz _ |>.drew)
      have HB2 := Lib.hid (show Blk ((((w9.setCell ⟨zb, 0, none⟩ (.int .u64 lo)).setCell ⟨zb, 1, none⟩ (.int .u64 hi)).setCell ⟨zb, 2, none⟩ (.func (.func rd) #[] #[])).setCell ⟨zb, 3, none⟩ (.func (.func wv) #[] #[])).drew zb 64 #[.int .u64 lo, .int .u64 hi, .func (.func rd) #[] #[], .func (.func wv) #[] #[]] from HB.out)
      clear HB hz
      generalize ((((w9.setCell ⟨zb, 0, none⟩ (.int .u64 lo)).setCell ⟨zb, 1, none⟩ (.int .u64 hi)).setCell ⟨zb, 2, none⟩ (.func (.func rd) #[] #[])).setCell ⟨zb, 3, none⟩ (.func (.func wv) #[] #[])).drew = wz at *
      clear z0 z1 z2 z3 y0 y1 y2 y3 u0 u1 u2 u3 xz
      go_wp2_with fail
      refine bodyPost_ret (v := .tuple #[.agg #[.int .u64 lo, .int .u64 hi, .func (.func rd) #[] #[], .func (.func wv) #[] #[]], _, .bool true]) (results_cell3 (p := 6) (q := 7) (r := 8) (ty := 64) Try.results24 _ _ zb _ _ rfl HB2.out Try.underlying64 rfl (by kernel_rfl)) rfl ⟨?_, HF8.out⟩
      obtain ⟨h1, h2, h3, h4⟩ := EQ.out
      rw [pagg, h1, h2, h3, h4]
      rfl
/-- None, where there is no such core or the address is odd. -/
theorem find_bad (b n : Nat) (v1 v2 v3 : Value) (c a : Int) (w : World) (hb : Blk w b 60 #[.int .i64 (n : Int), v1, v2, v3]) (h : (decide (0 ≤ c) && decide (c < (n : Int)) && (a % 8 == 0)) = false) (a0 : 0 ≤ a) (a1 : a ≤ 18446744073709551615) :
    Calls Try.prog 24 #[.pointer (some ⟨b, 0, none⟩), .int .i64 c, .int .u64 a] w fun e w' => e = .returned (.tuple #[pz, .int .i64 0, .bool false]) ∧ Fr Nil w w' := by
  have Z1 := Lib.hid (Blk.new w 64 #[.int .u64 0, .int .u64 0, .nilFunc, .nilFunc])
  have F1 := Lib.hid ((Fr.refl Nil w).alloc (.cells #[.int .u64 0, .int .u64 0, .nilFunc, .nilFunc] 64))
  have c1 : (w.alloc (.cells #[.int .u64 0, .int .u64 0, .nilFunc, .nilFunc] 64)).cell? ⟨b, 0, none⟩ = some (.int .i64 (n : Int)) := (hb.alloc (.cells #[.int .u64 0, .int .u64 0, .nilFunc, .nilFunc] 64)).cellv rfl
  have HSZ := Lib.hid (show w.heap.size ≤ w.heap.size from Nat.le_refl _)
  clear hb
  have key : (decide (0 ≤ c) = false ∨ (decide (0 ≤ c) = true ∧ decide (c < (n : Int)) = false)) ∨ (decide (0 ≤ c) = true ∧ decide (c < (n : Int)) = true ∧ (a % 8 == 0) = false) := by
    cases e1 : decide (0 ≤ c) <;> cases e2 : decide (c < (n : Int)) <;> cases e3 : (a % 8 == 0) <;> simp_all
  clear h
  rcases key with (e1 | ⟨e1, e2⟩) | ⟨e1, e2, e3⟩
  all_goals
    go_enter Try.func24, Try.ntmps24
    go_upto_region 1 with fail
    go_upto_region 8 with fail
    generalize hw : w.alloc (.cells #[.int .u64 0, .int .u64 0, .nilFunc, .nilFunc] 64) = wz at *
    generalize hsz : w.heap.size = zb at Z1 HSZ ⊢
    clear c1
    go_wp2_with (first | (refine wpList_store_blk0 rfl 64 (.tmp 6) (.tmp 50) rfl zb rfl #[.int .u64 0, .int .u64 0, .nilFunc, .nilFunc] rfl Z1.out (by kernel_rfl) rfl (by simp [Value.oneCell']) ?_; intro w9 f9 b9) | fail)
    have HB := Lib.hid b9
    have HF9 := Lib.hid (show Fr Nil w w9 from F1.out.step f9 fun i _ hi => .inr (by have e : i = zb := hi; rw [e]; exact Nat.le_of_eq hsz))
    clear f9 b9
    refine bodyPost_ret (v := .tuple #[pz, .int .i64 0, .bool false]) ?_ rfl ⟨rfl, HF9.out⟩
    exact results_cell3 (p := 6) (q := 7) (r := 8) (ty := 64) Try.results24 _ _ zb _ _ rfl HB.out Try.underlying64 rfl (by kernel_rfl)
end Go.Proofs.Ytnmakbippgnekaa
