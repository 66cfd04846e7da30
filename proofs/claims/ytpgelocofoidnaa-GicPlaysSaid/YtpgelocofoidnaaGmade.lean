/- The chapter's example; a controller behind some calls. -/
import Derived.Test.YtpgelocofoidnaaGonly
import Derived.Test.YtpgelocofoidnaaMix
set_option linter.unusedSimpArgs false
set_option linter.unusedSectionVars false
namespace Go.Proofs.Ytpgelocofoidnaa
open Go.RowKit
set_option linter.unusedVariables false
set_option maxRecDepth 100000

/-! ### How many a core works at -/
theorem AtLe.mono {s s' : GS} {m n : Nat} (h : AtLe s m) (hc : s'.c = s.c) (ha : s'.at_ = s.at_) (hm : m ≤ n) : AtLe s' n := fun i hi => by
  rw [ha]
  rw [hc] at hi
  exact Nat.le_trans (h i hi) hm
theorem GS.setF_at (s : GS) (c id : Int) (f : I → I) : (s.setF c id f).at_ = s.at_ := by
  unfold GS.setF
  split
  · exact GS.put_at _ _ _ _
  · rfl
theorem GS.sendK_at (s : GS) (t : Int) (id k : Nat) : (s.sendK t id k).at_ = s.at_ := by
  induction k with
  | zero => rfl
  | succ k ih => unfold GS.sendK; split; rw [GS.put_at]; exact ih; exact ih
theorem GS.send_c (s : GS) (t id : Int) : (s.send t id).c = s.c := by
  unfold GS.send
  split
  · exact GS.sendK_c _ _ _ _
  · rfl
theorem GS.send_at (s : GS) (t id : Int) : (s.send t id).at_ = s.at_ := by
  unfold GS.send
  split
  · exact GS.sendK_at _ _ _ _
  · rfl
theorem AtLe.take {s : GS} {m : Nat} (h : AtLe s m) (c id : Nat) (hc : c < s.c) : AtLe (s.take c id) (m + 1) := fun i hi => by
  rw [GS.take_c] at hi
  unfold GS.take
  show (upd s.at_ c _ i).length ≤ m + 1
  by_cases e : i = c
  · subst e
    rw [upd_same, List.length_append]
    have := h i hi
    simp
    exact this
  · rw [upd_other _ _ e]
    have := h i hi
    omega
theorem AtLe.ack {s : GS} {m : Nat} (h : AtLe s m) (c : Int) : AtLe (s.ack c) (m + 1) := by
  unfold GS.ack
  by_cases hb : (s.best c).2 = true
  · rw [if_pos hb]
    obtain ⟨c', id, rfl, h1, h2, h3, h4⟩ := GS.best_nat hb
    rw [Int.toNat_natCast]
    exact h.take _ _ h1
  · rw [if_neg hb]
    exact h.mono rfl rfl (by omega)
theorem dropI_le (l : List Mo) (id : Int) : (dropI l id).length ≤ l.length := by
  unfold dropI
  exact List.length_eraseP_le
theorem AtLe.eoi {s : GS} {m : Nat} (h : AtLe s m) (c id : Int) : AtLe (s.eoi c id) m := by
  unfold GS.eoi
  split
  · unfold GS.eoiN
    split
    · intro i hi
      have hi' : i < s.c := by
        have : ({ s.put c.toNat id.toNat { s.get c.toNat id.toNat with ac := false } with at_ := upd s.at_ c.toNat (dropI (s.at_ c.toNat) (id.toNat : Int)) } : GS).c = s.c := GS.put_c _ _ _ _
        rw [this] at hi
        exact hi
      show (upd s.at_ c.toNat _ i).length ≤ m
      by_cases e : i = c.toNat
      · subst e
        rw [upd_same]
        exact Nat.le_trans (dropI_le _ _) (h _ hi')
      · rw [upd_other _ _ e]
        exact h i hi'
    · exact h
  · exact h
theorem GS.only_c (s : GS) (o : Stp) : (s.only o).c = s.c := by
  unfold GS.only GS.enable GS.pend GS.line GS.rank GS.route GS.mask
  repeat' split
  all_goals first | rfl | exact GS.setF_c _ _ _ _ | exact GS.send_c _ _ _ | exact GS.ack_c _ _ | exact GS.eoi_c _ _ _
theorem AtLe.only {s : GS} {m : Nat} (h : AtLe s m) (o : Stp) : AtLe (s.only o) (m + 1) := by
  unfold GS.only GS.enable GS.pend GS.line GS.rank GS.route GS.mask
  repeat' split
  all_goals first | exact h.ack _ | exact (h.eoi _ _).mono rfl rfl (by omega) | exact h.mono rfl rfl (by omega) | exact h.mono (GS.setF_c _ _ _ _) (GS.setF_at _ _ _ _) (by omega) | exact h.mono (GS.send_c _ _ _) (GS.send_at _ _ _) (by omega)
/-! ### Steps that came in -/
def Steps (w : World) (a : Option Addr) (len : Nat) (S : Nat → Stp) : Prop :=
  ∀ i, i < len → ∃ b off, a = some ⟨b, off, none⟩ ∧ b < w.heap.size ∧ w.cell? ⟨b, off + i * 5, none⟩ = some (.int .i64 (S i).k) ∧ w.cell? ⟨b, off + i * 5 + 1, none⟩ = some (.int .i64 (S i).c) ∧ w.cell? ⟨b, off + i * 5 + 2, none⟩ = some (.int .i64 (S i).i) ∧
    w.cell? ⟨b, off + i * 5 + 3, none⟩ = some (.int .i64 (S i).n) ∧ w.cell? ⟨b, off + i * 5 + 4, none⟩ = some (.bool (S i).on) ∧ (Lit.int .i64 (S i).i).wf = true
def iOf (v : Value) : Int := match v with | .int _ z => z | _ => 0
def bOf (v : Value) : Bool := match v with | .bool b => b | _ => false
theorem steps_of {w : World} {a : Option Addr} {len : Nat} {V : Nat → Nat → Value} (h : SlMix [some .i64, some .i64, some .i64, some .i64, none] w a len V) : ∃ S, Steps w a len S := by
  refine ⟨fun i => ⟨iOf (V i 0), iOf (V i 1), iOf (V i 2), iOf (V i 3), bOf (V i 4)⟩, fun i hi => ?_⟩
  obtain ⟨b, off, ha, hb, hc⟩ := h i hi
  obtain ⟨c0, z0, e0, w0⟩ := hc 0 _ rfl
  obtain ⟨c1, z1, e1, w1⟩ := hc 1 _ rfl
  obtain ⟨c2, z2, e2, w2⟩ := hc 2 _ rfl
  obtain ⟨c3, z3, e3, w3⟩ := hc 3 _ rfl
  obtain ⟨c4, z4, e4⟩ := hc 4 _ rfl
  refine ⟨b, off, ha, hb, ?_, ?_, ?_, ?_, ?_, ?_⟩
  · dsimp only; rw [e0] at c0 ⊢; exact c0
  · dsimp only; rw [e1] at c1 ⊢; exact c1
  · dsimp only; rw [e2] at c2 ⊢; exact c2
  · dsimp only; rw [e3] at c3 ⊢; exact c3
  · dsimp only; rw [e4] at c4 ⊢; exact c4
  · dsimp only; rw [e2]; exact w2
theorem Steps.fr {w w' : World} {a : Option Addr} {len : Nat} {S : Nat → Stp} {T : Nat → Prop} (h : Steps w a len S) (hf : Fr T w w') (ht : ∀ b off, a = some ⟨b, off, none⟩ → b < w.heap.size → ¬ T b) : Steps w' a len S := fun i hi => by
  obtain ⟨b, off, ha, hb, h0, h1, h2, h3, h4, h5⟩ := h i hi
  have e : ∀ o, w'.cell? ⟨b, o, none⟩ = w.cell? ⟨b, o, none⟩ := fun o => hf.cell (p := ⟨b, o, none⟩) hb (ht b off ha hb)
  exact ⟨b, off, ha, Nat.lt_of_lt_of_le hb hf.size, by rw [e]; exact h0, by rw [e]; exact h1, by rw [e]; exact h2, by rw [e]; exact h3, by rw [e]; exact h4, h5⟩
/-! ### What is kept -/
def More (K : Nat → Prop) (b : Nat) : Nat → Prop := fun k => K k ∨ k = b
theorem Gk.more {K : Nat → Prop} {w : World} {gb : Nat} {s : GS} (h : Gk K w gb s) (o : Obj) : Gk (More K w.heap.size) (w.alloc o) gb s := by
  obtain ⟨cb, av, h1, h2⟩ := h.mem
  refine ⟨⟨cb, av, h1.box o, fun k hk hm => ?_⟩, fun k hk => ?_, h.c8, h.c1⟩
  · rcases hm with e | e
    · exact h2 k hk e
    · have := h1.lt hk
      omega
  · have : (w.alloc o).heap.size = w.heap.size + 1 := by simp
    rcases hk with e | e
    · have := h.lt k e
      omega
    · omega
theorem Gk.less {K K' : Nat → Prop} {w : World} {gb : Nat} {s : GS} (h : Gk K w gb s) (hk : ∀ k, K' k → K k) : Gk K' w gb s := by
  obtain ⟨cb, av, h1, h2⟩ := h.mem
  exact ⟨⟨cb, av, h1, fun k hf hk' => h2 k hf (hk k hk')⟩, fun k hk' => h.lt k (hk k hk'), h.c8, h.c1⟩
theorem Fr.more {K : Nat → Prop} {w w1 w2 : World} {b : Nat} (h1 : Fr (Not K) w w1) (h2 : Fr (Not (More K b)) w1 w2) (hb : w.heap.size ≤ b) : Fr (Not K) w w2 :=
  h1.step h2 fun i hi hs => .inl fun hk => hs (.inl hk)
/-- Behind the first k calls. -/
def runS (S : Nat → Stp) : Nat → GS
  | 0 => new 3
  | k + 1 => (runS S k).only (S k)
theorem runS_c (S : Nat → Stp) : ∀ k, (runS S k).c = 3
  | 0 => rfl
  | k + 1 => (GS.only_c _ _).trans (runS_c S k)
theorem runS_at (S : Nat → Stp) : ∀ k, AtLe (runS S k) k
  | 0 => fun i hi => Nat.le_refl 0
  | k + 1 => (runS_at S k).only _
theorem runS_inv {P : GS → Prop} (S : Nat → Stp) (h0 : P (new 3)) (h1 : ∀ s o, s.c = 3 → P s → P (s.only o)) : ∀ k, P (runS S k)
  | 0 => h0
  | k + 1 => h1 _ _ (runS_c S k) (runS_inv S h0 h1 k)
def MadeTo (K : Nat → Prop) (S : Nat → Stp) (w : World) (e : Ending) (w' : World) : Prop := ∃ gb n, e = .returned (.pointer (some ⟨gb, 0, none⟩)) ∧ Gk K w' gb (runS S n) ∧ n ≤ 100 ∧ Fr (Not K) w w'
set_option maxHeartbeats 2000000 in
theorem made_ok (K : Nat → Prop) (a : Option Addr) (len cap : Nat) (S : Nat → Stp) (w : World) (hK : ∀ k, K k → k < w.heap.size) (hs : Steps w a len S) (ha : 0 < len → ∀ b off, a = some ⟨b, off, none⟩ → b < w.heap.size → K b) (hl : len ≤ cap) (hcap : cap ≤ maxLen) :
    Calls Try.prog 24 #[.slice a len cap] w (MadeTo K S w) := by
  have NW := Lib.hid (new_ok K 3 (z := 3) w rfl (by omega) (by omega) hK)
  have HS := Lib.hid hs
  have HA := Lib.hid ha
  have hlen : (len : Int) ≤ 9223372036854775807 := by simp only [maxLen] at hcap; omega
  clear hK hs ha hl hcap
  go_enter Try.func24, Try.ntmps24
  go_upto_region 5 with (go_at_call 12; refine NW.out.mono ?_; rintro e w1 ⟨gb, rfl, g1, f1, b1⟩; have G1 := Lib.hid g1; have F1 := Lib.hid f1; have B1 := Lib.hid b1; clear g1 f1 b1)
  have G2 := Lib.hid (G1.out.more (.cells #[.pointer (some ⟨gb, 0, none⟩), .pointer none] 50))
  have B2 := Lib.hid (Blk.new w1 50 #[.pointer (some ⟨gb, 0, none⟩), .pointer none])
  have F2 := Lib.hid (F1.out.alloc (.cells #[.pointer (some ⟨gb, 0, none⟩), .pointer none] 50))
  generalize (w1.alloc (.cells #[.pointer (some ⟨gb, 0, none⟩), .pointer none] 50)) = w2 at *
  obtain ⟨bx, hbx⟩ : ∃ bx, bx = w1.heap.size := ⟨_, rfl⟩
  rw [← hbx] at G2 B2 ⊢
  have HBX := Lib.hid (show w.heap.size ≤ bx by have := F1.out.size; omega)
  clear hbx
  go_wp2_with fail
  go_loopw [6] (fun i wr => ∃ (k : Nat), k ≤ len ∧ k ≤ 100 ∧ i = .int .i64 (k : Int) ∧ Gk (More K bx) wr gb (runS S k) ∧ Fr (Not (More K bx)) w2 wr) (fun i _ => 100 - (intOf i).toNat)
  case atStart => exact ⟨0, by omega, by omega, rfl, G2.out, Fr.refl _ _⟩
  case round =>
    obtain ⟨k, hk, hk2, rfl, hg, hf⟩ := hrel
    have HG := Lib.hid hg
    have HF := Lib.hid hf
    have HK := Lib.hid (And.intro hk hk2)
    clear hg hf hk hk2
    by_cases hlt : k < len
    · have l1 : decide ((k : Int) < (len : Int)) = true := by simp; exact hlt
      by_cases h100 : k < 100
      · have l2 : decide ((k : Int) < 100) = true := by simp; omega
        obtain ⟨b, off, hab, hb, h0, h1, h2, h3, h4, h5⟩ := ((HS.out.fr F2.out fun _ _ _ _ x => x).fr HF.out (fun b off e hb hn => hn (.inl (by
          obtain ⟨b', off', e', hb', -⟩ := HS.out k hlt
          rw [e'] at e
          cases e
          exact HA.out (by omega) _ _ e' hb')))) k hlt
        subst hab
        have n1 : (k : Int) < (len : Int) := by omega
        have n2 : (k : Int) < 100 := by omega
        have OK := Lib.hid (only_ok (More K bx) gb (runS S k) bx (S k) wr HG.out (.inr rfl) ((B2.out.fr HF.out fun hn => hn (.inr rfl)).cellv (i := 0) rfl) k (by omega) (runS_at S k))
        have L := Lib.hid (And.intro hlt h100)
        unfold stv at OK
        clear hb h5 hlt h100
        go_wp2_with (go_at_call 29; refine OK.out.mono ?_; rintro e w3 ⟨rfl, g3, f3⟩; have G3 := Lib.hid g3; have F3 := Lib.hid f3; clear g3 f3)
        go_roundw
        case rel => exact ⟨k + 1, by have := L.out; omega, by have := L.out; omega, by go_num, G3.out, HF.out.trans F3.out⟩
        case measure => have := L.out; simp [intOf]; omega
      · have l2 : decide ((k : Int) < 100) = false := by simp; omega
        have l3 : decide (k < len) = true := by simp; exact hlt
        have l4 : decide (k < 100) = false := by simp; omega
        go_wp2_with fail
        go_ret
        exact ⟨gb, k, rfl, HG.out.less fun k hk => .inl hk, HK.out.2, Fr.more (F2.out.nil) HF.out HBX.out⟩
    · have l1 : decide ((k : Int) < (len : Int)) = false := by simp; omega
      have l3 : decide (k < len) = false := by simp; omega
      go_wp2_with fail
      go_ret
      exact ⟨gb, k, rfl, HG.out.less fun k hk => .inl hk, HK.out.2, Fr.more (F2.out.nil) HF.out HBX.out⟩
end Go.Proofs.Ytpgelocofoidnaa
