/- The document's Set, Store, Drain. -/
import Derived.Test.YtjbdbmahbcaniaaYh
import Derived.StillTailTactics
import Derived.Deep.RegionHeld3
set_option linter.unusedSimpArgs false
set_option linter.unusedVariables false
set_option linter.unusedSectionVars false
namespace Go.Proofs.Ytjbdbmahbcaniaa
open Go.RowKit
set_option maxRecDepth 100000

theorem Try.yinfo106 : (Try.prog.info? 106).map (fun i => (i.zero, i.size, i.bytes)) = some (some (.agg #[.int .i64 0, .int .u64 0, .int .u64 0, .int .i64 0]), 4, 32) := by kernel_rfl
/-- What changes the document's memory. -/
def RTo (w : World) (rb : Nat) (fv av : Value) (n c d : Nat) (F' : Nat → Int) (al' : List A) (sp' : Nat) (v : Value) (e : Ending) (w' : World) : Prop :=
  e = .returned v ∧ ∃ av', RAt w' rb fv av' n c d F' al' sp' ∧ Fr (RFt rb fv av) w w' ∧ ∀ b, av'.ownBlock = some b → av.ownBlock = some b ∨ w.heap.size ≤ b
section
variable {w w' : World} {rb : Nat} {fv av : Value} {n c d : Nat} {F : Nat → Int} {al : List A} {sp : Nat}
theorem RAt.setF (h : RAt w rb fv av n c d F al sp) {g off cap k : Nat} (ef : fv = .slice (some ⟨g, off, none⟩) n cap) (hk : k < n) (u : Int) : RAt (w.setCell ⟨g, off + k, none⟩ (.int .u64 u)) rb fv av n c d (upd F k u) al sp := by
  have hf := h.fst
  rw [ef] at hf
  have n1 : rb ≠ g := fun e => hf.ne h.top (by decide) (by rw [e]; rfl)
  refine ⟨h.top.farc n1 _, ?_, h.all.far (fun hb => h.all.ne2 hf (by decide) hb rfl) _⟩
  rw [ef]
  have := hf.set_ k (.int .u64 u)
  rw [fvs_set F hk] at this
  exact this
theorem RAt.setSp (h : RAt w rb fv av n c d F al sp) (u : Nat) : RAt (w.setCell ⟨rb, 4, none⟩ (.int .i64 (u : Int))) rb fv av n c d F al u :=
  ⟨(h.top.set_ 4 _).cast rfl, h.fst.far (h.fst.ne h.top (by decide)) _, h.all.far (h.all.ne h.top (by decide)) _⟩
theorem RAt.setA (h : RAt w rb fv av n c d F al sp) {g off cap t : Nat} (ea : av = .slice (some ⟨g, off, none⟩) al.length cap) (ht : t < al.length) {j : Nat} (hj : j < 4) {u : Value} {y : A} (hy : (encA (al.getD t a0)).set j u = encA y) : RAt (w.setCell ⟨g, off + t * 4 + j, none⟩ u) rb fv av n c d F (al.set t y) sp := by
  have hf := h.all
  rw [ea] at hf
  have n1 : rb ≠ g := fun e => hf.ne h.top (by decide) (by rw [e]; rfl)
  refine ⟨h.top.farc n1 _, h.fst.far (fun hb => h.fst.ne2 hf (by decide) hb rfl) _, ?_⟩
  rw [ea, List.length_set, Nat.add_assoc]
  have := hf.set_ (t * 4 + j) u
  rw [acs_set ht j hj u hy] at this
  exact this
theorem RAt.push (h : RAt w rb fv av n c d F al sp) {w2 : World} (hg : w.grownBy w2 av.ownBlock) {av2 : Value} {x : A} (hw : Win w2 106 4 av2 (al.length + 1) (acs al ++ encA x)) : RAt (w2.setCell ⟨rb, 3, none⟩ av2) rb fv av2 n c d F (al ++ [x]) sp := by
  have n1 : av.ownBlock ≠ some rb := h.all.ne h.top (by decide)
  have t2 : Blk w2 rb 70 #[fv, .int .i64 (c : Int), .int .i64 (d : Int), av, .int .i64 (sp : Int)] := h.top.grown hg (fun e => n1 e.symm)
  have f2 : Win w2 22 1 fv n (fvs F n) := h.fst.grown hg (by
    cases hv : fv.ownBlock with
    | none => exact .inl rfl
    | some b => exact .inr fun e => h.fst.ne2 h.all (by decide) hv e.symm)
  refine ⟨(t2.set_ 3 av2).cast rfl, f2.far (f2.ne t2 (by decide)) _, ?_⟩
  rw [acs_app, List.length_append, List.length_singleton]
  exact hw.far (hw.ne t2 (by decide)) _
end
set_option maxHeartbeats 2000000 in
theorem rset_ok (rb : Nat) (fv av : Value) (n c d : Nat) (F : Nat → Int) (al : List A) (sp : Nat) (a v : Int) (w : World) (h : RAt w rb fv av n c d F al sp) (hn : n ≤ 8192) (hc : 1 ≤ c ∧ c ≤ 8) (a0_ : 0 ≤ a) (a1_ : a ≤ 18446744073709551615) (hl : al.length ≤ 1000) :
    Calls Try.prog 52 #[.pointer (some ⟨rb, 0, none⟩), .int .u64 a, .int .u64 v] w fun e w' =>
      if goodB n c 0 a = true then (if al = [] then RTo w rb fv av n c d (upd F (a / 8).toNat v) al sp (.int .i64 0) e w' else e = .returned (.int .i64 7) ∧ w = w') else e = .returned (.int .i64 1) ∧ w = w' := by
  have BD := Lib.hid (rbad_ok rb fv av n c d F al sp 0 a w h hn hc.2 a0_ a1_)
  cases hg : goodB n c 0 a
  · rw [hg] at BD
    clear h hg
    go_enter Try.func52, Try.ntmps52
    go_wp2_with (go_at_call 41; refine BD.out.mono ?_; rintro e w2 ⟨rfl, rfl⟩)
    go_ret
    exact ⟨rfl, rfl⟩
  · rw [hg] at BD
    have HR := Lib.hid h
    have a3 := h.a_c
    have f0 := h.f_c
    obtain ⟨ao, cap2, ev, -, -, -⟩ := h.all.shape
    subst ev
    have ll : (al.length : Int) ≤ 1000 := by omega
    have hgn : a / 8 < (n : Int) := by
      unfold goodB at hg
      simp only [Bool.and_eq_true, decide_eq_true_eq] at hg
      exact hg.2
    by_cases he : al = []
    · subst he
      obtain ⟨k, hk⟩ : ∃ k : Nat, a / 8 = (k : Int) := ⟨(a / 8).toNat, by omega⟩
      have kn : k < n := by omega
      obtain ⟨g, off, cap, ef, -, -, -, hcell, hz⟩ := h.fst.form (by omega)
      have c1 := hcell k (.int .u64 (F k)) (by simp [fvs, kn])
      have z1 := hz (off + k)
      have R2 := Lib.hid (h.setF ef kn v)
      have F2 := Lib.hid (show Fr (RFt rb fv (.slice ao ([] : List A).length cap2)) w (w.setCell ⟨g, off + k, none⟩ (.int .u64 v)) from (Fr.refl _ w).setCell (.inl (.inr (.inl (by rw [ef]; rfl)))) _)
      have hkt : (a / 8).toNat = k := by omega
      have n8 : (n : Int) ≤ 8192 := by omega
      have kI : (k : Int) < (n : Int) := by omega
      rw [ef] at f0
      have HF := Lib.hid ef
      clear h hg hcell hz ef hgn
      rw [hkt]
      clear hkt
      go_enter Try.func52, Try.ntmps52
      go_wp2_with (go_at_call 41; refine BD.out.mono ?_; rintro e w2 ⟨rfl, rfl⟩)
      go_ret
      exact ⟨rfl, _, R2.out, F2.out, fun b hb => .inl hb⟩
    · have hp : 0 < al.length := List.length_pos_iff.2 he
      have HE := Lib.hid he
      have p0 : (0 : Int) < (al.length : Int) := by omega
      clear h hg hgn he
      go_enter Try.func52, Try.ntmps52
      go_wp2_with (go_at_call 41; refine BD.out.mono ?_; rintro e w2 ⟨rfl, rfl⟩)
      go_ret
      exact ⟨rfl, rfl⟩
end Go.Proofs.Ytjbdbmahbcaniaa
