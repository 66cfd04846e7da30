/- What sets of an interrupt. -/
import Derived.Test.YtnmakbippgnekaaGf
set_option linter.unusedSimpArgs false
set_option linter.unusedSectionVars false
namespace Go.Proofs.Ytnmakbippgnekaa
open Go.RowKit
set_option linter.unusedVariables false
set_option maxRecDepth 100000

def GS.setF (s : GS) (c id : Int) (f : I → I) : GS := if okI s c id = true then s.put c.toNat id.toNat (f (s.get c.toNat id.toNat)) else s
def code (b : Bool) : Int := if b = true then 0 else 1
theorem GS.setF_c (s : GS) (c id : Int) (f : I → I) : (s.setF c id f).c = s.c := by unfold GS.setF; split; exact GS.put_c _ _ _ _; rfl
theorem GS.setF_nat (s : GS) {c id : Nat} (f : I → I) (h1 : c < s.c) (h2 : id < 64) : s.setF (c : Int) (id : Int) f = s.put c id (f (s.get c id)) := by
  unfold GS.setF
  rw [if_pos (okI_of h1 h2), Int.toNat_natCast, Int.toNat_natCast]
theorem GS.setF_no (s : GS) {c id : Int} (f : I → I) (h : okI s c id = false) : s.setF c id f = s := by
  unfold GS.setF
  rw [h]
  rfl
def TurnTo (w : World) (gb cb : Nat) (av : Nat → Value) (s' : GS) (n : Int) (e : Ending) (w' : World) : Prop := e = .returned (.int .i64 n) ∧ GicAt w' gb cb av s' ∧ Fr (Two gb cb) w w'

theorem clo_36 (sb so bb : Nat) (v : Bool) (old : Value) (w : World) (h1 : w.cell? ⟨sb, so + 2, none⟩ = some old) (h2 : w.frozen? ⟨sb, so + 2, none⟩ = false) (h3 : w.cell? ⟨bb, 0, none⟩ = some (.bool v)) :
    Calls Try.prog 59 #[.pointer (some ⟨sb, so, none⟩), .pointer (some ⟨bb, 0, none⟩)] w fun e w' => e = .returned (.tuple #[]) ∧ w' = w.setCell ⟨sb, so + 2, none⟩ (.bool v) := by
  go_enter Try.func59, Try.ntmps59
  go_wp2
  go_end0
  exact ⟨rfl, rfl⟩
set_option maxHeartbeats 1000000 in
theorem turn_36 (gb cb : Nat) (av : Nat → Value) (s : GS) (c id : Int) (bb : Nat) (v : Bool) (w : World) (h : GicAt w gb cb av s) (hc : s.c ≤ 8) (hb : w.cell? ⟨bb, 0, none⟩ = some (.bool v)) :
    Calls Try.prog 58 #[.pointer (some ⟨gb, 0, none⟩), .int .i64 c, .int .i64 id, .func (.func 59) #[] #[.pointer (some ⟨bb, 0, none⟩)]] w
      (TurnTo w gb cb av (s.setF c id fun x => { x with hi := v }) (code (okI s c id))) := by
  cases hk : okI s c id
  · have OF := Lib.hid (of_no gb cb av s c id w h hc hk)
    rw [s.setF_no _ hk]
    clear hk
    have H := Lib.hid h
    clear h hb
    go_enter Try.func58, Try.ntmps58
    go_wp2_with (go_at_call 35; refine OF.out.mono ?_; rintro e w2 ⟨rfl, rfl⟩)
    go_ret
    exact ⟨rfl, H.out, Fr.refl _ _⟩
  · obtain ⟨c, id, rfl, rfl, h1, h2⟩ := okI_nat hk
    clear hk
    have OF := Lib.hid (of_yes gb cb av s c id w h hc h1 h2)
    rw [s.setF_nat _ h1 h2]
    have H := Lib.hid h
    clear h h1 h2
    go_enter Try.func58, Try.ntmps58
    go_wp2_with (first | (go_at_call 35; refine OF.out.mono ?_; rintro e w2 ⟨sb, so, rfl, SP, rfl⟩; have CL := Lib.hid (clo_36 sb so bb v _ w (SP.cell 2 _ rfl) (SP.frz _) hb); have SP' := Lib.hid SP; clear SP) | (go_at_call 59; refine CL.out.mono ?_; rintro e w3 ⟨rfl, rfl⟩))
    go_ret
    exact ⟨rfl, SP'.out.set 2 _ _ (by omega) rfl, (Fr.refl _ _).setCell (.inl SP'.out.foot) _⟩

theorem clo_37 (sb so bb : Nat) (v : Bool) (old : Value) (w : World) (h1 : w.cell? ⟨sb, so + 0, none⟩ = some old) (h2 : w.frozen? ⟨sb, so + 0, none⟩ = false) (h3 : w.cell? ⟨bb, 0, none⟩ = some (.bool v)) :
    Calls Try.prog 75 #[.pointer (some ⟨sb, so, none⟩), .pointer (some ⟨bb, 0, none⟩)] w fun e w' => e = .returned (.tuple #[]) ∧ w' = w.setCell ⟨sb, so + 0, none⟩ (.bool v) := by
  simp only [Nat.add_zero] at h1 h2 ⊢
  go_enter Try.func75, Try.ntmps75
  go_wp2
  go_end0
  exact ⟨rfl, rfl⟩
set_option maxHeartbeats 1000000 in
theorem turn_37 (gb cb : Nat) (av : Nat → Value) (s : GS) (c id : Int) (bb : Nat) (v : Bool) (w : World) (h : GicAt w gb cb av s) (hc : s.c ≤ 8) (hb : w.cell? ⟨bb, 0, none⟩ = some (.bool v)) :
    Calls Try.prog 58 #[.pointer (some ⟨gb, 0, none⟩), .int .i64 c, .int .i64 id, .func (.func 75) #[] #[.pointer (some ⟨bb, 0, none⟩)]] w
      (TurnTo w gb cb av (s.setF c id fun x => { x with en := v }) (code (okI s c id))) := by
  cases hk : okI s c id
  · have OF := Lib.hid (of_no gb cb av s c id w h hc hk)
    rw [s.setF_no _ hk]
    clear hk
    have H := Lib.hid h
    clear h hb
    go_enter Try.func58, Try.ntmps58
    go_wp2_with (go_at_call 35; refine OF.out.mono ?_; rintro e w2 ⟨rfl, rfl⟩)
    go_ret
    exact ⟨rfl, H.out, Fr.refl _ _⟩
  · obtain ⟨c, id, rfl, rfl, h1, h2⟩ := okI_nat hk
    clear hk
    have OF := Lib.hid (of_yes gb cb av s c id w h hc h1 h2)
    rw [s.setF_nat _ h1 h2]
    have H := Lib.hid h
    clear h h1 h2
    go_enter Try.func58, Try.ntmps58
    go_wp2_with (first | (go_at_call 35; refine OF.out.mono ?_; rintro e w2 ⟨sb, so, rfl, SP, rfl⟩; have CL := Lib.hid (clo_37 sb so bb v _ w (SP.cell 0 _ rfl) (SP.frz _) hb); have SP' := Lib.hid SP; clear SP) | (go_at_call 75; refine CL.out.mono ?_; rintro e w3 ⟨rfl, rfl⟩))
    go_ret
    exact ⟨rfl, SP'.out.set 0 _ _ (by omega) rfl, (Fr.refl _ _).setCell (.inl SP'.out.foot) _⟩

theorem clo_40 (sb so bb : Nat) (v : Int) (old : Value) (w : World) (h1 : w.cell? ⟨sb, so + 4, none⟩ = some old) (h2 : w.frozen? ⟨sb, so + 4, none⟩ = false) (h3 : w.cell? ⟨bb, 0, none⟩ = some (.int .i64 v)) :
    Calls Try.prog 77 #[.pointer (some ⟨sb, so, none⟩), .pointer (some ⟨bb, 0, none⟩)] w fun e w' => e = .returned (.tuple #[]) ∧ w' = w.setCell ⟨sb, so + 4, none⟩ (.int .i64 v) := by
  go_enter Try.func77, Try.ntmps77
  go_wp2
  go_end0
  exact ⟨rfl, rfl⟩
set_option maxHeartbeats 1000000 in
theorem turn_40 (gb cb : Nat) (av : Nat → Value) (s : GS) (c id : Int) (bb : Nat) (v : Int) (w : World) (h : GicAt w gb cb av s) (hc : s.c ≤ 8) (hb : w.cell? ⟨bb, 0, none⟩ = some (.int .i64 v)) :
    Calls Try.prog 58 #[.pointer (some ⟨gb, 0, none⟩), .int .i64 c, .int .i64 id, .func (.func 77) #[] #[.pointer (some ⟨bb, 0, none⟩)]] w
      (TurnTo w gb cb av (s.setF c id fun x => { x with rk := v }) (code (okI s c id))) := by
  cases hk : okI s c id
  · have OF := Lib.hid (of_no gb cb av s c id w h hc hk)
    rw [s.setF_no _ hk]
    clear hk
    have H := Lib.hid h
    clear h hb
    go_enter Try.func58, Try.ntmps58
    go_wp2_with (go_at_call 35; refine OF.out.mono ?_; rintro e w2 ⟨rfl, rfl⟩)
    go_ret
    exact ⟨rfl, H.out, Fr.refl _ _⟩
  · obtain ⟨c, id, rfl, rfl, h1, h2⟩ := okI_nat hk
    clear hk
    have OF := Lib.hid (of_yes gb cb av s c id w h hc h1 h2)
    rw [s.setF_nat _ h1 h2]
    have H := Lib.hid h
    clear h h1 h2
    go_enter Try.func58, Try.ntmps58
    go_wp2_with (first | (go_at_call 35; refine OF.out.mono ?_; rintro e w2 ⟨sb, so, rfl, SP, rfl⟩; have CL := Lib.hid (clo_40 sb so bb v _ w (SP.cell 4 _ rfl) (SP.frz _) hb); have SP' := Lib.hid SP; clear SP) | (go_at_call 77; refine CL.out.mono ?_; rintro e w3 ⟨rfl, rfl⟩))
    go_ret
    exact ⟨rfl, SP'.out.set 4 _ _ (by omega) rfl, (Fr.refl _ _).setCell (.inl SP'.out.foot) _⟩

theorem clo_41 (sb so bb : Nat) (v : Bool) (old : Value) (w : World) (h1 : w.cell? ⟨sb, so + 1, none⟩ = some old) (h2 : w.frozen? ⟨sb, so + 1, none⟩ = false) (h3 : w.cell? ⟨bb, 0, none⟩ = some (.bool v)) :
    Calls Try.prog 76 #[.pointer (some ⟨sb, so, none⟩), .pointer (some ⟨bb, 0, none⟩)] w fun e w' => e = .returned (.tuple #[]) ∧ w' = w.setCell ⟨sb, so + 1, none⟩ (.bool v) := by
  go_enter Try.func76, Try.ntmps76
  go_wp2
  go_end0
  exact ⟨rfl, rfl⟩
set_option maxHeartbeats 1000000 in
theorem turn_41 (gb cb : Nat) (av : Nat → Value) (s : GS) (c id : Int) (bb : Nat) (v : Bool) (w : World) (h : GicAt w gb cb av s) (hc : s.c ≤ 8) (hb : w.cell? ⟨bb, 0, none⟩ = some (.bool v)) :
    Calls Try.prog 58 #[.pointer (some ⟨gb, 0, none⟩), .int .i64 c, .int .i64 id, .func (.func 76) #[] #[.pointer (some ⟨bb, 0, none⟩)]] w
      (TurnTo w gb cb av (s.setF c id fun x => { x with la := v }) (code (okI s c id))) := by
  cases hk : okI s c id
  · have OF := Lib.hid (of_no gb cb av s c id w h hc hk)
    rw [s.setF_no _ hk]
    clear hk
    have H := Lib.hid h
    clear h hb
    go_enter Try.func58, Try.ntmps58
    go_wp2_with (go_at_call 35; refine OF.out.mono ?_; rintro e w2 ⟨rfl, rfl⟩)
    go_ret
    exact ⟨rfl, H.out, Fr.refl _ _⟩
  · obtain ⟨c, id, rfl, rfl, h1, h2⟩ := okI_nat hk
    clear hk
    have OF := Lib.hid (of_yes gb cb av s c id w h hc h1 h2)
    rw [s.setF_nat _ h1 h2]
    have H := Lib.hid h
    clear h h1 h2
    go_enter Try.func58, Try.ntmps58
    go_wp2_with (first | (go_at_call 35; refine OF.out.mono ?_; rintro e w2 ⟨sb, so, rfl, SP, rfl⟩; have CL := Lib.hid (clo_41 sb so bb v _ w (SP.cell 1 _ rfl) (SP.frz _) hb); have SP' := Lib.hid SP; clear SP) | (go_at_call 76; refine CL.out.mono ?_; rintro e w3 ⟨rfl, rfl⟩))
    go_ret
    exact ⟨rfl, SP'.out.set 1 _ _ (by omega) rfl, (Fr.refl _ _).setCell (.inl SP'.out.foot) _⟩

theorem clo_59 (sb so bb : Nat) (v : Int) (old : Value) (w : World) (h1 : w.cell? ⟨sb, so + 5, none⟩ = some old) (h2 : w.frozen? ⟨sb, so + 5, none⟩ = false) (h3 : w.cell? ⟨bb, 0, none⟩ = some (.int .i64 v)) :
    Calls Try.prog 78 #[.pointer (some ⟨sb, so, none⟩), .pointer (some ⟨bb, 0, none⟩)] w fun e w' => e = .returned (.tuple #[]) ∧ w' = w.setCell ⟨sb, so + 5, none⟩ (.int .i64 v) := by
  go_enter Try.func78, Try.ntmps78
  go_wp2
  go_end0
  exact ⟨rfl, rfl⟩
set_option maxHeartbeats 1000000 in
theorem turn_59 (gb cb : Nat) (av : Nat → Value) (s : GS) (c id : Int) (bb : Nat) (v : Int) (w : World) (h : GicAt w gb cb av s) (hc : s.c ≤ 8) (hb : w.cell? ⟨bb, 0, none⟩ = some (.int .i64 v)) :
    Calls Try.prog 58 #[.pointer (some ⟨gb, 0, none⟩), .int .i64 c, .int .i64 id, .func (.func 78) #[] #[.pointer (some ⟨bb, 0, none⟩)]] w
      (TurnTo w gb cb av (s.setF c id fun x => { x with dst := v }) (code (okI s c id))) := by
  cases hk : okI s c id
  · have OF := Lib.hid (of_no gb cb av s c id w h hc hk)
    rw [s.setF_no _ hk]
    clear hk
    have H := Lib.hid h
    clear h hb
    go_enter Try.func58, Try.ntmps58
    go_wp2_with (go_at_call 35; refine OF.out.mono ?_; rintro e w2 ⟨rfl, rfl⟩)
    go_ret
    exact ⟨rfl, H.out, Fr.refl _ _⟩
  · obtain ⟨c, id, rfl, rfl, h1, h2⟩ := okI_nat hk
    clear hk
    have OF := Lib.hid (of_yes gb cb av s c id w h hc h1 h2)
    rw [s.setF_nat _ h1 h2]
    have H := Lib.hid h
    clear h h1 h2
    go_enter Try.func58, Try.ntmps58
    go_wp2_with (first | (go_at_call 35; refine OF.out.mono ?_; rintro e w2 ⟨sb, so, rfl, SP, rfl⟩; have CL := Lib.hid (clo_59 sb so bb v _ w (SP.cell 5 _ rfl) (SP.frz _) hb); have SP' := Lib.hid SP; clear SP) | (go_at_call 78; refine CL.out.mono ?_; rintro e w3 ⟨rfl, rfl⟩))
    go_ret
    exact ⟨rfl, SP'.out.set 5 _ _ (by omega) rfl, (Fr.refl _ _).setCell (.inl SP'.out.foot) _⟩

theorem GicAt.box {w : World} {gb cb : Nat} {av : Nat → Value} {s : GS} (h : GicAt w gb cb av s) (o : Obj) : GicAt (w.alloc o) gb cb av s := h.fr ((Fr.refl Nil w).alloc o) fun _ _ => id
theorem Tn.of {K : Nat → Prop} {w w1 w2 : World} {gb cb : Nat} {av av' : Nat → Value} {s s' : GS} {v : Value} (h : Gk K w gb s) (hf : ∀ k, Foot gb cb av s.c k → ¬ K k) (h1 : Fr Nil w w1) (h2 : GicAt w2 gb cb av' s') (h3 : Fr (Foot gb cb av s.c) w1 w2)
    (hc : s'.c = s.c) (ha : ∀ i k, i < s.c → (av' i).ownBlock = some k → (av i).ownBlock = some k ∨ w.heap.size ≤ k) : Tn K gb w s' v (.returned v) w2 := by
  have HF : Fr (Not K) w w2 := h1.nil.step h3 fun i hi hs => .inl (hf i hs)
  refine ⟨rfl, ⟨⟨cb, av', h2, fun k hk => ?_⟩, fun k hk => Nat.lt_of_lt_of_le (h.lt k hk) HF.size, by rw [hc]; exact h.c8, by rw [hc]; exact h.c1⟩, HF⟩
  rcases hk with e | e | ⟨i, hi, e⟩
  · exact hf k (.inl e)
  · exact hf k (.inr (.inl e))
  · rw [hc] at hi
    rcases ha i k hi e with e | e
    · exact hf k (.inr (.inr ⟨i, hi, e⟩))
    · intro hk
      have := h.lt k hk
      omega

/-- enable -/
def GS.enable (s : GS) (c id : Int) (v : Bool) : GS := s.setF c id fun x => { x with en := v }
def GS.enableC (s : GS) (c id : Int) (v : Bool) : Int := code (okI s c id)
set_option maxHeartbeats 1000000 in
theorem enable_ok (K : Nat → Prop) (gb : Nat) (s : GS) (c id : Int) (v : Bool) (w : World) (h : Gk K w gb s) : Calls Try.prog 67 #[.pointer (some ⟨gb, 0, none⟩), .int .i64 c, .int .i64 id, .bool v] w (Tn K gb w (s.enable c id v) (.int .i64 (s.enableC c id v))) := by
  obtain ⟨cb, av, hg, hf⟩ := h.mem
  have W1 := hg.box (.cells #[.bool v] 4)
  have B1 : (w.alloc (.cells #[.bool v] 4)).cell? ⟨w.heap.size, 0, none⟩ = some (.bool v) := (Blk.new w 4 #[.bool v]).cellv rfl
  have T1 := Lib.hid (turn_37 gb cb av s c id w.heap.size v _ W1 h.c8 B1)
  have HK := Lib.hid h
  have HF := Lib.hid hf
  clear W1 h hf hg
  have E1 : s.enable c id v = s.setF c id fun x => { x with en := v } := rfl
  have E2 : s.enableC c id v = code (okI s c id) := rfl
  rw [E1, E2]
  clear E1 E2
  go_enter Try.func67, Try.ntmps67
  go_wp2_with (go_at_call 58; refine T1.out.mono ?_; rintro e w2 ⟨rfl, H2, F2⟩; have H2' := Lib.hid H2; have F2' := Lib.hid F2; clear H2 F2)
  go_ret
  exact Tn.of HK.out HF.out ((Fr.refl Nil w).alloc _) H2'.out (F2'.out.mono fun k _ hk => hk.elim .inl fun e => .inr (.inl e)) (GS.setF_c _ _ _ _) fun i k hi hk => .inl hk
/-- pend -/
def GS.pend (s : GS) (c id : Int) (v : Bool) : GS := s.setF c id fun x => { x with la := v }
def GS.pendC (s : GS) (c id : Int) (v : Bool) : Int := code (okI s c id)
set_option maxHeartbeats 1000000 in
theorem pend_ok (K : Nat → Prop) (gb : Nat) (s : GS) (c id : Int) (v : Bool) (w : World) (h : Gk K w gb s) : Calls Try.prog 68 #[.pointer (some ⟨gb, 0, none⟩), .int .i64 c, .int .i64 id, .bool v] w (Tn K gb w (s.pend c id v) (.int .i64 (s.pendC c id v))) := by
  obtain ⟨cb, av, hg, hf⟩ := h.mem
  have W1 := hg.box (.cells #[.bool v] 4)
  have B1 : (w.alloc (.cells #[.bool v] 4)).cell? ⟨w.heap.size, 0, none⟩ = some (.bool v) := (Blk.new w 4 #[.bool v]).cellv rfl
  have T1 := Lib.hid (turn_41 gb cb av s c id w.heap.size v _ W1 h.c8 B1)
  have HK := Lib.hid h
  have HF := Lib.hid hf
  clear W1 h hf hg
  have E1 : s.pend c id v = s.setF c id fun x => { x with la := v } := rfl
  have E2 : s.pendC c id v = code (okI s c id) := rfl
  rw [E1, E2]
  clear E1 E2
  go_enter Try.func68, Try.ntmps68
  go_wp2_with (go_at_call 58; refine T1.out.mono ?_; rintro e w2 ⟨rfl, H2, F2⟩; have H2' := Lib.hid H2; have F2' := Lib.hid F2; clear H2 F2)
  go_ret
  exact Tn.of HK.out HF.out ((Fr.refl Nil w).alloc _) H2'.out (F2'.out.mono fun k _ hk => hk.elim .inl fun e => .inr (.inl e)) (GS.setF_c _ _ _ _) fun i k hi hk => .inl hk
/-- line -/
def GS.line (s : GS) (c id : Int) (v : Bool) : GS := if decide (16 ≤ id) = true then s.setF c id fun x => { x with hi := v } else s
def GS.lineC (s : GS) (c id : Int) (v : Bool) : Int := code (decide (16 ≤ id) && okI s c id)
set_option maxHeartbeats 1000000 in
theorem line_ok (K : Nat → Prop) (gb : Nat) (s : GS) (c id : Int) (v : Bool) (w : World) (h : Gk K w gb s) : Calls Try.prog 39 #[.pointer (some ⟨gb, 0, none⟩), .int .i64 c, .int .i64 id, .bool v] w (Tn K gb w (s.line c id v) (.int .i64 (s.lineC c id v))) := by
  obtain ⟨cb, av, hg, hf⟩ := h.mem
  have W1 := hg.box (.cells #[.bool v] 4)
  have B1 : (w.alloc (.cells #[.bool v] 4)).cell? ⟨w.heap.size, 0, none⟩ = some (.bool v) := (Blk.new w 4 #[.bool v]).cellv rfl
  have T1 := Lib.hid (turn_36 gb cb av s c id w.heap.size v _ W1 h.c8 B1)
  have HK := Lib.hid h
  have HF := Lib.hid hf
  have HG := Lib.hid hg
  clear W1 h hf hg
  cases hp : decide (16 ≤ id)
  · have E1 : s.line c id v = s := by unfold GS.line; rw [hp]; rfl
    have E2 : s.lineC c id v = 1 := by unfold GS.lineC; rw [hp]; rfl
    rw [E1, E2]
    clear E1 E2 T1
    simp only [Bool.and_eq_false_iff, Bool.not_eq_false', decide_eq_false_iff_not, Int.not_le, Int.not_lt] at hp
    skip
    all_goals
      go_enter Try.func39, Try.ntmps39
      go_wp2
      go_ret
      exact Tn.of HK.out HF.out (Fr.refl Nil w) (HG.out.box _) ((Fr.refl _ w).alloc _) rfl fun i k hi hk => .inl hk
  · have E1 : s.line c id v = s.setF c id fun x => { x with hi := v } := by unfold GS.line; rw [hp]; rfl
    have E2 : s.lineC c id v = code (okI s c id) := by unfold GS.lineC; rw [hp]; rfl
    rw [E1, E2]
    clear E1 E2
    simp only [Bool.and_eq_true, decide_eq_true_eq] at hp
    go_enter Try.func39, Try.ntmps39
    go_wp2_with (go_at_call 58; refine T1.out.mono ?_; rintro e w2 ⟨rfl, H2, F2⟩; have H2' := Lib.hid H2; have F2' := Lib.hid F2; clear H2 F2)
    go_ret
    exact Tn.of HK.out HF.out ((Fr.refl Nil w).alloc _) H2'.out (F2'.out.mono fun k _ hk => hk.elim .inl fun e => .inr (.inl e)) (GS.setF_c _ _ _ _) fun i k hi hk => .inl hk
/-- rank -/
def GS.rank (s : GS) (c id : Int) (v : Int) : GS := if (decide (0 ≤ v) && decide (v ≤ 255)) = true then s.setF c id fun x => { x with rk := v } else s
def GS.rankC (s : GS) (c id : Int) (v : Int) : Int := code ((decide (0 ≤ v) && decide (v ≤ 255)) && okI s c id)
set_option maxHeartbeats 1000000 in
theorem rank_ok (K : Nat → Prop) (gb : Nat) (s : GS) (c id : Int) (v : Int) (w : World) (h : Gk K w gb s) : Calls Try.prog 70 #[.pointer (some ⟨gb, 0, none⟩), .int .i64 c, .int .i64 id, .int .i64 v] w (Tn K gb w (s.rank c id v) (.int .i64 (s.rankC c id v))) := by
  obtain ⟨cb, av, hg, hf⟩ := h.mem
  have W1 := hg.box (.cells #[.int .i64 v] 3)
  have B1 : (w.alloc (.cells #[.int .i64 v] 3)).cell? ⟨w.heap.size, 0, none⟩ = some (.int .i64 v) := (Blk.new w 3 #[.int .i64 v]).cellv rfl
  have T1 := Lib.hid (turn_40 gb cb av s c id w.heap.size v _ W1 h.c8 B1)
  have HK := Lib.hid h
  have HF := Lib.hid hf
  have HG := Lib.hid hg
  clear W1 h hf hg
  cases hp : (decide (0 ≤ v) && decide (v ≤ 255))
  · have E1 : s.rank c id v = s := by unfold GS.rank; rw [hp]; rfl
    have E2 : s.rankC c id v = 1 := by unfold GS.rankC; rw [hp]; rfl
    rw [E1, E2]
    clear E1 E2 T1
    simp only [Bool.and_eq_false_iff, Bool.not_eq_false', decide_eq_false_iff_not, Int.not_le, Int.not_lt] at hp
    rcases hp with hp | hp
    all_goals
      go_enter Try.func70, Try.ntmps70
      go_wp2
      go_ret
      exact Tn.of HK.out HF.out (Fr.refl Nil w) (HG.out.box _) ((Fr.refl _ w).alloc _) rfl fun i k hi hk => .inl hk
  · have E1 : s.rank c id v = s.setF c id fun x => { x with rk := v } := by unfold GS.rank; rw [hp]; rfl
    have E2 : s.rankC c id v = code (okI s c id) := by unfold GS.rankC; rw [hp]; rfl
    rw [E1, E2]
    clear E1 E2
    simp only [Bool.and_eq_true, decide_eq_true_eq] at hp
    go_enter Try.func70, Try.ntmps70
    go_wp2_with (go_at_call 58; refine T1.out.mono ?_; rintro e w2 ⟨rfl, H2, F2⟩; have H2' := Lib.hid H2; have F2' := Lib.hid F2; clear H2 F2)
    go_ret
    exact Tn.of HK.out HF.out ((Fr.refl Nil w).alloc _) H2'.out (F2'.out.mono fun k _ hk => hk.elim .inl fun e => .inr (.inl e)) (GS.setF_c _ _ _ _) fun i k hi hk => .inl hk
/-- route -/
def GS.route (s : GS) (id : Int) (v : Int) : GS := if decide (32 ≤ id) = true then s.setF v id fun x => { x with dst := v } else s
def GS.routeC (s : GS) (id : Int) (v : Int) : Int := code (decide (32 ≤ id) && okI s v id)
set_option maxHeartbeats 1000000 in
theorem route_ok (K : Nat → Prop) (gb : Nat) (s : GS) (id : Int) (v : Int) (w : World) (h : Gk K w gb s) : Calls Try.prog 72 #[.pointer (some ⟨gb, 0, none⟩), .int .i64 id, .int .i64 v] w (Tn K gb w (s.route id v) (.int .i64 (s.routeC id v))) := by
  obtain ⟨cb, av, hg, hf⟩ := h.mem
  have W1 := hg.box (.cells #[.int .i64 v] 3)
  have B1 : (w.alloc (.cells #[.int .i64 v] 3)).cell? ⟨w.heap.size, 0, none⟩ = some (.int .i64 v) := (Blk.new w 3 #[.int .i64 v]).cellv rfl
  have T1 := Lib.hid (turn_59 gb cb av s v id w.heap.size v _ W1 h.c8 B1)
  have HK := Lib.hid h
  have HF := Lib.hid hf
  have HG := Lib.hid hg
  clear W1 h hf hg
  cases hp : decide (32 ≤ id)
  · have E1 : s.route id v = s := by unfold GS.route; rw [hp]; rfl
    have E2 : s.routeC id v = 1 := by unfold GS.routeC; rw [hp]; rfl
    rw [E1, E2]
    clear E1 E2 T1
    simp only [Bool.and_eq_false_iff, Bool.not_eq_false', decide_eq_false_iff_not, Int.not_le, Int.not_lt] at hp
    skip
    all_goals
      go_enter Try.func72, Try.ntmps72
      go_wp2
      go_ret
      exact Tn.of HK.out HF.out (Fr.refl Nil w) (HG.out.box _) ((Fr.refl _ w).alloc _) rfl fun i k hi hk => .inl hk
  · have E1 : s.route id v = s.setF v id fun x => { x with dst := v } := by unfold GS.route; rw [hp]; rfl
    have E2 : s.routeC id v = code (okI s v id) := by unfold GS.routeC; rw [hp]; rfl
    rw [E1, E2]
    clear E1 E2
    simp only [Bool.and_eq_true, decide_eq_true_eq] at hp
    go_enter Try.func72, Try.ntmps72
    go_wp2_with (go_at_call 58; refine T1.out.mono ?_; rintro e w2 ⟨rfl, H2, F2⟩; have H2' := Lib.hid H2; have F2' := Lib.hid F2; clear H2 F2)
    go_ret
    exact Tn.of HK.out HF.out ((Fr.refl Nil w).alloc _) H2'.out (F2'.out.mono fun k _ hk => hk.elim .inl fun e => .inr (.inl e)) (GS.setF_c _ _ _ _) fun i k hi hk => .inl hk
end Go.Proofs.Ytnmakbippgnekaa
