/- A loop of a relation; a relation of pairs. -/
import Derived.Test.YtpcpjmbfinpmlaaDoorRcl
set_option linter.unusedSimpArgs false
set_option linter.unusedVariables false
set_option linter.unusedSectionVars false
namespace Go.Proofs.YtpcpjmbfinpmlaaDoor
open Go.RowKit
set_option maxRecDepth 100000

def LoopTo (w : World) (n : Nat) (s : Rn) (e : Ending) (w' : World) : Prop :=
  ((∃ a : Nat, a < n ∧ s a a = true ∧ (∀ j, j < a → s j j = false) ∧ e = .returned (.tuple #[.int .i64 (a : Int), .bool true])) ∨ ((∀ j, j < n → s j j = false) ∧ e = .returned (.tuple #[.int .i64 0, .bool false]))) ∧ Fr Nil w w'
set_option maxHeartbeats 1000000 in
theorem loop_ok (b n : Nat) (r : Rn) (w : World) (h : RelAt w b n r) : Calls Tryd.prog 18 #[.pointer (some ⟨b, 0, none⟩)] w (LoopTo w n (clo n r)) := by
  have CL := Lib.hid (closed_ok b n r w h)
  generalize clo n r = s at *
  clear h
  go_enter Tryd.func18, Tryd.ntmps18
  go_wp2_with fail
  refine CL.out.mono ?_
  rintro e w2 ⟨g, rfl, h2, f2, -⟩
  have HR := Lib.hid h2
  have HF := Lib.hid f2
  have c0 := h2.n_c
  have N64 := Lib.hid h2.n64
  have n64 : (n : Int) ≤ 64 := by have := h2.n64; omega
  clear h2 f2 CL
  go_wp2_with fail
  clear c0
  go_loop [12] (fun i => ∃ a : Nat, a ≤ n ∧ i = .int .i64 (a : Int) ∧ ∀ j, j < a → s j j = false) (fun i => n - (intOf i).toNat)
  case atStart => exact ⟨0, Nat.zero_le _, rfl, fun j hj => absurd hj (by omega)⟩
  case round =>
    obtain ⟨a, ha, rfl, hj⟩ := hrel
    have HJ := Lib.hid hj
    clear hj
    by_cases hlt : a < n
    · have HA := Lib.hid hlt
      have an : (a : Int) < (n : Int) := by omega
      have a64 : (a : Int) < 64 := by omega
      have c1 := HR.out.row_c (a := a) (by have := N64.out; omega)
      have BG := bw_get (s a) (b := a) (by have := N64.out; omega)
      clear ha hlt
      cases hq : s a a
      · rw [hq] at BG
        have HQ := Lib.hid hq
        generalize (bw (s a) : Int) = x at *
        clear hq
        go_wp2_with fail
        go_round
        case rel => exact ⟨a + 1, HA.out, by go_num, fun j hj => by
          by_cases e : j = a
          · subst e; exact HQ.out
          · exact HJ.out j (by omega)⟩
        case measure => have := HA.out; simp [intOf]; omega
      · rw [hq] at BG
        have HQ := Lib.hid hq
        generalize (bw (s a) : Int) = x at *
        clear hq
        go_wp2_with fail
        go_ret2
        exact ⟨.inl ⟨a, HA.out, HQ.out, HJ.out, rfl⟩, HF.out⟩
    · obtain rfl : a = n := by omega
      have l1 : decide (a < a) = false := by simp
      clear ha hlt
      go_wp2_with fail
      go_ret2
      exact ⟨.inr ⟨HJ.out, rfl⟩, HF.out⟩
/-! ### Of -/
/-- Pairs that lie in memory. -/
def Prs (w : World) (a : Option Addr) (len : Nat) (P : Nat → Int × Int) : Prop :=
  ∀ i, i < len → ∃ b off, a = some ⟨b, off, none⟩ ∧ b < w.heap.size ∧ w.cell? ⟨b, off + i * 2, none⟩ = some (.int .i64 (P i).1) ∧ w.cell? ⟨b, off + i * 2 + 1, none⟩ = some (.int .i64 (P i).2)
theorem Prs.fr {w w' : World} {a : Option Addr} {len : Nat} {P : Nat → Int × Int} {S : Nat → Prop} (h : Prs w a len P) (hf : Fr S w w') (hs : ∀ b off, a = some ⟨b, off, none⟩ → b < w.heap.size → ¬ S b) : Prs w' a len P := fun i hi => by
  obtain ⟨b, off, ha, hb, h0, h1⟩ := h i hi
  have e : ∀ o, w'.cell? ⟨b, o, none⟩ = w.cell? ⟨b, o, none⟩ := fun o => hf.cell (p := ⟨b, o, none⟩) hb (hs b off ha hb)
  exact ⟨b, off, ha, Nat.lt_of_lt_of_le hb hf.size, by rw [e]; exact h0, by rw [e]; exact h1⟩
theorem Prs.fr0 {w w' : World} {a : Option Addr} {len : Nat} {P : Nat → Int × Int} (h : Prs w a len P) (hf : Fr Nil w w') : Prs w' a len P := h.fr hf fun _ _ _ _ x => x
def inP (n : Nat) (p : Int × Int) : Bool := inB n p.1 && inB n p.2
def ofS (n : Nat) (P : Nat → Int × Int) : Nat → Rn × Bool
  | 0 => (noR, true)
  | k + 1 => if (ofS n P k).2 = true then (if inP n (P k) = true then (addR (ofS n P k).1 (P k).1.toNat (P k).2.toNat, true) else ((ofS n P k).1, false)) else ofS n P k
def code (b : Bool) : Int := if b = true then 0 else 1
def OfTo (w : World) (n : Nat) (s : Rn × Bool) (e : Ending) (w' : World) : Prop :=
  (if s.2 = true then ∃ b, e = .returned (.tuple #[.pointer (some ⟨b, 0, none⟩), .int .i64 0]) ∧ RelAt w' b n s.1 ∧ w.heap.size ≤ b else e = .returned (.tuple #[.pointer none, .int .i64 1])) ∧ Fr Nil w w'
/-- One pair put in, or not. -/
def PutTo (w : World) (b n : Nat) (r : Rn) (p : Int × Int) (e : Ending) (w' : World) : Prop :=
  e = .returned (.int .i64 (code (inP n p))) ∧ RelAt w' b n (if inP n p = true then addR r p.1.toNat p.2.toNat else r) ∧ Fr (One b) w w'
theorem put_ok (b n : Nat) (r : Rn) (x y : Int) (w : World) (h : RelAt w b n r) : Calls Tryd.prog 42 #[.pointer (some ⟨b, 0, none⟩), .int .i64 x, .int .i64 y] w (PutTo w b n r (x, y)) := by
  cases hp : inP n (x, y)
  · refine (add_no b n r x y w h hp).mono ?_
    rintro e w' ⟨rfl, rfl⟩
    unfold PutTo
    rw [hp]
    exact ⟨rfl, h, Fr.refl _ _⟩
  · have h1 : inB n x = true ∧ inB n y = true := by
      unfold inP at hp
      simpa using hp
    obtain ⟨a, rfl, ha⟩ := inB_nat h1.1
    obtain ⟨c, rfl, hc⟩ := inB_nat h1.2
    refine (add_ok b n r a c w h ha hc).mono ?_
    rintro e w' ⟨rfl, h2, h3⟩
    unfold PutTo
    rw [hp]
    exact ⟨rfl, h2, h3⟩
set_option maxHeartbeats 1000000 in
theorem of_ok (n : Nat) (a0 : Option Addr) (len cap : Nat) (P : Nat → Int × Int) (w : World) (hn : n ≤ 64) (hP : Prs w a0 len P) (hl : (len : Int) ≤ 9223372036854775807) : Calls Tryd.prog 12 #[.int .i64 (n : Int), .slice a0 len cap] w (OfTo w n (ofS n P len)) := by
  have NW := Lib.hid (new_ok n w hn)
  have HP := Lib.hid hP
  clear hn hP
  go_enter Tryd.func12, Tryd.ntmps12
  go_wp2_with fail
  refine NW.out.mono ?_
  rintro e w2 ⟨g, rfl, h2, f2, hg⟩
  have R2 := Lib.hid h2
  have F2 := Lib.hid f2
  have HG := Lib.hid hg
  clear h2 f2 hg NW
  go_wp2_with fail
  go_loopw [7, 17] (fun ev i wr => ∃ k : Nat, k ≤ len ∧ i = .int .i64 (k : Int) ∧ ev = .int .i64 (code (ofS n P k).2) ∧ RelAt wr g n (ofS n P k).1 ∧ Fr Nil w wr) (fun _ i _ => len - (intOf i).toNat)
  case atStart => exact ⟨0, Nat.zero_le _, rfl, rfl, R2.out, F2.out⟩
  case round =>
    obtain ⟨k, hk, rfl, rfl, hR, hF⟩ := hrel
    clear R2 F2
    have HR := Lib.hid hR
    have HF := Lib.hid hF
    clear hR hF
    by_cases hlt : k < len
    · have HK := Lib.hid hlt
      have kn : (k : Int) < (len : Int) := by omega
      obtain ⟨b, off, hab, hb, h0, h1⟩ := HP.out.fr0 HF.out k hlt
      subst hab
      have R3 := Lib.hid (HR.out.fr0 ((Fr.refl Nil wr).alloc (.cells #[.int .i64 (P k).1, .int .i64 (P k).2] 60)))
      have F3 := Lib.hid (HF.out.alloc (.cells #[.int .i64 (P k).1, .int .i64 (P k).2] 60))
      have B3 := Lib.hid (Blk.new wr 60 #[.int .i64 (P k).1, .int .i64 (P k).2])
      clear hk hlt hb HR HF
      go_upto_region 5 with fail
      clear h0 h1
      generalize (wr.alloc (.cells #[.int .i64 (P k).1, .int .i64 (P k).2] 60)) = w3 at *
      have c0 := B3.out.cellv (i := 0) rfl
      have c1 := B3.out.cellv (i := 1) rfl
      cases hok : (ofS n P k).2
      · have E := Lib.hid (show ofS n P (k + 1) = ofS n P k by
          conv => lhs; unfold ofS
          rw [hok]; rfl)
        have HOK := Lib.hid hok
        have e1 : code false = 1 := rfl
        rw [e1]
        clear hok
        go_wp2_with fail
        go_roundw
        case rel => exact ⟨k + 1, HK.out, by go_num, by rw [E.out, HOK.out]; rfl, by rw [E.out]; exact R3.out, F3.out⟩
        case measure => have := HK.out; simp [intOf]; omega
      · have E := Lib.hid (show ofS n P (k + 1) = (if inP n (P k) = true then addR (ofS n P k).1 (P k).1.toNat (P k).2.toNat else (ofS n P k).1, inP n (P k)) by
          conv => lhs; unfold ofS
          rw [hok]
          cases inP n (P k) <;> rfl)
        have PT := Lib.hid (put_ok g n (ofS n P k).1 (P k).1 (P k).2 w3 R3.out)
        have e1 : code true = 0 := rfl
        rw [e1]
        clear hok
        go_wp2_with (go_at_call 42; refine PT.out.mono ?_; rintro e w4 ⟨rfl, h4, f4⟩; have R4 := Lib.hid h4; have F4 := Lib.hid (F3.out.own1 f4 HG.out); clear h4 f4)
        go_roundw
        case rel => exact ⟨k + 1, HK.out, by go_num, by rw [E.out], by rw [E.out]; exact R4.out, F4.out⟩
        case measure => have := HK.out; simp [intOf]; omega
    · obtain rfl : k = len := by omega
      have l1 : decide (k < k) = false := by simp
      clear hk hlt
      cases hok : (ofS n P k).2
      · have HOK := Lib.hid hok
        have e1 : code false = 1 := rfl
        rw [e1]
        clear hok
        go_wp2_with fail
        go_ret2
        exact ⟨by rw [HOK.out]; exact rfl, HF.out⟩
      · have HOK := Lib.hid hok
        have e1 : code true = 0 := rfl
        rw [e1]
        clear hok
        go_wp2_with fail
        go_ret2
        exact ⟨by rw [HOK.out]; exact ⟨g, rfl, HR.out, HG.out⟩, HF.out⟩
end Go.Proofs.YtpcpjmbfinpmlaaDoor
