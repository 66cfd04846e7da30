/- GicPlays: the walk. -/
import Derived.Test.YtpgelocofoidnaaXstep
set_option linter.unusedSimpArgs false
set_option linter.unusedVariables false
set_option linter.unusedSectionVars false
namespace Go.Proofs.Ytpgelocofoidnaa
open Go.RowKit
set_option maxRecDepth 100000

theorem Gk.grow {K : Nat → Prop} {w w' : World} {gb : Nat} {s : GS} (h : Gk K w gb s) (f : Fr Nil w w') : Gk (fun k => K k ∨ (w.heap.size ≤ k ∧ k < w'.heap.size)) w' gb s := by
  obtain ⟨cb, av, h1, h2⟩ := h.mem
  refine ⟨⟨cb, av, h1.fr f fun _ _ => id, fun k hk hm => ?_⟩, fun k hk => ?_, h.c8, h.c1⟩
  · rcases hm with e | ⟨e, _⟩
    · exact h2 k hk e
    · have := h1.lt hk
      omega
  · rcases hk with e | e
    · have := h.lt k e
      have := f.size
      omega
    · exact e.2
theorem wf9 : ∀ j, j < 8 → (Lit.int .i64 ((9 * j : Nat) : Int)).wf = true := by decide
theorem AtLe.new (c : Nat) : AtLe (new c) 0 := fun i hi => Nat.le_refl 0
set_option maxHeartbeats 4000000 in
theorem gicPlays_walk (z : Int) (a0 : Option Addr) (len cap : Nat) (S : Nat → Stp) (w : World) (wz : (Lit.int .i64 z).wf = true) (hl : len ≤ cap) (hcap : cap ≤ maxLen) (hs : Steps w a0 len S) :
    Calls Try.prog 9 #[.int .i64 z, .slice a0 len cap] w fun e w' => e = .returned (.bool true) ∧ Below w.heap.size w w' := by
  have KN := Lib.hid (known_ok w)
  have HS := Lib.hid hs
  have hlen : (len : Int) ≤ 9223372036854775807 := by simp only [maxLen] at hcap; omega
  clear wz hl hcap hs
  by_cases hz : z < 1 ∨ 8 < z
  · have NB := Lib.hid (fun W => new_bad z W hz)
    by_cases h1 : z < 1
    · have e1 : decide (z < 1) = true := by simpa using h1
      clear hz h1
      go_enter Try.func9, Try.ntmps9
      go_wp2_with fail
      refine KN.out.mono ?_
      rintro e w1 ⟨rfl, f1⟩
      have F1 := Lib.hid f1
      clear f1 KN
      go_wp2_with (go_at_call 12; refine (NB.out _).mono ?_; rintro e w2 ⟨rfl, rfl⟩)
      go_ret
      exact ⟨rfl, F1.out.below (Nat.le_refl _) fun _ _ x => x⟩
    · have e1 : decide (z < 1) = false := by simpa using h1
      have e2 : decide (8 < z) = true := by simp; omega
      clear hz h1
      go_enter Try.func9, Try.ntmps9
      go_wp2_with fail
      refine KN.out.mono ?_
      rintro e w1 ⟨rfl, f1⟩
      have F1 := Lib.hid f1
      clear f1 KN
      go_wp2_with (go_at_call 12; refine (NB.out _).mono ?_; rintro e w2 ⟨rfl, rfl⟩)
      go_ret
      exact ⟨rfl, F1.out.below (Nat.le_refl _) fun _ _ x => x⟩
  · obtain ⟨C, rfl⟩ : ∃ C : Nat, z = (C : Int) := ⟨z.toNat, by omega⟩
    have HC := Lib.hid (show 1 ≤ C ∧ C ≤ 8 by omega)
    have e1 : decide ((C : Int) < 1) = false := by simp; omega
    have e2 : decide (8 < (C : Int)) = false := by simp; omega
    clear hz
    go_enter Try.func9, Try.ntmps9
    go_wp2_with fail
    refine KN.out.mono ?_
    rintro e w1 ⟨rfl, f1⟩
    have F1 := Lib.hid f1
    clear f1 KN
    go_wp2_with fail
    refine (new_ok (fun k => k < w.heap.size) C w1 rfl HC.out.1 HC.out.2 fun k hk => Nat.lt_of_lt_of_le hk F1.out.size).mono ?_
    rintro e w3 ⟨gb, rfl, g3, f3, -⟩
    have G3 := Lib.hid g3
    have F3 := Lib.hid (F1.out.trans f3)
    clear g3 f3 F1
    go_wp2_with fail
    refine (rnew_ok C w3 HC.out.1 HC.out.2).mono ?_
    rintro e w4 ⟨rb, L, rfl, r4, f4, n4⟩
    have WD := Lib.hid (show Wd w (fun k => k < w.heap.size ∨ (w3.heap.size ≤ k ∧ k < (w4.alloc (.cells #[.pointer (some ⟨gb, 0, none⟩), .pointer (some ⟨rb, 0, none⟩)] 50)).heap.size)) (fun k => w3.heap.size ≤ k ∧ k < w4.heap.size) (w4.alloc (.cells #[.pointer (some ⟨gb, 0, none⟩), .pointer (some ⟨rb, 0, none⟩)] 50)) w4.heap.size gb rb L (new C) (rnew C) by
      have hsz : (w4.alloc (.cells #[.pointer (some ⟨gb, 0, none⟩), .pointer (some ⟨rb, 0, none⟩)] 50)).heap.size = w4.heap.size + 1 := by simp
      have s3 := F3.out.size
      have s4 := f4.size
      exact ⟨G3.out.grow (f4.alloc _), r4.fr0 ((Fr.refl Nil w4).alloc _), Blk.new w4 50 _, fun k hk => ⟨n4 k hk, r4.lt hk⟩, fun k hk => .inr ⟨hk.1, by rw [hsz]; have := hk.2; omega⟩, .inr ⟨s4, by rw [hsz]; omega⟩, fun hk => by have := hk.2; omega, fun k hk => .inl hk, fun k hk => Nat.le_trans s3 hk.1, (F3.out.trans f4).alloc _⟩)
    clear r4 f4 n4 G3 F3
    generalize (fun k => k < w.heap.size ∨ (w3.heap.size ≤ k ∧ k < (w4.alloc (.cells #[.pointer (some ⟨gb, 0, none⟩), .pointer (some ⟨rb, 0, none⟩)] 50)).heap.size)) = K at *
    generalize (fun k => w3.heap.size ≤ k ∧ k < w4.heap.size) = KR at *
    go_upto_region 8 with fail
    generalize (w4.alloc (.cells #[.pointer (some ⟨gb, 0, none⟩), .pointer (some ⟨rb, 0, none⟩)] 50)) = w5 at *
    generalize w4.heap.size = wb at *
    go_wp2_with fail
    go_loopw [9] (fun i wr => ∃ (k : Nat) (s : GS) (r : RS), k ≤ len ∧ k ≤ 200 ∧ i = .int .i64 (k : Int) ∧ Wd w K KR wr wb gb rb L s r ∧ Sim s r ∧ AtLe s k) (fun i _ => 200 - (intOf i).toNat)
    case atStart => exact ⟨0, _, _, Nat.zero_le _, by omega, rfl, WD.out, sim_new C, AtLe.new C⟩
    case round =>
      clear WD
      obtain ⟨k, s, r, hk, hk2, rfl, hW, hS, hA⟩ := hrel
      have HW := Lib.hid hW
      have SM := Lib.hid hS
      have HA := Lib.hid hA
      clear hW hS hA
      by_cases hlt : k < len ∧ k < 200
      · have HK := Lib.hid hlt
        have kn : (k : Int) < (len : Int) := by omega
        have k200 : (k : Int) < 200 := by omega
        obtain ⟨b, off, hab, hb, q0, q1, q2, q3, q4, hwf⟩ := HS.out.fr HW.out.fr (fun _ _ _ _ => id) k hlt.1
        subst hab
        have WF := Lib.hid hwf
        have HB := Lib.hid hb
        clear hk hk2 hlt hwf hb
        go_wp2_with fail
        have ST := step_ok w K KR wb gb rb L s r (S k) wr HW.out SM.out k (by have := HK.out; omega) HA.out
        refine ST.mono ?_
        rintro e w6 ⟨r6, rfl, h6, s6, -⟩
        have W6 := Lib.hid h6
        have S6 := Lib.hid s6
        obtain ⟨b', off', hab', -, -, -, p2, -, -, -⟩ := HS.out.fr h6.fr (fun _ _ _ _ => id) k HK.out.1
        cases hab'
        clear ST h6 s6 q0 q1 q2 q3 q4
        go_wp2_with fail
        refine (looks_ok w K KR wb gb rb L _ r6 (S k).i w6 W6.out S6.out WF.out).mono ?_
        rintro e w7 ⟨rfl, f7⟩
        have W7 := Lib.hid (W6.out.still f7)
        clear f7 W6 p2
        go_wp2_with fail
        go_roundw
        case rel => exact ⟨k + 1, _, r6, by have := HK.out; omega, by have := HK.out; omega, by go_num, W7.out, S6.out, HA.out.only _⟩
        case measure => have := HK.out; simp [intOf]; omega
      · have hx : (decide ((k : Int) < (len : Int)) = false ∧ decide (k < len) = false) ∨ ((k : Int) < (len : Int) ∧ k = 200) := by
          by_cases h : k < len
          · exact .inr ⟨by omega, by omega⟩
          · exact .inl ⟨by simp; omega, by simp; omega⟩
        clear hk hk2 hlt HA
        rcases hx with ⟨x1, x2⟩ | ⟨x1, rfl⟩
        all_goals
          go_wp2_with fail
          go_loopw [12] (fun i wr => ∃ j : Nat, j ≤ 8 ∧ i = .int .i64 ((9 * j : Nat) : Int) ∧ Wd w K KR wr wb gb rb L s r) (fun i _ => 72 - (intOf i).toNat)
          case atStart => exact ⟨0, by omega, rfl, HW.out⟩
          case round =>
            clear HW
            obtain ⟨j, hj, rfl, hW⟩ := hrel
            have HW := Lib.hid hW
            clear hW
            by_cases hj8 : j < 8
            · have LK := Lib.hid (looks_ok w K KR wb gb rb L s r ((9 * j : Nat) : Int) wr HW.out SM.out (wf9 j hj8))
              have HJ := Lib.hid hj8
              obtain ⟨id, hid⟩ : ∃ id : Int, id = ((9 * j : Nat) : Int) := ⟨_, rfl⟩
              rw [← hid] at LK ⊢
              have HI := Lib.hid hid
              have i64 : id < 64 := by omega
              have i0 : 0 ≤ id := by omega
              clear hj hj8 hid
              go_wp2_with fail
              refine LK.out.mono ?_
              rintro e w7 ⟨rfl, f7⟩
              have W7 := Lib.hid (HW.out.still f7)
              clear f7 LK
              go_wp2_with fail
              go_roundw
              case rel => exact ⟨j + 1, by have := HJ.out; omega, by rw [show ((9 * (j + 1) : Nat) : Int) = id + 9 by have := HI.out; omega], W7.out⟩
              case measure => have := HJ.out; have := HI.out; simp only [intOf]; omega
            · obtain rfl : j = 8 := by omega
              clear hj hj8
              go_wp2_with fail
              go_ret
              exact ⟨rfl, HW.out.fr.below (Nat.le_refl _) fun _ _ x => x⟩
end Go.Proofs.Ytpgelocofoidnaa
