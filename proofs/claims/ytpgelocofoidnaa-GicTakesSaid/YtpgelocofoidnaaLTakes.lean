/- GicTakes, walked. -/
import Derived.Test.YtpgelocofoidnaaGpl
namespace Go.Proofs.Ytpgelocofoidnaa
open Go.RowKit
set_option linter.unusedVariables false
set_option linter.unusedSimpArgs false
set_option maxRecDepth 100000

def rk (s : GS) (c k : Nat) : Int := (s.get c k).rk
def passB (s : GS) (c : Nat) (L R : Int) (k : Nat) : Bool := candB s c k && !decide (L ≤ rk s c k) && !decide (R ≤ rk s c k)
def bestT (s : GS) (c : Nat) (L R : Int) : Nat → Option Nat
  | 0 => none
  | k + 1 => if passB s c L R k = true then (match bestT s c L R k with | none => some k | some b => if rk s c k < rk s c b then some k else some b) else bestT s c L R k
theorem bestT_eq (s : GS) (c : Nat) (L R : Int) : ∀ k, bestT s c L R k = (match bestK s c k with | none => none | some m => if L ≤ m.1 ∨ R ≤ m.1 then none else some m.2.toNat)
  | 0 => rfl
  | k + 1 => by
    have ih := bestT_eq s c L R k
    unfold bestT bestK
    rw [ih]
    cases hc : candB s c k
    · have hp : passB s c L R k = false := by unfold passB; rw [hc]; rfl
      rw [hp]
      rfl
    · have hp : passB s c L R k = (!decide (L ≤ rk s c k) && !decide (R ≤ rk s c k)) := by unfold passB; rw [hc]; rfl
      rw [hp]
      cases hb : bestK s c k with
      | none =>
        have e4 : (one s c k).1 = rk s c k := rfl
        have e5 : (one s c k).2.toNat = k := rfl
        simp only [if_true, e4, e5]
        by_cases h1 : L ≤ rk s c k ∨ R ≤ rk s c k
        · have h3 : (!decide (L ≤ rk s c k) && !decide (R ≤ rk s c k)) = false := by rcases h1 with h | h <;> simp [h]
          simp only [h1, h3, if_true]
          rfl
        · have h3 : (!decide (L ≤ rk s c k) && !decide (R ≤ rk s c k)) = true := by simp; omega
          simp only [h1, h3, if_true, if_false]
      | some m =>
        obtain ⟨⟨b, b1, b2, rfl⟩, -⟩ := bestK_some hb
        have e1 : (one s c b).1 = rk s c b := rfl
        have e2 : (one s c b).2.toNat = b := rfl
        have e3 : (s.get c k).rk = rk s c k := rfl
        have e4 : (one s c k).1 = rk s c k := rfl
        have e5 : (one s c k).2.toNat = k := rfl
        simp only [if_true, e1, e2, e3]
        by_cases h0 : rk s c k < rk s c b
        · simp only [h0, if_true, e4, e5]
          by_cases h1 : L ≤ rk s c k ∨ R ≤ rk s c k
          · have h2 : L ≤ rk s c b ∨ R ≤ rk s c b := by omega
            have h3 : (!decide (L ≤ rk s c k) && !decide (R ≤ rk s c k)) = false := by rcases h1 with h | h <;> simp [h]
            simp only [h1, h2, h3, if_true]
            rfl
          · have h3 : (!decide (L ≤ rk s c k) && !decide (R ≤ rk s c k)) = true := by simp; omega
            simp only [h1, h3, if_true, if_false]
            by_cases h2 : L ≤ rk s c b ∨ R ≤ rk s c b
            · simp only [h2, if_true]
            · simp only [h2, if_false, h0, if_true]
        · simp only [h0, if_false, e1, e2]
          by_cases h1 : L ≤ rk s c k ∨ R ≤ rk s c k
          · have h3 : (!decide (L ≤ rk s c k) && !decide (R ≤ rk s c k)) = false := by rcases h1 with h | h <;> simp [h]
            rw [h3, if_neg (by decide)]
          · have h3 : (!decide (L ≤ rk s c k) && !decide (R ≤ rk s c k)) = true := by simp; omega
            have h2 : ¬ (L ≤ rk s c b ∨ R ≤ rk s c b) := by omega
            simp only [h2, h3, if_true, if_false, h0]
def bestV (b : Option Nat) : Int := match b with | none => -1 | some b => (b : Int)
theorem best_T {s : GS} {c : Nat} (h : c < s.c) : s.best (c : Int) = (match bestT s c (s.lim c) (runl (s.at_ c)) 64 with | none => (0, false) | some b => ((b : Int), true)) := by
  have ht : thereB s (c : Int) = true := by simp [thereB]; omega
  unfold GS.best
  rw [if_pos ht, Int.toNat_natCast, bestT_eq]
  cases hb : bestK s c 64 with
  | none => rfl
  | some m =>
    obtain ⟨⟨b, b1, b2, rfl⟩, -⟩ := bestK_some hb
    by_cases h1 : s.lim c ≤ (one s c b).1 ∨ runl (s.at_ c) ≤ (one s c b).1
    · simp [bestOf, h1]
    · simp only [bestOf, h1, if_false]
      rfl
theorem bestT_lt {s : GS} {c : Nat} {L R : Int} : ∀ {k b : Nat}, bestT s c L R k = some b → b < k ∧ passB s c L R b = true
  | 0, b, h => by cases h
  | k + 1, b, h => by
    unfold bestT at h
    cases hp : passB s c L R k
    · rw [hp, if_neg (by decide)] at h
      have := bestT_lt h
      exact ⟨by omega, this.2⟩
    · rw [hp, if_pos rfl] at h
      cases hb : bestT s c L R k with
      | none =>
        rw [hb] at h
        injection h with h
        subst h
        exact ⟨by omega, hp⟩
      | some b' =>
        rw [hb] at h
        have := bestT_lt hb
        by_cases h0 : rk s c k < rk s c b'
        · simp only [h0, if_true] at h
          injection h with h
          subst h
          exact ⟨by omega, hp⟩
        · simp only [h0, if_false] at h
          injection h with h
          subst h
          exact ⟨by omega, this.2⟩
theorem tell_nat (s : GS) (f : I → Bool) {c id : Nat} (h1 : c < s.c) (h2 : id < 64) : s.tellB f (c : Int) (id : Int) = f (s.get c id) := by
  unfold GS.tellB
  rw [okI_of h1 h2, Bool.true_and, Int.toNat_natCast, Int.toNat_natCast]
theorem rate_nat (s : GS) {c id : Nat} (h1 : c < s.c) (h2 : id < 64) : s.rate (c : Int) (id : Int) = rk s c id := by
  unfold GS.rate
  rw [if_pos (okI_of h1 h2), Int.toNat_natCast, Int.toNat_natCast]
  rfl
theorem goes_nat (s : GS) {id c : Nat} (h : 0 < s.c) (h1 : 32 ≤ id) (h2 : id < 64) : s.goes (id : Int) = (s.get c id).dst := by
  unfold GS.goes
  have h3 : (okI s 0 (id : Int) && decide (32 ≤ (id : Int))) = true := by
    rw [show (0 : Int) = ((0 : Nat) : Int) from rfl, okI_of h h2]
    simp
    omega
  rw [if_pos h3, Int.toNat_natCast]
  unfold GS.get
  rw [if_neg (by omega), if_neg (by omega)]
theorem limit_nat (s : GS) {c : Nat} (h1 : c < s.c) : s.limit (c : Int) = s.lim c := by
  have ht : thereB s (c : Int) = true := by simp [thereB]; omega
  unfold GS.limit
  rw [if_pos ht, Int.toNat_natCast]
theorem run_nat (s : GS) {c : Nat} (h1 : c < s.c) : s.run (c : Int) = runl (s.at_ c) := by
  have ht : thereB s (c : Int) = true := by simp [thereB]; omega
  unfold GS.run
  rw [if_pos ht, Int.toNat_natCast]
theorem runl_append (l : List Mo) (m : Mo) : runl (l ++ [m]) = min (runl l) m.1 := by simp [runl]
theorem take_get (s : GS) (c b : Nat) : (s.take c b).get c b = { s.get c b with la := false, ac := true } := by
  have h := GS.get_put s c b { s.get c b with la := false, ac := true }
  unfold GS.take GS.get at *
  exact h
theorem take_at (s : GS) (c b : Nat) : (s.take c b).at_ c = s.at_ c ++ [((s.get c b).rk, (b : Int))] := by
  unfold GS.take
  exact upd_same _ _ _
set_option maxHeartbeats 4000000 in
theorem gicTakes_walk (a0 : Option Addr) (len cap : Nat) (S : Nat → Stp) (core : Int) (w : World) (hl : len ≤ cap) (hcap : cap ≤ maxLen) (hs : Steps w a0 len S) (w1 : (Lit.int .i64 core).wf = true) :
    Calls Try.prog 10 #[.slice a0 len cap, .int .i64 core] w fun e w' => e = .returned (.bool true) ∧ Below w.heap.size w w' := by
  obtain ⟨p1, p2⟩ := i64_rng w1
  have HS := Lib.hid hs
  have HL := Lib.hid (And.intro hl hcap)
  have PK := Lib.hid (fun W => pick_ok core 3 W p1 p2 (by omega) (by omega))
  obtain ⟨c, hc, hc3⟩ : ∃ c : Nat, pk core 3 = (c : Int) ∧ c < 3 := ⟨(pk core 3).toNat, by have := pk_rng core 3 (by omega); omega, by have := pk_rng core 3 (by omega); omega⟩
  rw [hc] at PK
  have C3 := Lib.hid hc3
  clear hs hl hcap w1 hc hc3 p1 p2
  go_enter Try.func10, Try.ntmps10
  go_wp2_with fail
  refine (known_ok w).mono ?_
  rintro e wa ⟨rfl, f0⟩
  have F0 := Lib.hid f0
  clear f0
  go_wp2_with fail
  refine (made_ok (fun k => k < w.heap.size) a0 len cap S wa (fun k hk => Nat.lt_of_lt_of_le hk F0.out.size) (HS.out.fr F0.out fun _ _ _ _ x => x) (fun h0 b off e hb => by
    obtain ⟨b', off', e', hb', -⟩ := HS.out 0 h0
    rw [e'] at e
    cases e
    exact hb') HL.out.1 HL.out.2).mono ?_
  rintro e wb ⟨gb, n, rfl, g0, hn, f1⟩
  have hc := runS_c S n
  have hA : AtLe (runS S n) 100 := (runS_at S n).mono rfl rfl hn
  generalize runS S n = s at *
  have G0 := Lib.hid g0
  have HC := Lib.hid hc
  have HAt := Lib.hid hA
  have F1 := Lib.hid (F0.out.nil.trans f1)
  have CS := Lib.hid (show c < s.c by have := C3.out; omega)
  clear g0 hc hA f1
  go_wp2_with fail
  refine (PK.out _).mono ?_
  rintro e w9 ⟨rfl, rfl⟩
  go_wp2_with fail
  have LM := G0.out.limit (c : Int)
  rw [limit_nat s CS.out] at LM
  refine LM.mono ?_
  clear LM
  rintro e w9 ⟨rfl, rfl⟩
  go_wp2_with fail
  have RN := G0.out.run (c : Int)
  rw [run_nat s CS.out] at RN
  refine RN.mono ?_
  clear RN
  rintro e wc ⟨rfl, g1, f2⟩
  have G1 := Lib.hid g1
  have F2 := Lib.hid (F1.out.trans f2)
  clear g1 f2 G0 F1
  have RT : Hid (∀ k : Nat, k < 64 → Calls Try.prog 23 #[.pointer (some ⟨gb, 0, none⟩), .int .i64 (c : Int), .int .i64 (k : Int)] wc fun e w' => e = .returned (.int .i64 (rk s c k)) ∧ wc = w') := Lib.hid fun k hk => by
    have := G1.out.rate (c : Int) (k : Int)
    rwa [rate_nat s CS.out hk] at this
  have EN : Hid (∀ k : Nat, k < 64 → Calls Try.prog 33 #[.pointer (some ⟨gb, 0, none⟩), .int .i64 (c : Int), .int .i64 (k : Int)] wc fun e w' => e = .returned (.bool (s.get c k).en) ∧ wc = w') := Lib.hid fun k hk => by
    have := G1.out.enabled (c : Int) (k : Int)
    rwa [tell_nat s _ CS.out hk] at this
  have PN : Hid (∀ k : Nat, k < 64 → Calls Try.prog 18 #[.pointer (some ⟨gb, 0, none⟩), .int .i64 (c : Int), .int .i64 (k : Int)] wc fun e w' => e = .returned (.bool (s.get c k).pn) ∧ wc = w') := Lib.hid fun k hk => by
    have := G1.out.pending (c : Int) (k : Int)
    rwa [tell_nat s _ CS.out hk] at this
  have AC : Hid (∀ k : Nat, k < 64 → Calls Try.prog 19 #[.pointer (some ⟨gb, 0, none⟩), .int .i64 (c : Int), .int .i64 (k : Int)] wc fun e w' => e = .returned (.bool (s.get c k).ac) ∧ wc = w') := Lib.hid fun k hk => by
    have := G1.out.active (c : Int) (k : Int)
    rwa [tell_nat s _ CS.out hk] at this
  have GO : Hid (∀ k : Nat, 32 ≤ k → k < 64 → Calls Try.prog 34 #[.pointer (some ⟨gb, 0, none⟩), .int .i64 (k : Int)] wc fun e w' => e = .returned (.int .i64 (s.get c k).dst) ∧ wc = w') := Lib.hid fun k h32 hk => by
    have := G1.out.goes (k : Int)
    rwa [goes_nat s (c := c) (by have := CS.out; omega) h32 hk] at this
  generalize hL : s.lim c = L at *
  generalize hR : runl (s.at_ c) = R at *
  have HLR := Lib.hid (And.intro hL hR)
  clear hL hR
  go_wp2_with fail
  go_loop [10, 11] (fun x i => ∃ k : Nat, k ≤ 64 ∧ i = .int .i64 (k : Int) ∧ x = .int .i64 (bestV (bestT s c L R k))) (fun _ i => 64 - (intOf i).toNat)
  case atStart => exact ⟨0, by omega, rfl, rfl⟩
  case round =>
    obtain ⟨k, hk, rfl, rfl⟩ := hrel
    by_cases hlt : k < 64
    · have HKK := Lib.hid hlt
      have k64 : (k : Int) < 64 := by omega
      have BS : Hid (bestT s c L R (k + 1) = if passB s c L R k = true then (match bestT s c L R k with | none => some k | some b => if rk s c k < rk s c b then some k else some b) else bestT s c L R k) := Lib.hid rfl
      have PB : Hid (passB s c L R k = ((s.get c k).en && (s.get c k).pn && !(s.get c k).ac && (decide (k < 32) || (s.get c k).dst == (c : Int)) && !decide (L ≤ rk s c k) && !decide (R ≤ rk s c k))) := Lib.hid rfl
      clear hk hlt
      have ENk := EN.out k HKK.out
      have PNk := PN.out k HKK.out
      have ACk := AC.out k HKK.out
      have RTk0 := RT.out k HKK.out
      generalize hrk : rk s c k = rr at *
      have RR := Lib.hid hrk
      have RTk := Lib.hid RTk0
      clear RTk0 hrk
      go_upto_region 13 with (go_at_call 23; refine RTk.out.mono ?_; rintro e w9 ⟨rfl, rfl⟩)
      clear RTk
      cases hen : (s.get c k).en
      · rw [hen] at ENk
        have EN' := Lib.hid ENk
        clear ENk PNk ACk
        have NP : Hid (bestT s c L R (k + 1) = bestT s c L R k) := Lib.hid (by rw [BS.out, PB.out]; simp [hen])
        clear hen BS PB
        go_wp2_with (go_at_call 33; refine EN'.out.mono ?_; rintro e w9 ⟨rfl, rfl⟩)
        go_round
        case rel => exact ⟨k + 1, HKK.out, by go_num, by rw [NP.out]⟩
        case measure => have := HKK.out; simp [intOf]; omega
      rw [hen] at ENk
      have EN' := Lib.hid ENk
      clear ENk
      cases hpn : (s.get c k).pn
      · rw [hpn] at PNk
        have PN' := Lib.hid PNk
        clear PNk ACk
        have NP : Hid (bestT s c L R (k + 1) = bestT s c L R k) := Lib.hid (by rw [BS.out, PB.out]; simp [hen, hpn])
        clear hen hpn BS PB
        go_wp2_with (first | (go_at_call 33; refine EN'.out.mono ?_; rintro e w9 ⟨rfl, rfl⟩) | (go_at_call 18; refine PN'.out.mono ?_; rintro e w9 ⟨rfl, rfl⟩))
        go_round
        case rel => exact ⟨k + 1, HKK.out, by go_num, by rw [NP.out]⟩
        case measure => have := HKK.out; simp [intOf]; omega
      rw [hpn] at PNk
      have PN' := Lib.hid PNk
      clear PNk
      cases hac : (s.get c k).ac
      rotate_left
      · rw [hac] at ACk
        have AC' := Lib.hid ACk
        clear ACk
        have NP : Hid (bestT s c L R (k + 1) = bestT s c L R k) := Lib.hid (by rw [BS.out, PB.out]; simp [hen, hpn, hac])
        clear hen hpn hac BS PB
        go_wp2_with (first | (go_at_call 33; refine EN'.out.mono ?_; rintro e w9 ⟨rfl, rfl⟩) | (go_at_call 18; refine PN'.out.mono ?_; rintro e w9 ⟨rfl, rfl⟩) | (go_at_call 19; refine AC'.out.mono ?_; rintro e w9 ⟨rfl, rfl⟩))
        go_round
        case rel => exact ⟨k + 1, HKK.out, by go_num, by rw [NP.out]⟩
        case measure => have := HKK.out; simp [intOf]; omega
      rw [hac] at ACk
      have AC' := Lib.hid ACk
      clear ACk
      by_cases h32 : k < 32
      · have k32 : decide (32 ≤ (k : Int)) = false := by simp; omega
        cases hll : decide (L ≤ rr)
        · cases hrr : decide (R ≤ rr)
          · have PT : Hid (passB s c L R k = true) := Lib.hid (by rw [PB.out]; simp [hen, hpn, hac, h32, hll, hrr])
            cases hbt : bestT s c L R k with
            | none =>
              have NP : Hid (bestT s c L R (k + 1) = some k) := Lib.hid (by rw [BS.out, PT.out, hbt]; rfl)
              have e0 : bestV none = -1 := rfl
              rw [e0]
              clear hen hpn hac hbt BS PB PT e0
              go_upto_region 14 with (first | (go_at_call 33; refine EN'.out.mono ?_; rintro e w9 ⟨rfl, rfl⟩) | (go_at_call 18; refine PN'.out.mono ?_; rintro e w9 ⟨rfl, rfl⟩) | (go_at_call 19; refine AC'.out.mono ?_; rintro e w9 ⟨rfl, rfl⟩))
              go_wp2_with fail
              go_round
              case rel => exact ⟨k + 1, HKK.out, by go_num, by rw [NP.out]; rfl⟩
              case measure => have := HKK.out; simp [intOf]; omega
            | some b =>
              have BL := Lib.hid (show b < 64 by have := (bestT_lt hbt).1; have := HKK.out; omega)
              have RTb := RT.out b BL.out
              have BS2 : Hid (bestT s c L R (k + 1) = if rr < rk s c b then some k else some b) := Lib.hid (by rw [BS.out, PT.out, hbt]; rfl)
              have e0 : bestV (some b) = (b : Int) := rfl
              rw [e0]
              generalize rk s c b = rb at *
              have RTb' := Lib.hid RTb
              clear hen hpn hac hbt BS PB PT e0 RTb
              cases hr : decide (rr < rb)
              · have NP : Hid (bestT s c L R (k + 1) = some b) := Lib.hid (by rw [BS2.out, if_neg (by simpa using hr)])
                go_upto_region 14 with (first | (go_at_call 33; refine EN'.out.mono ?_; rintro e w9 ⟨rfl, rfl⟩) | (go_at_call 18; refine PN'.out.mono ?_; rintro e w9 ⟨rfl, rfl⟩) | (go_at_call 19; refine AC'.out.mono ?_; rintro e w9 ⟨rfl, rfl⟩))
                go_wp2_with (go_at_call 23; refine RTb'.out.mono ?_; rintro e w9 ⟨rfl, rfl⟩)
                go_round
                case rel => exact ⟨k + 1, HKK.out, by go_num, by rw [NP.out]; rfl⟩
                case measure => have := HKK.out; simp [intOf]; omega
              · have NP : Hid (bestT s c L R (k + 1) = some k) := Lib.hid (by rw [BS2.out, if_pos (by simpa using hr)])
                go_upto_region 14 with (first | (go_at_call 33; refine EN'.out.mono ?_; rintro e w9 ⟨rfl, rfl⟩) | (go_at_call 18; refine PN'.out.mono ?_; rintro e w9 ⟨rfl, rfl⟩) | (go_at_call 19; refine AC'.out.mono ?_; rintro e w9 ⟨rfl, rfl⟩))
                go_wp2_with (go_at_call 23; refine RTb'.out.mono ?_; rintro e w9 ⟨rfl, rfl⟩)
                go_round
                case rel => exact ⟨k + 1, HKK.out, by go_num, by rw [NP.out]; rfl⟩
                case measure => have := HKK.out; simp [intOf]; omega
          · have NP : Hid (bestT s c L R (k + 1) = bestT s c L R k) := Lib.hid (by rw [BS.out, PB.out]; simp [hen, hpn, hac, h32, hll, hrr])
            clear hen hpn hac BS PB
            go_wp2_with (first | (go_at_call 33; refine EN'.out.mono ?_; rintro e w9 ⟨rfl, rfl⟩) | (go_at_call 18; refine PN'.out.mono ?_; rintro e w9 ⟨rfl, rfl⟩) | (go_at_call 19; refine AC'.out.mono ?_; rintro e w9 ⟨rfl, rfl⟩))
            go_round
            case rel => exact ⟨k + 1, HKK.out, by go_num, by rw [NP.out]⟩
            case measure => have := HKK.out; simp [intOf]; omega
        · have NP : Hid (bestT s c L R (k + 1) = bestT s c L R k) := Lib.hid (by rw [BS.out, PB.out]; simp [hen, hpn, hac, h32, hll])
          clear hen hpn hac BS PB
          go_wp2_with (first | (go_at_call 33; refine EN'.out.mono ?_; rintro e w9 ⟨rfl, rfl⟩) | (go_at_call 18; refine PN'.out.mono ?_; rintro e w9 ⟨rfl, rfl⟩) | (go_at_call 19; refine AC'.out.mono ?_; rintro e w9 ⟨rfl, rfl⟩))
          go_round
          case rel => exact ⟨k + 1, HKK.out, by go_num, by rw [NP.out]⟩
          case measure => have := HKK.out; simp [intOf]; omega
      have k32 : decide (32 ≤ (k : Int)) = true := by simp; omega
      have GO0 := GO.out k (by omega) HKK.out
      cases hds : (s.get c k).dst == (c : Int)
      · have NP : Hid (bestT s c L R (k + 1) = bestT s c L R k) := Lib.hid (by rw [BS.out, PB.out]; simp [hen, hpn, hac, h32, hds])
        generalize (s.get c k).dst = dd at *
        have GO' := Lib.hid GO0
        have hne : ¬ dd = (c : Int) := by simpa using hds
        have hn2 : decide (dd = (c : Int)) = false := by simpa using hds
        have hn3 : decide ((c : Int) = dd) = false := by simp; exact fun e => hne e.symm
        clear hen hpn hac BS PB GO0
        go_wp2_with (first | (go_at_call 33; refine EN'.out.mono ?_; rintro e w9 ⟨rfl, rfl⟩) | (go_at_call 18; refine PN'.out.mono ?_; rintro e w9 ⟨rfl, rfl⟩) | (go_at_call 19; refine AC'.out.mono ?_; rintro e w9 ⟨rfl, rfl⟩) | (go_at_call 34; refine GO'.out.mono ?_; rintro e w9 ⟨rfl, rfl⟩))
        go_round
        case rel => exact ⟨k + 1, HKK.out, by go_num, by rw [NP.out]⟩
        case measure => have := HKK.out; simp [intOf]; omega
      · have PB2 : Hid (passB s c L R k = (!decide (L ≤ rr) && !decide (R ≤ rr))) := Lib.hid (by rw [PB.out]; simp [hen, hpn, hac, h32, hds])
        clear PB
        have PB := PB2
        clear PB2
        generalize (s.get c k).dst = dd at *
        have hdc : dd = (c : Int) := by simpa using hds
        subst hdc
        have GO' := Lib.hid GO0
        clear GO0 hds
        cases hll : decide (L ≤ rr)
        · cases hrr : decide (R ≤ rr)
          · have PT : Hid (passB s c L R k = true) := Lib.hid (by rw [PB.out]; simp [hen, hll, hrr])
            cases hbt : bestT s c L R k with
            | none =>
              have NP : Hid (bestT s c L R (k + 1) = some k) := Lib.hid (by rw [BS.out, PT.out, hbt]; rfl)
              have e0 : bestV none = -1 := rfl
              rw [e0]
              clear hen hpn hac hbt BS PB PT e0
              go_upto_region 14 with (first | (go_at_call 33; refine EN'.out.mono ?_; rintro e w9 ⟨rfl, rfl⟩) | (go_at_call 18; refine PN'.out.mono ?_; rintro e w9 ⟨rfl, rfl⟩) | (go_at_call 19; refine AC'.out.mono ?_; rintro e w9 ⟨rfl, rfl⟩) | (go_at_call 34; refine GO'.out.mono ?_; rintro e w9 ⟨rfl, rfl⟩))
              go_wp2_with fail
              go_round
              case rel => exact ⟨k + 1, HKK.out, by go_num, by rw [NP.out]; rfl⟩
              case measure => have := HKK.out; simp [intOf]; omega
            | some b =>
              have BL := Lib.hid (show b < 64 by have := (bestT_lt hbt).1; have := HKK.out; omega)
              have RTb := RT.out b BL.out
              have BS2 : Hid (bestT s c L R (k + 1) = if rr < rk s c b then some k else some b) := Lib.hid (by rw [BS.out, PT.out, hbt]; rfl)
              have e0 : bestV (some b) = (b : Int) := rfl
              rw [e0]
              generalize rk s c b = rb at *
              have RTb' := Lib.hid RTb
              clear hen hpn hac hbt BS PB PT e0 RTb
              cases hr : decide (rr < rb)
              · have NP : Hid (bestT s c L R (k + 1) = some b) := Lib.hid (by rw [BS2.out, if_neg (by simpa using hr)])
                go_upto_region 14 with (first | (go_at_call 33; refine EN'.out.mono ?_; rintro e w9 ⟨rfl, rfl⟩) | (go_at_call 18; refine PN'.out.mono ?_; rintro e w9 ⟨rfl, rfl⟩) | (go_at_call 19; refine AC'.out.mono ?_; rintro e w9 ⟨rfl, rfl⟩) | (go_at_call 34; refine GO'.out.mono ?_; rintro e w9 ⟨rfl, rfl⟩))
                go_wp2_with (go_at_call 23; refine RTb'.out.mono ?_; rintro e w9 ⟨rfl, rfl⟩)
                go_round
                case rel => exact ⟨k + 1, HKK.out, by go_num, by rw [NP.out]; rfl⟩
                case measure => have := HKK.out; simp [intOf]; omega
              · have NP : Hid (bestT s c L R (k + 1) = some k) := Lib.hid (by rw [BS2.out, if_pos (by simpa using hr)])
                go_upto_region 14 with (first | (go_at_call 33; refine EN'.out.mono ?_; rintro e w9 ⟨rfl, rfl⟩) | (go_at_call 18; refine PN'.out.mono ?_; rintro e w9 ⟨rfl, rfl⟩) | (go_at_call 19; refine AC'.out.mono ?_; rintro e w9 ⟨rfl, rfl⟩) | (go_at_call 34; refine GO'.out.mono ?_; rintro e w9 ⟨rfl, rfl⟩))
                go_wp2_with (go_at_call 23; refine RTb'.out.mono ?_; rintro e w9 ⟨rfl, rfl⟩)
                go_round
                case rel => exact ⟨k + 1, HKK.out, by go_num, by rw [NP.out]; rfl⟩
                case measure => have := HKK.out; simp [intOf]; omega
          · have NP : Hid (bestT s c L R (k + 1) = bestT s c L R k) := Lib.hid (by rw [BS.out, PB.out]; simp [hen, hll, hrr])
            clear hen hpn hac BS PB
            go_wp2_with (first | (go_at_call 33; refine EN'.out.mono ?_; rintro e w9 ⟨rfl, rfl⟩) | (go_at_call 18; refine PN'.out.mono ?_; rintro e w9 ⟨rfl, rfl⟩) | (go_at_call 19; refine AC'.out.mono ?_; rintro e w9 ⟨rfl, rfl⟩) | (go_at_call 34; refine GO'.out.mono ?_; rintro e w9 ⟨rfl, rfl⟩))
            go_round
            case rel => exact ⟨k + 1, HKK.out, by go_num, by rw [NP.out]⟩
            case measure => have := HKK.out; simp [intOf]; omega
        · have NP : Hid (bestT s c L R (k + 1) = bestT s c L R k) := Lib.hid (by rw [BS.out, PB.out]; simp [hen, hll])
          clear hen hpn hac BS PB
          go_wp2_with (first | (go_at_call 33; refine EN'.out.mono ?_; rintro e w9 ⟨rfl, rfl⟩) | (go_at_call 18; refine PN'.out.mono ?_; rintro e w9 ⟨rfl, rfl⟩) | (go_at_call 19; refine AC'.out.mono ?_; rintro e w9 ⟨rfl, rfl⟩) | (go_at_call 34; refine GO'.out.mono ?_; rintro e w9 ⟨rfl, rfl⟩))
          go_round
          case rel => exact ⟨k + 1, HKK.out, by go_num, by rw [NP.out]⟩
          case measure => have := HKK.out; simp [intOf]; omega
    · obtain rfl : k = 64 := by omega
      clear hk hlt
      have BT := best_T (s := s) CS.out
      rw [HLR.out.1, HLR.out.2] at BT
      have RB : Hid (runl (s.at_ c) = R) := Lib.hid HLR.out.2
      have lt64 : ((64 : Nat) : Int) = 64 := rfl
      clear HLR RT EN PN AC GO
      cases hbt : bestT s c L R 64 with
      | none =>
        rw [hbt] at BT
        have BE := Lib.hid BT
        have e0 : bestV none = -1 := rfl
        rw [e0, lt64]
        clear BT hbt e0
        go_wp2_with fail
        refine (G1.out.best (c : Int)).mono ?_
        rintro e w3 ⟨rfl, g3, f3⟩
        rw [BE.out]
        have G3 := Lib.hid g3
        have F3 := Lib.hid (F2.out.trans f3)
        clear g3 f3 G1 F2
        go_wp2_with fail
        refine (ack_ok _ gb s (c : Int) w3 G3.out 100 (by omega) HAt.out).mono ?_
        rintro e w4 ⟨rfl, g4, f4⟩
        rw [(ack_no (s := s) (c := (c : Int)) (by rw [BE.out])).1] at g4
        rw [(ack_no (s := s) (c := (c : Int)) (by rw [BE.out])).2]
        have F4 := Lib.hid (F3.out.trans f4)
        have RN := g4.run (c : Int)
        rw [run_nat s CS.out, RB.out] at RN
        have RN' := Lib.hid RN
        clear g4 f4 G3 F3 RN
        go_wp2_with (go_at_call 22; refine RN'.out.mono ?_; rintro e w5 ⟨rfl, -, f5⟩; have F5 := Lib.hid (F4.out.trans f5); clear f5)
        go_ret
        exact ⟨by simp, F5.out.old.below (Nat.le_refl _) fun _ _ => id⟩
      | some b =>
        rw [hbt] at BT
        have BE := Lib.hid BT
        have BL := Lib.hid (bestT_lt hbt)
        have e0 : bestV (some b) = (b : Int) := rfl
        rw [e0, lt64]
        have YES := Lib.hid (ack_yes (s := s) (c := c) (id := b) BE.out)
        have RR : Hid (R > rk s c b) := Lib.hid (by
          have := BL.out.2
          unfold passB at this
          simp only [Bool.and_eq_true, Bool.not_eq_true', decide_eq_false_iff_not] at this
          omega)
        clear BT hbt e0
        go_wp2_with fail
        refine (G1.out.best (c : Int)).mono ?_
        rintro e w3 ⟨rfl, g3, f3⟩
        rw [BE.out]
        have G3 := Lib.hid g3
        have F3 := Lib.hid (F2.out.trans f3)
        clear g3 f3 G1 F2
        go_wp2_with fail
        refine (ack_ok _ gb s (c : Int) w3 G3.out 100 (by omega) HAt.out).mono ?_
        rintro e w4 ⟨rfl, g4, f4⟩
        rw [YES.out.1] at g4
        rw [YES.out.2]
        have F4 := Lib.hid (F3.out.trans f4)
        have CS4 := Lib.hid (show c < (s.take c b).c by rw [GS.take_c]; exact CS.out)
        have AC := g4.active (c : Int) (b : Int)
        rw [tell_nat _ _ CS4.out BL.out.1, take_get, show (({ s.get c b with la := false, ac := true } : I).ac) = true from rfl] at AC
        have AC' := Lib.hid AC
        have RN := g4.run (c : Int)
        rw [run_nat _ CS4.out, take_at, runl_append, RB.out, show min R ((s.get c b).rk, (b : Int)).1 = rk s c b from by have := RR.out; unfold rk at *; show min R (s.get c b).rk = _; omega] at RN
        have RN' := Lib.hid RN
        have RT := Lib.hid (fun W (h : Gk (fun k => k < w.heap.size) W gb (s.take c b)) => h.rate (c : Int) (b : Int))
        rw [rate_nat _ CS4.out BL.out.1, show rk (s.take c b) c b = rk s c b from by unfold rk; rw [take_get]] at RT
        clear g4 f4 G3 F3 RN AC
        generalize rk s c b = rb at *
        go_wp2_with (first | (go_at_call 19; refine AC'.out.mono ?_; rintro e w5 ⟨rfl, rfl⟩) | (go_at_call 22; refine RN'.out.mono ?_; rintro e w5 ⟨rfl, g5, f5⟩; have F5 := Lib.hid (F4.out.trans f5); have RT' := Lib.hid (RT.out _ g5); clear f5 g5) | (go_at_call 23; refine RT'.out.mono ?_; rintro e w6 ⟨rfl, rfl⟩))
        go_ret
        exact ⟨by simp, F5.out.old.below (Nat.le_refl _) fun _ _ => id⟩
end Go.Proofs.Ytpgelocofoidnaa
