/- One call on both controllers: plain. -/
import Derived.Test.YtpgelocofoidnaaXlook
import Derived.Test.YtpgelocofoidnaaGmade
import Derived.Test.YtpgelocofoidnaaGknow
import Derived.Deep.RegionHeld3
set_option linter.unusedSimpArgs false
set_option linter.unusedVariables false
set_option linter.unusedSectionVars false
namespace Go.Proofs.Ytpgelocofoidnaa
open Go.RowKit
set_option maxRecDepth 100000

section
variable {s : GS} {r : RS} {w w' : World} {rb : Nat} {L : Lay}
theorem Sim.line (h : Sim s r) (c id : Int) (v : Bool) : Sim (s.line c id v) (r.lineR c id v) := by
  unfold GS.line RS.lineR
  split
  · exact h.setF c id fun _ => rfl
  · exact h
theorem Sim.rank (h : Sim s r) (c id : Int) (v : Int) : Sim (s.rank c id v) (r.rankR c id v) := by
  unfold GS.rank RS.rankR
  split
  · exact h.setF c id fun _ => rfl
  · exact h
theorem Sim.route (h : Sim s r) (id v : Int) : Sim (s.route id v) (r.routeR id v) := by
  unfold GS.route RS.routeR
  split
  · exact h.setF v id fun _ => rfl
  · exact h
theorem RS.lineR_c (r : RS) (c id : Int) (v : Bool) : (r.lineR c id v).c = r.c := by unfold RS.lineR; split; exact RS.setF_c _ _ _ _; rfl
theorem RS.rankR_c (r : RS) (c id : Int) (v : Int) : (r.rankR c id v).c = r.c := by unfold RS.rankR; split; exact RS.setF_c _ _ _ _; rfl
theorem RS.routeR_c (r : RS) (id v : Int) : (r.routeR id v).c = r.c := by unfold RS.routeR; split; exact RS.setF_c _ _ _ _; rfl
theorem RS.maskR_c (r : RS) (c v : Int) : (r.maskR c v).c = r.c := by unfold RS.maskR; split <;> rfl
theorem RS.sendR_c (r : RS) (t id : Int) : (r.sendR t id).c = r.c := by unfold RS.sendR; split; exact RS.sendK_c _ _ _ _; rfl
theorem fitsR_eq (h : Sim s r) (t id : Int) : fitsR r t id = fits s t id := by unfold fitsR fits; rw [h.c]
theorem maskR_eq (h : Sim s r) (c v : Int) : code (decide (0 ≤ c) && decide (c < (r.c : Int)) && decide (0 ≤ v) && decide (v ≤ 255)) = s.maskC c v := by unfold GS.maskC thereB; rw [h.c]
theorem eoi_eq (h : Sim s r) (c id : Int) : r.eoiRB c id = s.eoiB c id := by
  unfold RS.eoiRB GS.eoiB
  rw [okR_eq h]
  cases hk : okI s c id
  · rfl
  · obtain ⟨c', id', rfl, rfl, h1, h2⟩ := okI_nat hk
    rw [Int.toNat_natCast, Int.toNat_natCast, h.has h1 h2]
theorem Sim.eoi (h : Sim s r) (c id : Int) : Sim (s.eoi c id) (r.eoiR c id) := by
  have e := eoi_eq h c id
  cases hk : okI s c id
  · have e1 : s.eoi c id = s := by unfold GS.eoi; rw [hk]; rfl
    have e2 : r.eoiR c id = r := by unfold RS.eoiR; rw [e]; unfold GS.eoiB; rw [hk]; rfl
    rw [e1, e2]; exact h
  · obtain ⟨c', id', rfl, rfl, h1, h2⟩ := okI_nat hk
    have e1 : s.eoi (c' : Int) (id' : Int) = s.eoiN c' id' := by unfold GS.eoi; rw [hk]; rfl
    have hh := h.has h1 h2
    cases hm : mine r c' id'
    · have e2 : r.eoiR (c' : Int) (id' : Int) = r := by unfold RS.eoiR RS.eoiRB; rw [Int.toNat_natCast, Int.toNat_natCast, hm]; simp
      have e3 : s.eoiN c' id' = s := by unfold GS.eoiN; rw [hh, hm]; rfl
      rw [e1, e2, e3]; exact h
    · have e2 : r.eoiR (c' : Int) (id' : Int) = r.dropR c' id' := by unfold RS.eoiR RS.eoiRB; rw [Int.toNat_natCast, Int.toNat_natCast, hm, okR_eq h, hk]; rfl
      rw [e1, e2]; exact h.drop h1 h2 hm
theorem Sim.ack (h : Sim s r) {c : Int} {e : Ending} (hr : RackTo w rb L r c e w') : ∃ r', e = .returned (.int .i64 (s.ackV c)) ∧ RefAt w' rb L r' ∧ Fr (RFoot rb L r.c) w w' ∧ Sim (s.ack c) r' ∧ r'.c = r.c := by
  obtain ⟨r', v, rfl, h1, h2, hc⟩ := hr
  have hz := okR_zero h c
  rcases hc with ⟨rfl, rfl, hb⟩ | ⟨n, hn, rfl, rfl, hk, hb⟩
  · have hbest : (s.best c).2 = false := by
      rcases hb with hk | ⟨hk, hb⟩
      · rw [hk] at hz
        unfold GS.best
        rw [← hz]
        rfl
      · rw [hk] at hz
        obtain ⟨c', rfl, hc⟩ := thereB_nat hz.symm
        rw [Int.toNat_natCast] at hb
        rw [← h.best hc hb]
        rfl
    obtain ⟨e1, e2⟩ := ack_no hbest
    exact ⟨r', by rw [e2], h1, h2, by rw [e1]; exact h, rfl⟩
  · rw [hk] at hz
    obtain ⟨c', rfl, hc⟩ := thereB_nat hz.symm
    rw [Int.toNat_natCast] at hb h1
    have hbest := h.best hc hb
    have hbv : bestV (n : Int) = ((n : Int), true) := by unfold bestV; rw [if_neg (by omega)]
    rw [hbv] at hbest
    obtain ⟨e1, e2⟩ := ack_yes hbest.symm
    have hac : (s.get c' n).ac = false := by
      rcases hb with ⟨e, _⟩ | ⟨m, e, hm, hcm, _⟩
      · omega
      · obtain rfl : n = m := by omega
        rw [h.cand hc hn] at hcm
        unfold candB at hcm
        simp only [Bool.and_eq_true, Bool.not_eq_true'] at hcm
        exact hcm.1.1.1.2
    exact ⟨_, by rw [e2], h1, h2, by rw [e1]; exact h.take hc hn hac, RS.put_c _ _ _ _⟩
end
def StepTo (w0 : World) (K KR : Nat → Prop) (wb gb rb : Nat) (L : Lay) (s' : GS) (r : RS) (e : Ending) (w' : World) : Prop := ∃ r', e = .returned (.bool true) ∧ Wd w0 K KR w' wb gb rb L s' r' ∧ Sim s' r' ∧ r'.c = r.c
end Go.Proofs.Ytpgelocofoidnaa
