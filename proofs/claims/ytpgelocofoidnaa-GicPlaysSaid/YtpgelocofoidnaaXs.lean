/- The two controllers side by side: plain. -/
import Derived.Test.YtpgelocofoidnaaXr
set_option linter.unusedSimpArgs false
set_option linter.unusedVariables false
set_option linter.unusedSectionVars false
namespace Go.Proofs.Ytpgelocofoidnaa
open Go.RowKit
set_option maxRecDepth 100000

structure Sim (s : GS) (r : RS) : Prop where
  c : r.c = s.c
  get : ∀ c id, c < s.c → id < 64 → (r.get c id).x = s.get c id
  lim : ∀ c, c < s.c → r.lim c = s.lim c
  fw : ∀ c, c < s.c → ∀ m, m ∈ s.at_ c → ∃ id : Nat, id < 64 ∧ m = ((r.get c id).was, (id : Int)) ∧ (s.get c id).ac = true ∧ (r.get c id).by_ = (c : Int)
  bw : ∀ c id, c < s.c → id < 64 → (s.get c id).ac = true → (r.get c id).by_ = (c : Int) → ((r.get c id).was, (id : Int)) ∈ s.at_ c
  nd : ∀ c, c < s.c → ((s.at_ c).map (·.2)).Nodup
theorem okR_eq {s : GS} {r : RS} (h : Sim s r) (c id : Int) : okR r c id = okI s c id := by
  unfold okR okI thereB
  rw [h.c]
theorem Sim.put {s : GS} {r : RS} (h : Sim s r) {c id : Nat} (hc : c < s.c) (hi : id < 64) {z : I} (ha : z.ac = (s.get c id).ac) : Sim (s.put c id z) (r.put c id ⟨z, (r.get c id).by_, (r.get c id).was⟩) := by
  have hac : ∀ c' id', c' < s.c → id' < 64 → ((s.put c id z).get c' id').ac = (s.get c' id').ac := fun c' id' _ h2 => by
    by_cases hh : Hit c id c' id'
    · rw [GS.get_hit _ _ hh, GS.same hh, ha]
    · rw [GS.get_miss _ _ hh hi h2]
  have hby : ∀ c' id', id' < 64 → ((r.put c id ⟨z, (r.get c id).by_, (r.get c id).was⟩).get c' id').by_ = (r.get c' id').by_ := fun c' id' h2 => by
    by_cases hh : Hit c id c' id'
    · rw [RS.get_hit _ _ hh, RS.same hh]
    · rw [RS.get_miss _ _ hh hi h2]
  have hwas : ∀ c' id', id' < 64 → ((r.put c id ⟨z, (r.get c id).by_, (r.get c id).was⟩).get c' id').was = (r.get c' id').was := fun c' id' h2 => by
    by_cases hh : Hit c id c' id'
    · rw [RS.get_hit _ _ hh, RS.same hh]
    · rw [RS.get_miss _ _ hh hi h2]
  have e1 : (s.put c id z).c = s.c := GS.put_c _ _ _ _
  refine ⟨by rw [RS.put_c, e1, h.c], fun c' id' h1 h2 => ?_, fun c' h1 => ?_, fun c' h1 m hm => ?_, fun c' id' h1 h2 h3 h4 => ?_, fun c' h1 => ?_⟩
  · by_cases hh : Hit c id c' id'
    · rw [RS.get_hit _ _ hh, GS.get_hit _ _ hh]
    · rw [RS.get_miss _ _ hh hi h2, GS.get_miss _ _ hh hi h2, h.get c' id' (by rw [← e1]; exact h1) h2]
  · rw [RS.put_lim, GS.put_lim]; exact h.lim c' (by rw [← e1]; exact h1)
  · rw [GS.put_at] at hm
    obtain ⟨i, g1, g2, g3, g4⟩ := h.fw c' (by rw [← e1]; exact h1) m hm
    exact ⟨i, g1, by rw [hwas c' i g1]; exact g2, by rw [hac c' i (by rw [← e1]; exact h1) g1]; exact g3, by rw [hby c' i g1]; exact g4⟩
  · rw [GS.put_at, hwas c' id' h2]
    rw [hac c' id' (by rw [← e1]; exact h1) h2] at h3
    rw [hby c' id' h2] at h4
    exact h.bw c' id' (by rw [← e1]; exact h1) h2 h3 h4
  · rw [GS.put_at]; exact h.nd c' (by rw [← e1]; exact h1)
def RS.setF (r : RS) (c id : Int) (f : I → I) : RS := if okR r c id = true then r.put c.toNat id.toNat ⟨f (r.get c.toNat id.toNat).x, (r.get c.toNat id.toNat).by_, (r.get c.toNat id.toNat).was⟩ else r
theorem RS.setF_c (r : RS) (c id : Int) (f : I → I) : (r.setF c id f).c = r.c := by
  unfold RS.setF
  split
  · exact RS.put_c _ _ _ _
  · rfl
theorem RS.setF_nat (r : RS) {c id : Nat} (f : I → I) (h1 : c < r.c) (h2 : id < 64) : r.setF (c : Int) (id : Int) f = r.put c id ⟨f (r.get c id).x, (r.get c id).by_, (r.get c id).was⟩ := by
  have : okR r (c : Int) (id : Int) = true := by simp [okR]; omega
  unfold RS.setF
  rw [if_pos this]
  rfl
theorem RS.setF_no (r : RS) {c id : Int} (f : I → I) (h : okR r c id = false) : r.setF c id f = r := by
  unfold RS.setF
  rw [if_neg (by rw [h]; decide)]
theorem Sim.setF {s : GS} {r : RS} (h : Sim s r) (c id : Int) {f : I → I} (hf : ∀ x, (f x).ac = x.ac) : Sim (s.setF c id f) (r.setF c id f) := by
  have he := okR_eq h c id
  cases hk : okI s c id
  · rw [RS.setF_no r f (he.trans hk), GS.setF_no s f hk]; exact h
  · obtain ⟨c', id', rfl, rfl, h1, h2⟩ := okI_nat hk
    rw [RS.setF_nat r f (by rw [h.c]; exact h1) h2, GS.setF_nat s f h1 h2, h.get c' id' h1 h2]
    exact h.put h1 h2 (hf _)
def RS.maskR (r : RS) (c v : Int) : RS := if (decide (0 ≤ c) && decide (c < (r.c : Int)) && decide (0 ≤ v) && decide (v ≤ 255)) = true then { r with lim := upd r.lim c.toNat v } else r
theorem Sim.mask {s : GS} {r : RS} (h : Sim s r) (c v : Int) : Sim (s.mask c v) (r.maskR c v) := by
  have e : decide (c < (r.c : Int)) = decide (c < (s.c : Int)) := by rw [h.c]
  unfold GS.mask RS.maskR thereB
  rw [e]
  split
  · exact ⟨h.c, h.get, fun c' h1 => by
      show upd r.lim c.toNat v c' = upd s.lim c.toNat v c'
      by_cases e : c' = c.toNat
      · rw [e, upd_same, upd_same]
      · rw [upd_other _ _ e, upd_other _ _ e, h.lim c' h1], h.fw, h.bw, h.nd⟩
  · exact h
def RS.sendK (r : RS) (t : Int) (id : Nat) : Nat → RS
  | 0 => r
  | k + 1 => if bitB t k = true then (r.sendK t id k).put k id ⟨{ ((r.sendK t id k).get k id).x with la := true }, ((r.sendK t id k).get k id).by_, ((r.sendK t id k).get k id).was⟩ else r.sendK t id k
theorem RS.sendK_c (r : RS) (t : Int) (id k : Nat) : (r.sendK t id k).c = r.c := by
  induction k with
  | zero => rfl
  | succ k ih =>
    unfold RS.sendK
    split
    · rw [RS.put_c]; exact ih
    · exact ih
theorem Sim.sendK {s : GS} {r : RS} (h : Sim s r) (t : Int) {id : Nat} (hi : id < 64) : ∀ k, k ≤ s.c → Sim (s.sendK t id k) (r.sendK t id k)
  | 0, _ => h
  | k + 1, hk => by
    have ih := Sim.sendK h t hi k (by omega)
    have hc := GS.sendK_c s t id k
    unfold GS.sendK RS.sendK
    split
    · rw [ih.get k id (by omega) hi]
      exact ih.put (by omega) hi rfl
    · exact ih
def fitsR (r : RS) (t id : Int) : Bool := decide (0 ≤ id) && decide (id ≤ 15) && decide (0 ≤ t) && decide (t < 2 ^ r.c)
def RS.sendR (r : RS) (t id : Int) : RS := if fitsR r t id = true then r.sendK t id.toNat r.c else r
theorem Sim.send {s : GS} {r : RS} (h : Sim s r) (t id : Int) : Sim (s.send t id) (r.sendR t id) := by
  unfold GS.send RS.sendR fitsR fits
  rw [h.c]
  split
  · rename_i hh
    simp at hh
    exact h.sendK t (by omega) s.c (Nat.le_refl _)
  · exact h
/-! ### Running -/
def rrun (r : RS) (c : Nat) : Nat → Int
  | 0 => 256
  | k + 1 => if ((r.get c k).x.ac && (r.get c k).by_ == (c : Int) && decide ((r.get c k).was < rrun r c k)) = true then (r.get c k).was else rrun r c k
theorem rrun_le (r : RS) (c : Nat) : ∀ k, rrun r c k ≤ 256 ∧ (∀ id, id < k → (r.get c id).x.ac = true → (r.get c id).by_ = (c : Int) → rrun r c k ≤ (r.get c id).was) ∧ (rrun r c k = 256 ∨ ∃ id, id < k ∧ (r.get c id).x.ac = true ∧ (r.get c id).by_ = (c : Int) ∧ rrun r c k = (r.get c id).was)
  | 0 => ⟨Int.le_refl _, fun id h => absurd h (by omega), .inl rfl⟩
  | k + 1 => by
    obtain ⟨h1, h2, h3⟩ := rrun_le r c k
    unfold rrun
    split
    · rename_i hh
      simp only [Bool.and_eq_true, beq_iff_eq, decide_eq_true_eq] at hh
      refine ⟨by omega, fun id hi ha hb => ?_, .inr ⟨k, by omega, hh.1.1, hh.1.2, rfl⟩⟩
      by_cases e : id = k
      · subst e; omega
      · have := h2 id (by omega) ha hb; omega
    · rename_i hh
      simp only [Bool.and_eq_true, beq_iff_eq, decide_eq_true_eq] at hh
      refine ⟨h1, fun id hi ha hb => ?_, h3.imp id fun ⟨i, a1, a2⟩ => ⟨i, by omega, a2⟩⟩
      by_cases e : id = k
      · subst e
        have : ¬ (r.get c id).was < rrun r c id := fun hl => hh ⟨⟨ha, hb⟩, hl⟩
        omega
      · exact h2 id (by omega) ha hb
theorem runl_spec (l : List Mo) : runl l ≤ 256 ∧ (∀ m, m ∈ l → runl l ≤ m.1) ∧ (runl l = 256 ∨ ∃ m, m ∈ l ∧ runl l = m.1) := by
  have h : ∀ (l : List Mo) (n : Int), l.foldl (fun n m => min n m.1) n ≤ n ∧ (∀ m, m ∈ l → l.foldl (fun n m => min n m.1) n ≤ m.1) ∧ (l.foldl (fun n m => min n m.1) n = n ∨ ∃ m, m ∈ l ∧ l.foldl (fun n m => min n m.1) n = m.1) := by
    intro l
    induction l with
    | nil => intro n; exact ⟨Int.le_refl _, fun m hm => (by cases hm), .inl rfl⟩
    | cons a l ih =>
      intro n
      obtain ⟨h1, h2, h3⟩ := ih (min n a.1)
      rw [List.foldl_cons]
      refine ⟨by omega, fun m hm => ?_, ?_⟩
      · rcases List.mem_cons.1 hm with e | e
        · subst e; omega
        · exact h2 m e
      · rcases h3 with e | ⟨m, hm, e⟩
        · by_cases hl : n ≤ a.1
          · exact .inl (by omega)
          · exact .inr ⟨a, List.mem_cons_self, by omega⟩
        · exact .inr ⟨m, List.mem_cons_of_mem _ hm, e⟩
  exact h l 256
theorem Sim.run {s : GS} {r : RS} (h : Sim s r) {c : Nat} (hc : c < s.c) : rrun r c 64 = runl (s.at_ c) := by
  obtain ⟨a1, a2, a3⟩ := rrun_le r c 64
  obtain ⟨b1, b2, b3⟩ := runl_spec (s.at_ c)
  refine Int.le_antisymm ?_ ?_
  · rcases b3 with e | ⟨m, hm, e⟩
    · omega
    · obtain ⟨id, g1, g2, g3, g4⟩ := h.fw c hc m hm
      have := a2 id g1 (by rw [h.get c id hc g1]; exact g3) g4
      rw [e, g2]
      exact this
  · rcases a3 with e | ⟨id, g1, g2, g3, e⟩
    · omega
    · have := b2 _ (h.bw c id hc g1 (by rw [← h.get c id hc g1]; exact g2) g3)
      rw [e]
      exact this
/-! ### Best -/
def rcand (r : RS) (c : Nat) (rn : Int) (id : Nat) : Bool := ((r.get c id).x.la || (r.get c id).x.hi) && (r.get c id).x.en && !(r.get c id).x.ac && (decide (id < 32) || (r.get c id).x.dst == (c : Int)) && decide ((r.get c id).x.rk < r.lim c) && decide ((r.get c id).x.rk < rn)
def BestP (r : RS) (c : Nat) (rn : Int) (k : Nat) (b : Int) : Prop :=
  (b = -1 ∧ ∀ i, i < k → rcand r c rn i = false) ∨ (∃ n : Nat, b = (n : Int) ∧ n < k ∧ rcand r c rn n = true ∧ ∀ i, i < k → rcand r c rn i = true → (r.get c n).x.rk < (r.get c i).x.rk ∨ ((r.get c n).x.rk = (r.get c i).x.rk ∧ n ≤ i))
theorem BestP.first (r : RS) (c : Nat) (rn : Int) : BestP r c rn 0 (-1) := .inl ⟨rfl, fun i h => absurd h (by omega)⟩
theorem BestP.skip {r : RS} {c : Nat} {rn : Int} {k : Nat} {b : Int} (h : BestP r c rn k b) (hc : rcand r c rn k = false) : BestP r c rn (k + 1) b := by
  rcases h with ⟨e, h⟩ | ⟨n, e, hn, hc2, h⟩
  · refine .inl ⟨e, fun i hi => ?_⟩
    by_cases e : i = k
    · subst e; exact hc
    · exact h i (by omega)
  · refine .inr ⟨n, e, by omega, hc2, fun i hi hci => ?_⟩
    by_cases e : i = k
    · subst e; rw [hc] at hci; cases hci
    · exact h i (by omega) hci
theorem BestP.take {r : RS} {c : Nat} {rn : Int} {k : Nat} {b : Int} (h : BestP r c rn k b) (hc : rcand r c rn k = true) (hb : b < 0 ∨ (r.get c k).x.rk < (r.get c b.toNat).x.rk) : BestP r c rn (k + 1) (k : Int) := by
  refine .inr ⟨k, rfl, by omega, hc, fun i hi hci => ?_⟩
  by_cases e : i = k
  · subst e; exact .inr ⟨rfl, Nat.le_refl _⟩
  · rcases h with ⟨e1, h⟩ | ⟨n, rfl, hn, hc2, h⟩
    · rw [h i (by omega)] at hci; cases hci
    · rcases hb with hb | hb
      · omega
      · have h2 := h i (by omega) hci
        have h3 : (r.get c k).x.rk < (r.get c n).x.rk := hb
        exact .inl (by omega)
theorem BestP.keep {r : RS} {c : Nat} {rn : Int} {k n : Nat} (h : BestP r c rn k (n : Int)) (hr : ¬ (r.get c k).x.rk < (r.get c n).x.rk) : BestP r c rn (k + 1) (n : Int) := by
  rcases h with ⟨e, _⟩ | ⟨m, e, hn, hc2, h⟩
  · omega
  · obtain rfl : n = m := by omega
    refine .inr ⟨n, rfl, by omega, hc2, fun i hi hci => ?_⟩
    by_cases e : i = k
    · subst e; omega
    · exact h i (by omega) hci
def bestV (b : Int) : Int × Bool := if b < 0 then (0, false) else (b, true)
theorem Sim.cand {s : GS} {r : RS} (h : Sim s r) {c id : Nat} (hc : c < s.c) (hi : id < 64) (rn : Int) : rcand r c rn id = (candB s c id && decide ((s.get c id).rk < s.lim c) && decide ((s.get c id).rk < rn)) := by
  unfold rcand candB I.pn
  rw [h.get c id hc hi, h.lim c hc]
  cases (s.get c id).en <;> cases ((s.get c id).la || (s.get c id).hi) <;> simp
theorem Sim.best {s : GS} {r : RS} (h : Sim s r) {c : Nat} (hc : c < s.c) {b : Int} (hb : BestP r c (rrun r c 64) 64 b) : bestV b = s.best (c : Int) := by
  have hrn := h.run hc
  rcases hb with ⟨rfl, hb⟩ | ⟨n, rfl, hn, hcn, hb⟩
  · rw [best_not hc fun k hk hck => ?_]
    · rfl
    · have := hb k hk
      rw [h.cand hc hk, hck, hrn] at this
      simp at this
      by_cases hl : (s.get c k).rk < s.lim c
      · exact .inr (this hl)
      · exact .inl (by omega)
  · rw [h.cand hc hn, hrn] at hcn
    simp only [Bool.and_eq_true, decide_eq_true_eq] at hcn
    rw [best_is hc hn hcn.1.1 (fun k hk hck => ?_) hcn.1.2 hcn.2]
    · unfold bestV
      rw [if_neg (by omega)]
    · have h1 := hb k hk
      rw [h.cand hc hk, hck, hrn, h.get c n hc hn, h.get c k hc hk] at h1
      by_cases hl : (s.get c k).rk < s.lim c ∧ (s.get c k).rk < runl (s.at_ c)
      · exact h1 (by simp; exact hl)
      · left
        by_cases h2 : (s.get c k).rk < s.lim c
        · have : ¬ (s.get c k).rk < runl (s.at_ c) := fun h3 => hl ⟨h2, h3⟩
          omega
        · omega
/-! ### Ack and Eoi -/
def RS.takeR (r : RS) (c id : Nat) : RS := r.put c id ⟨{ (r.get c id).x with la := false, ac := true }, (c : Int), (r.get c id).x.rk⟩
theorem Sim.take {s : GS} {r : RS} (h : Sim s r) {c id : Nat} (hc : c < s.c) (hi : id < 64) (ha : (s.get c id).ac = false) : Sim (s.take c id) (r.takeR c id) := by
  have hx := h.get c id hc hi
  unfold RS.takeR GS.take
  rw [hx]
  have e1 : (s.put c id { s.get c id with la := false, ac := true }).c = s.c := GS.put_c _ _ _ _
  have nin : ∀ c', c' < s.c → (id : Int) ∈ (s.at_ c').map (·.2) → ∀ id' : Nat, id' = id → Hit c id c' id' → False := fun c' h1 hm id' he hh => by
    obtain ⟨m, hm, e⟩ := List.mem_map.1 hm
    obtain ⟨i, g1, g2, g3, g4⟩ := h.fw c' h1 m hm
    rw [g2] at e
    have e2 : i = id := by
      have : (i : Int) = (id : Int) := e
      omega
    subst e2
    subst he
    rw [GS.same hh, ha] at g3
    cases g3
  refine ⟨by rw [RS.put_c, h.c]; exact e1.symm, fun c' id' h1 h2 => ?_, fun c' h1 => ?_, fun c' h1 m hm => ?_, fun c' id' h1 h2 h3 h4 => ?_, fun c' h1 => ?_⟩
  · show _ = (s.put c id _).get c' id'
    by_cases hh : Hit c id c' id'
    · rw [RS.get_hit _ _ hh, GS.get_hit _ _ hh]
    · rw [RS.get_miss _ _ hh hi h2, GS.get_miss _ _ hh hi h2, h.get c' id' (by rw [← e1]; exact h1) h2]
  · rw [RS.put_lim]
    show _ = (s.put c id _).lim c'
    rw [GS.put_lim]; exact h.lim c' (by rw [← e1]; exact h1)
  · have h1' : c' < s.c := by rw [← e1]; exact h1
    have hm' : m ∈ upd s.at_ c (s.at_ c ++ [((s.get c id).rk, (id : Int))]) c' := hm
    show ∃ id_1 : Nat, id_1 < 64 ∧ m = _ ∧ ((s.put c id _).get c' id_1).ac = true ∧ _
    have old : m ∈ s.at_ c' → ∃ id_1 : Nat, id_1 < 64 ∧ m = (((r.put c id ⟨{ s.get c id with la := false, ac := true }, (c : Int), (s.get c id).rk⟩).get c' id_1).was, (id_1 : Int)) ∧ ((s.put c id { s.get c id with la := false, ac := true }).get c' id_1).ac = true ∧ ((r.put c id ⟨{ s.get c id with la := false, ac := true }, (c : Int), (s.get c id).rk⟩).get c' id_1).by_ = (c' : Int) := fun hm => by
      obtain ⟨i, g1, g2, g3, g4⟩ := h.fw c' h1' m hm
      have hh : ¬ Hit c id c' i := fun hh => nin c' h1' (List.mem_map.2 ⟨m, hm, by rw [g2]; show (i : Int) = (id : Int); rw [hh.1]⟩) i hh.1 hh
      exact ⟨i, g1, by rw [RS.get_miss _ _ hh hi g1]; exact g2, by rw [GS.get_miss _ _ hh hi g1]; exact g3, by rw [RS.get_miss _ _ hh hi g1]; exact g4⟩
    by_cases e : c' = c
    · subst e
      rw [upd_same] at hm'
      rcases List.mem_append.1 hm' with hm | hm
      · exact old hm
      · obtain rfl := List.mem_singleton.1 hm
        have hh : Hit c' id c' id := ⟨rfl, fun _ => rfl⟩
        exact ⟨id, hi, by rw [RS.get_hit _ _ hh], by rw [GS.get_hit _ _ hh], by rw [RS.get_hit _ _ hh]⟩
    · rw [upd_other _ _ e] at hm'
      exact old hm'
  · have h1' : c' < s.c := by rw [← e1]; exact h1
    have h3' : ((s.put c id { s.get c id with la := false, ac := true }).get c' id').ac = true := h3
    show _ ∈ upd s.at_ c (s.at_ c ++ [((s.get c id).rk, (id : Int))]) c'
    by_cases hh : Hit c id c' id'
    · rw [RS.get_hit _ _ hh] at h4 ⊢
      have e : c' = c := by
        have : (c : Int) = (c' : Int) := h4
        omega
      subst e
      rw [upd_same, hh.1]
      exact List.mem_append_right _ (List.mem_singleton.2 rfl)
    · rw [RS.get_miss _ _ hh hi h2] at h4 ⊢
      rw [GS.get_miss _ _ hh hi h2] at h3'
      have := h.bw c' id' h1' h2 h3' h4
      by_cases e : c' = c
      · subst e; rw [upd_same]; exact List.mem_append_left _ this
      · rw [upd_other _ _ e]; exact this
  · have h1' : c' < s.c := by rw [← e1]; exact h1
    show ((upd s.at_ c (s.at_ c ++ [((s.get c id).rk, (id : Int))]) c').map (·.2)).Nodup
    by_cases e : c' = c
    · subst e
      rw [upd_same, List.map_append]
      refine List.nodup_append.2 ⟨h.nd c' h1', by simp, fun a ha2 b hb hab => ?_⟩
      have : b = (id : Int) := by simpa using hb
      subst this
      subst hab
      exact nin c' h1' ha2 id rfl ⟨rfl, fun _ => rfl⟩
    · rw [upd_other _ _ e]; exact h.nd c' h1'
def RS.dropR (r : RS) (c id : Nat) : RS := r.put c id ⟨{ (r.get c id).x with ac := false }, -1, (r.get c id).was⟩
def mine (r : RS) (c id : Nat) : Bool := (r.get c id).x.ac && (r.get c id).by_ == (c : Int)
theorem Sim.has {s : GS} {r : RS} (h : Sim s r) {c id : Nat} (hc : c < s.c) (hi : id < 64) : hasI (s.at_ c) (id : Int) = mine r c id := by
  rw [Bool.eq_iff_iff]
  unfold hasI mine
  simp only [List.any_eq_true, beq_iff_eq, Bool.and_eq_true]
  constructor
  · rintro ⟨m, hm, e⟩
    obtain ⟨i, g1, g2, g3, g4⟩ := h.fw c hc m hm
    rw [g2] at e
    have : i = id := by
      have : (i : Int) = (id : Int) := e
      omega
    subst this
    exact ⟨by rw [h.get c i hc g1]; exact g3, g4⟩
  · rintro ⟨h1, h2⟩
    exact ⟨_, h.bw c id hc hi (by rw [← h.get c id hc hi]; exact h1) h2, rfl⟩
theorem mem_dropI {l : List Mo} {id : Int} (hn : (l.map (·.2)).Nodup) (m : Mo) : m ∈ dropI l id ↔ m ∈ l ∧ m.2 ≠ id := by
  unfold dropI
  induction l with
  | nil => simp
  | cons a l ih =>
    rw [List.map_cons, List.nodup_cons] at hn
    by_cases e : a.2 = id
    · rw [List.eraseP_cons_of_pos (by simp [e])]
      constructor
      · intro hm
        refine ⟨List.mem_cons_of_mem _ hm, fun e2 => hn.1 ?_⟩
        rw [e, ← e2]
        exact List.mem_map.2 ⟨m, hm, rfl⟩
      · rintro ⟨hm, e2⟩
        rcases List.mem_cons.1 hm with e3 | e3
        · subst e3; exact absurd e e2
        · exact e3
    · rw [List.eraseP_cons_of_neg (by simp [e]), List.mem_cons, List.mem_cons, ih hn.2]
      constructor
      · rintro (e3 | ⟨h1, h2⟩)
        · subst e3; exact ⟨.inl rfl, e⟩
        · exact ⟨.inr h1, h2⟩
      · rintro ⟨e3 | h1, h2⟩
        · exact .inl e3
        · exact .inr ⟨h1, h2⟩
theorem Sim.drop {s : GS} {r : RS} (h : Sim s r) {c id : Nat} (hc : c < s.c) (hi : id < 64) (hm : mine r c id = true) : Sim (s.eoiN c id) (r.dropR c id) := by
  have hx := h.get c id hc hi
  have hh0 := h.has hc hi
  unfold GS.eoiN
  rw [if_pos (hh0.trans hm)]
  unfold mine at hm
  rw [Bool.and_eq_true, beq_iff_eq] at hm
  unfold RS.dropR
  rw [hx]
  have e1 : (s.put c id { s.get c id with ac := false }).c = s.c := GS.put_c _ _ _ _
  have cw : ∀ c', Hit c id c' id → (r.get c' id).by_ = (c' : Int) → c' = c := fun c' hh e => by
    rw [RS.same hh, hm.2] at e
    omega
  refine ⟨by rw [RS.put_c, h.c]; exact e1.symm, fun c' id' h1 h2 => ?_, fun c' h1 => ?_, fun c' h1 m hm2 => ?_, fun c' id' h1 h2 h3 h4 => ?_, fun c' h1 => ?_⟩
  · show _ = (s.put c id _).get c' id'
    by_cases hh : Hit c id c' id'
    · rw [RS.get_hit _ _ hh, GS.get_hit _ _ hh]
    · rw [RS.get_miss _ _ hh hi h2, GS.get_miss _ _ hh hi h2, h.get c' id' (by rw [← e1]; exact h1) h2]
  · rw [RS.put_lim]
    show _ = (s.put c id _).lim c'
    rw [GS.put_lim]; exact h.lim c' (by rw [← e1]; exact h1)
  · have h1' : c' < s.c := by rw [← e1]; exact h1
    have hm' : m ∈ upd s.at_ c (dropI (s.at_ c) (id : Int)) c' := hm2
    have hold : m ∈ s.at_ c' ∧ (c' = c → m.2 ≠ (id : Int)) := by
      by_cases e : c' = c
      · subst e
        rw [upd_same, mem_dropI (h.nd c' h1')] at hm'
        exact ⟨hm'.1, fun _ => hm'.2⟩
      · rw [upd_other _ _ e] at hm'
        exact ⟨hm', fun e2 => absurd e2 e⟩
    obtain ⟨i, g1, g2, g3, g4⟩ := h.fw c' h1' m hold.1
    have hh : ¬ Hit c id c' i := fun hh => by
      have hi2 : i = id := hh.1
      subst hi2
      exact hold.2 (cw c' hh g4) (by rw [g2])
    exact ⟨i, g1, by rw [RS.get_miss _ _ hh hi g1]; exact g2, by show ((s.put c id _).get c' i).ac = true; rw [GS.get_miss _ _ hh hi g1]; exact g3, by rw [RS.get_miss _ _ hh hi g1]; exact g4⟩
  · have h1' : c' < s.c := by rw [← e1]; exact h1
    have h3' : ((s.put c id { s.get c id with ac := false }).get c' id').ac = true := h3
    show _ ∈ upd s.at_ c (dropI (s.at_ c) (id : Int)) c'
    by_cases hh : Hit c id c' id'
    · rw [GS.get_hit _ _ hh] at h3'
      cases h3'
    · rw [RS.get_miss _ _ hh hi h2] at h4 ⊢
      rw [GS.get_miss _ _ hh hi h2] at h3'
      have := h.bw c' id' h1' h2 h3' h4
      by_cases e : c' = c
      · subst e
        rw [upd_same, mem_dropI (h.nd c' h1')]
        refine ⟨this, fun e2 => hh ?_⟩
        have : (id' : Int) = (id : Int) := e2
        exact ⟨by omega, fun _ => rfl⟩
      · rw [upd_other _ _ e]; exact this
  · have h1' : c' < s.c := by rw [← e1]; exact h1
    show ((upd s.at_ c (dropI (s.at_ c) (id : Int)) c').map (·.2)).Nodup
    by_cases e : c' = c
    · subst e
      rw [upd_same]
      exact (h.nd c' h1').sublist (List.Sublist.map _ List.eraseP_sublist)
    · rw [upd_other _ _ e]; exact h.nd c' h1'
def rnew (c : Nat) : RS := ⟨c, fun _ _ => ⟨i160, -1, 0⟩, fun _ => ⟨i160, -1, 0⟩, fun _ => 255⟩
theorem sim_new (c : Nat) : Sim (new c) (rnew c) := by
  refine ⟨rfl, fun c' id h1 h2 => ?_, fun c' h1 => rfl, fun c' h1 m hm => (by cases hm), fun c' id h1 h2 h3 h4 => ?_, fun c' h1 => List.nodup_nil⟩
  · unfold RS.get GS.get
    split <;> rfl
  · unfold GS.get at h3
    split at h3 <;> cases h3
end Go.Proofs.Ytpgelocofoidnaa
