/- The document's controller: plain, and in memory. -/
import Derived.Test.YtpgelocofoidnaaGpl
import Derived.Test.YtpgelocofoidnaaGarr
set_option linter.unusedSimpArgs false
set_option linter.unusedVariables false
set_option linter.unusedSectionVars false
namespace Go.Proofs.Ytpgelocofoidnaa
open Go.RowKit
set_option maxRecDepth 100000

structure J where
  x : I
  by_ : Int
  was : Int
def jc (y : J) : List Value := [.bool y.x.en, .bool y.x.la, .bool y.x.hi, .bool y.x.ac, .int .i64 y.x.rk, .int .i64 y.x.dst, .int .i64 y.by_, .int .i64 y.was]
structure RS where
  c : Nat
  own : Nat → Nat → J
  sh : Nat → J
  lim : Nat → Int
def RS.get (r : RS) (c id : Nat) : J := if id < 32 then r.own c id else r.sh (id - 32)
def RS.put (r : RS) (c id : Nat) (y : J) : RS := if id < 32 then { r with own := upd r.own c (upd (r.own c) id y) } else { r with sh := upd r.sh (id - 32) y }
def Hit (c id c' id' : Nat) : Prop := id' = id ∧ (id < 32 → c' = c)
theorem RS.put_c (r : RS) (c id : Nat) (y : J) : (r.put c id y).c = r.c := by unfold RS.put; split <;> rfl
theorem RS.put_lim (r : RS) (c id : Nat) (y : J) : (r.put c id y).lim = r.lim := by unfold RS.put; split <;> rfl
theorem RS.get_hit (r : RS) {c id c' id' : Nat} (y : J) (h : Hit c id c' id') : (r.put c id y).get c' id' = y := by
  obtain ⟨rfl, h⟩ := h
  unfold RS.put RS.get
  by_cases e : id' < 32
  · obtain rfl := h e
    rw [if_pos e, if_pos e]
    show upd r.own c' (upd (r.own c') id' y) c' id' = y
    rw [upd_same, upd_same]
  · rw [if_neg e, if_neg e]
    show upd r.sh (id' - 32) y (id' - 32) = y
    rw [upd_same]
theorem RS.get_miss (r : RS) {c id c' id' : Nat} (y : J) (h : ¬ Hit c id c' id') (h1 : id < 64) (h2 : id' < 64) : (r.put c id y).get c' id' = r.get c' id' := by
  unfold RS.put RS.get
  by_cases e : id < 32
  · rw [if_pos e]
    by_cases e2 : id' < 32
    · rw [if_pos e2, if_pos e2]
      show upd r.own c (upd (r.own c) id y) c' id' = r.own c' id'
      by_cases e3 : c' = c
      · subst e3
        rw [upd_same, upd_other _ _ (fun e4 => h ⟨e4, fun _ => rfl⟩)]
      · rw [upd_other _ _ e3]
    · rw [if_neg e2, if_neg e2]
  · rw [if_neg e]
    by_cases e2 : id' < 32
    · rw [if_pos e2, if_pos e2]
    · rw [if_neg e2, if_neg e2]
      show upd r.sh (id - 32) y (id' - 32) = r.sh (id' - 32)
      rw [upd_other _ _ (fun e4 => h ⟨by omega, fun e5 => absurd e5 e⟩)]
theorem RS.same {r : RS} {c id c' id' : Nat} (h : Hit c id c' id') : r.get c' id' = r.get c id := by
  obtain ⟨rfl, h⟩ := h
  unfold RS.get
  by_cases e : id' < 32
  · obtain rfl := h e; rfl
  · rw [if_neg e, if_neg e]
theorem GS.same {s : GS} {c id c' id' : Nat} (h : Hit c id c' id') : s.get c' id' = s.get c id := by
  obtain ⟨rfl, h⟩ := h
  unfold GS.get
  by_cases e : id' < 32
  · obtain rfl := h e; rfl
  · rw [if_neg e, if_neg e]
theorem GS.get_hit (s : GS) {c id c' id' : Nat} (y : I) (h : Hit c id c' id') : (s.put c id y).get c' id' = y := by
  obtain ⟨rfl, h⟩ := h
  unfold GS.put GS.get
  by_cases e : id' < 32
  · obtain rfl := h e
    rw [if_pos e, if_pos e]
    show upd s.own c' (upd (s.own c') id' y) c' id' = y
    rw [upd_same, upd_same]
  · rw [if_neg e, if_neg e]
    show upd s.sh (id' - 32) y (id' - 32) = y
    rw [upd_same]
theorem GS.get_miss (s : GS) {c id c' id' : Nat} (y : I) (h : ¬ Hit c id c' id') (h1 : id < 64) (h2 : id' < 64) : (s.put c id y).get c' id' = s.get c' id' := by
  unfold GS.put GS.get
  by_cases e : id < 32
  · rw [if_pos e]
    by_cases e2 : id' < 32
    · rw [if_pos e2, if_pos e2]
      show upd s.own c (upd (s.own c) id y) c' id' = s.own c' id'
      by_cases e3 : c' = c
      · subst e3
        rw [upd_same, upd_other _ _ (fun e4 => h ⟨e4, fun _ => rfl⟩)]
      · rw [upd_other _ _ e3]
    · rw [if_neg e2, if_neg e2]
  · rw [if_neg e]
    by_cases e2 : id' < 32
    · rw [if_pos e2, if_pos e2]
    · rw [if_neg e2, if_neg e2]
      show upd s.sh (id - 32) y (id' - 32) = s.sh (id' - 32)
      rw [upd_other _ _ (fun e4 => h ⟨by omega, fun e5 => absurd e5 e⟩)]
/-! ### In memory -/
structure Lay where
  ob : Nat
  oo : Nat
  oc : Nat
  ib : Nat → Nat
  io : Nat → Nat
  ik : Nat → Nat
  sb : Nat
  so : Nat
  sc : Nat
  lb : Nat
  lo : Nat
  lc : Nat
def jrow (f : Nat → J) : List Value := rows (fun k => jc (f k)) 32
def Lay.iv (L : Lay) (i : Nat) : Value := .slice (some ⟨L.ib i, L.io i, none⟩) 32 (L.ik i)
def Lay.ovs (L : Lay) (c : Nat) : List Value := (List.range c).map L.iv
def lims (f : Nat → Int) (c : Nat) : List Value := (List.range c).map fun i => .int .i64 (f i)
structure RefAt (w : World) (rb : Nat) (L : Lay) (r : RS) : Prop where
  top : Blk w rb 82 #[.int .i64 (r.c : Int), .slice (some ⟨L.ob, L.oo, none⟩) r.c L.oc, .slice (some ⟨L.sb, L.so, none⟩) 32 L.sc, .slice (some ⟨L.lb, L.lo, none⟩) r.c L.lc]
  own : Win w 80 1 (.slice (some ⟨L.ob, L.oo, none⟩) r.c L.oc) r.c (L.ovs r.c)
  ints : ∀ i, i < r.c → Win w 84 8 (L.iv i) 32 (jrow (r.own i))
  sh : Win w 84 8 (.slice (some ⟨L.sb, L.so, none⟩) 32 L.sc) 32 (jrow r.sh)
  lim : Win w 3 1 (.slice (some ⟨L.lb, L.lo, none⟩) r.c L.lc) r.c (lims r.lim r.c)
  sep : ∀ i j, i < r.c → j < r.c → i ≠ j → L.ib i ≠ L.ib j
  sepS : ∀ i, i < r.c → L.ib i ≠ L.sb
  c8 : r.c ≤ 8
def RFoot (rb : Nat) (L : Lay) (c : Nat) (k : Nat) : Prop := k = rb ∨ k = L.ob ∨ k = L.sb ∨ k = L.lb ∨ ∃ i, i < c ∧ k = L.ib i
def spB (L : Lay) (c id : Nat) : Nat := if id < 32 then L.ib c else L.sb
def spO (L : Lay) (c id : Nat) : Nat := if id < 32 then L.io c + id * 8 else L.so + (id - 32) * 8
theorem jrow_length (f : Nat → J) : (jrow f).length = 256 := rows_length _ 8 (fun _ => rfl) 32
theorem jrow_get (f : Nat → J) {k j : Nat} (hk : k < 32) (hj : j < 8) : (jrow f)[k * 8 + j]? = (jc (f k))[j]? := rows_get _ 8 (fun _ => rfl) hk hj
theorem jrow_set (f : Nat → J) {k j : Nat} (hk : k < 32) (hj : j < 8) {u : Value} {y : J} (hy : (jc (f k)).set j u = jc y) : (jrow f).set (k * 8 + j) u = jrow (upd f k y) := by
  unfold jrow
  rw [rows_set _ 8 (fun _ => rfl) hk hj, hy]
  exact rows_congr fun i hi => by
    by_cases e : i = k
    · subst e; rw [upd_same, upd_same]
    · rw [upd_other _ _ e, upd_other _ _ e]
theorem lims_set (f : Nat → Int) {c k : Nat} (hk : k < c) (u : Int) : (lims f c).set k (.int .i64 u) = lims (upd f k u) c := by
  unfold lims
  apply List.ext_getElem (by simp)
  intro i h1 h2
  simp at h1
  by_cases e : i = k
  · subst e; simp [upd]
  · rw [List.getElem_set_ne (by omega)]
    simp [upd, e]
theorem Win.frozenAt {w : World} {e size n off cap g : Nat} {xs : List Value} (h : Win w e size (.slice (some ⟨g, off, none⟩) n cap) n xs) (j : Nat) : w.frozen? ⟨g, j, none⟩ = false := by
  rcases h.2 with ⟨h0, _⟩ | ⟨g', off', cap', cs, hv, hb, h1, h2, h3, h4⟩
  · cases h0
  · cases hv
    exact hb.frozen j
theorem Win.blk_lt {w : World} {e size n off cap g : Nat} {xs : List Value} (h : Win w e size (.slice (some ⟨g, off, none⟩) n cap) n xs) : g < w.heap.size := h.lt rfl
theorem jc_lt {x : J} {j : Nat} {v : Value} (h : (jc x)[j]? = some v) : j < 8 := by
  have := (List.getElem?_eq_some_iff.1 h).1
  exact this
section
variable {w w' : World} {rb : Nat} {L : Lay} {r : RS}
theorem RefAt.lt (h : RefAt w rb L r) {k : Nat} (hk : RFoot rb L r.c k) : k < w.heap.size := by
  rcases hk with rfl | rfl | rfl | rfl | ⟨i, hi, rfl⟩
  · exact h.top.lt
  · exact h.own.blk_lt
  · exact h.sh.blk_lt
  · exact h.lim.blk_lt
  · exact (h.ints i hi).lt rfl
theorem RefAt.fr {S : Nat → Prop} (h : RefAt w rb L r) (hf : Fr S w w') (hs : ∀ k, RFoot rb L r.c k → ¬ S k) : RefAt w' rb L r :=
  ⟨h.top.fr hf (hs _ (.inl rfl)), h.own.fr hf fun k hk => (by cases hk; exact hs _ (.inr (.inl rfl))), fun i hi => (h.ints i hi).fr hf fun k hk => (by cases hk; exact hs _ (.inr (.inr (.inr (.inr ⟨i, hi, rfl⟩))))),
    h.sh.fr hf fun k hk => (by cases hk; exact hs _ (.inr (.inr (.inl rfl)))), h.lim.fr hf fun k hk => (by cases hk; exact hs _ (.inr (.inr (.inr (.inl rfl))))), h.sep, h.sepS, h.c8⟩
theorem RefAt.fr0 (h : RefAt w rb L r) (hf : Fr Nil w w') : RefAt w' rb L r := h.fr hf fun _ _ => id
theorem RefAt.c_c (h : RefAt w rb L r) : w.cell? ⟨rb, 0, none⟩ = some (.int .i64 (r.c : Int)) := h.top.cellv (by rfl)
theorem RefAt.own_c (h : RefAt w rb L r) : w.cell? ⟨rb, 1, none⟩ = some (.slice (some ⟨L.ob, L.oo, none⟩) r.c L.oc) := h.top.cellv (by rfl)
theorem RefAt.sh_c (h : RefAt w rb L r) : w.cell? ⟨rb, 2, none⟩ = some (.slice (some ⟨L.sb, L.so, none⟩) 32 L.sc) := h.top.cellv (by rfl)
theorem RefAt.lim_c (h : RefAt w rb L r) : w.cell? ⟨rb, 3, none⟩ = some (.slice (some ⟨L.lb, L.lo, none⟩) r.c L.lc) := h.top.cellv (by rfl)
theorem RefAt.iv_c (h : RefAt w rb L r) {i : Nat} (hi : i < r.c) : w.cell? ⟨L.ob, L.oo + i, none⟩ = some (L.iv i) := h.own.cellAt (by simp [Lay.ovs, hi])
theorem RefAt.lims_c (h : RefAt w rb L r) {i : Nat} (hi : i < r.c) : w.cell? ⟨L.lb, L.lo + i, none⟩ = some (.int .i64 (r.lim i)) := h.lim.cellAt (by simp [lims, hi])
theorem RefAt.sp_c (h : RefAt w rb L r) {c id : Nat} (hc : c < r.c) (hi : id < 64) {j : Nat} {v : Value} (hv : (jc (r.get c id))[j]? = some v) : w.cell? ⟨spB L c id, spO L c id + j, none⟩ = some v := by
  have hj := jc_lt hv
  unfold spB spO
  unfold RS.get at hv
  by_cases e : id < 32
  · rw [if_pos e, if_pos e]
    rw [if_pos e] at hv
    rw [Nat.add_assoc]
    exact (h.ints c hc).cellAt ((jrow_get _ e hj).trans hv)
  · rw [if_neg e, if_neg e]
    rw [if_neg e] at hv
    rw [Nat.add_assoc]
    exact h.sh.cellAt ((jrow_get _ (by omega) hj).trans hv)
theorem RefAt.sp_z (h : RefAt w rb L r) {c id : Nat} (hc : c < r.c) (o : Nat) : w.frozen? ⟨spB L c id, o, none⟩ = false := by
  unfold spB
  by_cases e : id < 32
  · rw [if_pos e]; exact (h.ints c hc).frozenAt o
  · rw [if_neg e]; exact h.sh.frozenAt o
theorem RefAt.lim_z (h : RefAt w rb L r) (o : Nat) : w.frozen? ⟨L.lb, o, none⟩ = false := h.lim.frozenAt o
theorem RefAt.sp_foot (h : RefAt w rb L r) {c id : Nat} (hc : c < r.c) : RFoot rb L r.c (spB L c id) := by
  unfold spB
  by_cases e : id < 32
  · rw [if_pos e]; exact .inr (.inr (.inr (.inr ⟨c, hc, rfl⟩)))
  · rw [if_neg e]; exact .inr (.inr (.inl rfl))
theorem RefAt.sp_set (h : RefAt w rb L r) {c id : Nat} (hc : c < r.c) (hi : id < 64) {j : Nat} {u : Value} {y : J} (hj : j < 8) (hy : (jc (r.get c id)).set j u = jc y) : RefAt (w.setCell ⟨spB L c id, spO L c id + j, none⟩ u) rb L (r.put c id y) := by
  unfold spB spO RS.put
  unfold RS.get at hy
  by_cases e : id < 32
  · rw [if_pos e, if_pos e, if_pos e]
    rw [if_pos e] at hy
    rw [Nat.add_assoc]
    have hI := h.ints c hc
    have n1 : rb ≠ L.ib c := fun e => hI.ne h.top (by decide) (by rw [e]; rfl)
    refine ⟨h.top.farc n1 u, h.own.far (fun hk => hI.ne2 h.own (by decide) (k := L.ib c) rfl hk) u, fun i hi' => ?_, h.sh.far (fun hk => h.sepS c hc (Option.some.inj (show some L.sb = some (L.ib c) from hk)).symm) u, h.lim.far (fun hk => hI.ne2 h.lim (by decide) (k := L.ib c) rfl hk) u, h.sep, h.sepS, h.c8⟩
    by_cases e2 : i = c
    · subst e2
      have := hI.set_ (id * 8 + j) u
      rw [jrow_set _ e hj hy] at this
      show Win _ 84 8 (L.iv i) 32 (jrow (upd r.own i (upd (r.own i) id y) i))
      rw [upd_same]
      exact this
    · show Win _ 84 8 (L.iv i) 32 (jrow (upd r.own c (upd (r.own c) id y) i))
      rw [upd_other _ _ e2]
      exact (h.ints i hi').far (fun hk => h.sep i c hi' hc e2 (Option.some.inj (show some (L.ib i) = some (L.ib c) from hk))) u
  · rw [if_neg e, if_neg e, if_neg e]
    rw [if_neg e] at hy
    rw [Nat.add_assoc]
    have n1 : rb ≠ L.sb := fun e => h.sh.ne h.top (by decide) (by rw [e]; rfl)
    refine ⟨h.top.farc n1 u, h.own.far (fun hk => h.sh.ne2 h.own (by decide) (k := L.sb) rfl hk) u, fun i hi' => (h.ints i hi').far (fun hk => h.sepS i hi' (Option.some.inj (show some (L.ib i) = some L.sb from hk))) u, ?_, h.lim.far (fun hk => h.sh.ne2 h.lim (by decide) (k := L.sb) rfl hk) u, h.sep, h.sepS, h.c8⟩
    have := h.sh.set_ ((id - 32) * 8 + j) u
    rw [jrow_set _ (by omega) hj hy] at this
    exact this
theorem RefAt.lim_set (h : RefAt w rb L r) {c : Nat} (hc : c < r.c) (u : Int) : RefAt (w.setCell ⟨L.lb, L.lo + c, none⟩ (.int .i64 u)) rb L { r with lim := upd r.lim c u } := by
  have n1 : rb ≠ L.lb := fun e => h.lim.ne h.top (by decide) (by rw [e]; rfl)
  refine ⟨h.top.farc n1 _, h.own.far (fun hk => h.lim.ne2 h.own (by decide) (k := L.lb) rfl hk) _, fun i hi' => (h.ints i hi').far (fun hk => h.lim.ne2 (h.ints i hi') (by decide) (k := L.lb) rfl hk) _, h.sh.far (fun hk => h.lim.ne2 h.sh (by decide) (k := L.lb) rfl hk) _, ?_, h.sep, h.sepS, h.c8⟩
  have := h.lim.set_ c (.int .i64 u)
  rw [lims_set _ hc] at this
  exact this
end
/-- What changes the document's controller. -/
def Rt (w : World) (rb : Nat) (L : Lay) (r' : RS) (v : Value) (e : Ending) (w' : World) : Prop := e = .returned v ∧ RefAt w' rb L r' ∧ Fr (RFoot rb L r'.c) w w'
def okR (r : RS) (c id : Int) : Bool := decide (0 ≤ c) && decide (c < (r.c : Int)) && decide (0 ≤ id) && decide (id < 64)
theorem okR_nat {r : RS} {c id : Int} (h : okR r c id = true) : ∃ c' id' : Nat, c = (c' : Int) ∧ id = (id' : Int) ∧ c' < r.c ∧ id' < 64 := by
  simp [okR] at h
  exact ⟨c.toNat, id.toNat, by omega, by omega, by omega, by omega⟩
theorem bad_ok (rb : Nat) (L : Lay) (r : RS) (c id : Int) (w : World) (h : RefAt w rb L r) : Calls Try.prog 52 #[.pointer (some ⟨rb, 0, none⟩), .int .i64 c, .int .i64 id] w fun e w' => e = .returned (.bool (!(okR r c id))) ∧ w = w' := by
  have c0 := h.c_c
  have n8 : (r.c : Int) ≤ 8 := by have := h.c8; omega
  have E : okR r c id = (decide (0 ≤ c) && decide (c < (r.c : Int)) && decide (0 ≤ id) && decide (id < 64)) := rfl
  rw [E]
  clear E h
  generalize (r.c : Int) = z at *
  by_cases a1 : 0 ≤ c
  · by_cases a2 : c < z
    · by_cases a3 : 0 ≤ id
      · by_cases a4 : id < 64
        · have b1 : decide (c < 0) = false := by simp; omega
          have b2 : decide (z ≤ c) = false := by simp; omega
          have b3 : decide (id < 0) = false := by simp; omega
          have b4 : decide (63 < id) = false := by simp; omega
          have E : (!(decide (0 ≤ c) && decide (c < z) && decide (0 ≤ id) && decide (id < 64))) = false := by simp [a1, a2, a3, a4]
          rw [E]
          clear a1 a2 a3 a4 E
          go_enter Try.func52, Try.ntmps52
          go_wp2
          go_ret
          exact ⟨rfl, rfl⟩
        · have b1 : decide (c < 0) = false := by simp; omega
          have b2 : decide (z ≤ c) = false := by simp; omega
          have b3 : decide (id < 0) = false := by simp; omega
          have b4 : decide (63 < id) = true := by simp; omega
          have E : (!(decide (0 ≤ c) && decide (c < z) && decide (0 ≤ id) && decide (id < 64))) = true := by simp [a4]
          rw [E]
          clear a1 a2 a3 a4 E
          go_enter Try.func52, Try.ntmps52
          go_wp2
          go_ret
          exact ⟨rfl, rfl⟩
      · have b1 : decide (c < 0) = false := by simp; omega
        have b2 : decide (z ≤ c) = false := by simp; omega
        have b3 : decide (id < 0) = true := by simp; omega
        have E : (!(decide (0 ≤ c) && decide (c < z) && decide (0 ≤ id) && decide (id < 64))) = true := by simp [a3]
        rw [E]
        clear a1 a2 a3 E
        go_enter Try.func52, Try.ntmps52
        go_wp2
        go_ret
        exact ⟨rfl, rfl⟩
    · have b1 : decide (c < 0) = false := by simp; omega
      have b2 : decide (z ≤ c) = true := by simp; omega
      have E : (!(decide (0 ≤ c) && decide (c < z) && decide (0 ≤ id) && decide (id < 64))) = true := by simp [a2]
      rw [E]
      clear a1 a2 E
      go_enter Try.func52, Try.ntmps52
      go_wp2
      go_ret
      exact ⟨rfl, rfl⟩
  · have b1 : decide (c < 0) = true := by simp; omega
    have E : (!(decide (0 ≤ c) && decide (c < z) && decide (0 ≤ id) && decide (id < 64))) = true := by simp [a1]
    rw [E]
    clear a1 E
    go_enter Try.func52, Try.ntmps52
    go_wp2
    go_ret
    exact ⟨rfl, rfl⟩
theorem rof_ok (rb : Nat) (L : Lay) (r : RS) (c id : Nat) (w : World) (h : RefAt w rb L r) (hc : c < r.c) (hi : id < 64) : Calls Try.prog 55 #[.pointer (some ⟨rb, 0, none⟩), .int .i64 (c : Int), .int .i64 (id : Int)] w fun e w' => e = .returned (.pointer (some ⟨spB L c id, spO L c id, none⟩)) ∧ w = w' := by
  by_cases e : id < 32
  · have hB : spB L c id = L.ib c := by unfold spB; rw [if_pos e]
    have hO : spO L c id = L.io c + id * 8 := by unfold spO; rw [if_pos e]
    have c1 := h.own_c
    have c2 := h.iv_c hc
    have n8 : (r.c : Int) ≤ 8 := by have := h.c8; omega
    have cn : (c : Int) < (r.c : Int) := by omega
    have d1 : decide ((id : Int) ≥ 32) = false := by simp; omega
    have d2 : (id : Int) < 32 := by omega
    rw [hB, hO]
    unfold Lay.iv at c2
    clear h hc hi e hB hO
    go_enter Try.func55, Try.ntmps55
    go_wp2
    go_ret
    exact ⟨rfl, rfl⟩
  · obtain ⟨k, rfl⟩ : ∃ k, id = k + 32 := ⟨id - 32, by omega⟩
    have hB : spB L c (k + 32) = L.sb := by unfold spB; rw [if_neg e]
    have hO : spO L c (k + 32) = L.so + k * 8 := by unfold spO; rw [if_neg e, Nat.add_sub_cancel]
    have c1 := h.sh_c
    have d3 : (k : Int) < 32 := by omega
    have e1 : ((k + 32 : Nat) : Int) = (k : Int) + 32 := by omega
    have e2 : (k : Int) + 32 - 32 = (k : Int) := by omega
    rw [hB, hO, e1]
    clear h hc hi e hB hO e1
    go_enter Try.func55, Try.ntmps55
    go_wp2
    go_ret
    exact ⟨rfl, rfl⟩
theorem rpend_ok (b o : Nat) (la hi : Bool) (w : World) (h1 : w.cell? ⟨b, o + 1, none⟩ = some (.bool la)) (h2 : w.cell? ⟨b, o + 2, none⟩ = some (.bool hi)) : Calls Try.prog 56 #[.pointer (some ⟨b, o, none⟩)] w fun e w' => e = .returned (.bool (la || hi)) ∧ w = w' := by
  cases la
  all_goals
    go_enter Try.func56, Try.ntmps56
    go_wp2
    go_ret
    exact ⟨by simp, rfl⟩
end Go.Proofs.Ytpgelocofoidnaa
