/- Putting things in order: memory. -/
import Derived.Test.YtpcpjmbfinpmlaaDoorOpl
set_option linter.unusedSimpArgs false
set_option linter.unusedVariables false
set_option linter.unusedSectionVars false
namespace Go.Proofs.YtpcpjmbfinpmlaaDoor
open Go.RowKit
set_option maxRecDepth 100000

/-- An array of integers. -/
def iarr (n : Nat) (f : Nat → Int) : List Value := (List.range n).map fun j => .int .i64 (f j)
theorem iarr_get {n : Nat} (f : Nat → Int) {k : Nat} (h : k < n) : (iarr n f)[k]? = some (.int .i64 (f k)) := by simp [iarr, h]
theorem iarr_set {n : Nat} (f : Nat → Int) {k : Nat} (h : k < n) (v : Int) : (iarr n f).set k (.int .i64 v) = iarr n (upd f k v) := by
  apply List.ext_getElem (by simp [iarr])
  intro i h1 h2
  simp [iarr] at h1
  by_cases e : i = k
  · subst e
    simp [iarr, upd]
  · rw [List.getElem_set_ne (by omega)]
    simp [iarr, upd, e]
theorem iarr_congr {n : Nat} {f g : Nat → Int} (h : ∀ k, k < n → f k = g k) : iarr n f = iarr n g := by
  unfold iarr
  exact List.map_congr_left fun k hk => by rw [h k (by simpa using hk)]
theorem Blk.iget {w : World} {b : Nat} {t : TypeId} {n : Nat} {f : Nat → Int} (h : Blk w b t (iarr n f).toArray) {k : Nat} (hk : k < n) : w.cell? ⟨b, k, none⟩ = some (.int .i64 (f k)) := h.cellv (by rw [List.getElem?_toArray, iarr_get f hk])
theorem Blk.iset {w : World} {b : Nat} {t : TypeId} {n : Nat} {f : Nat → Int} (h : Blk w b t (iarr n f).toArray) {k : Nat} (hk : k < n) (v : Int) : Blk (w.setCell ⟨b, k, none⟩ (.int .i64 v)) b t (iarr n (upd f k v)).toArray :=
  blk_list h (iarr_set f hk v)
def idl (L : List Nat) : List Value := L.map fun (x : Nat) => .int .i64 (x : Int)
/-- What Order keeps in memory: the counts, the heap, the list. -/
structure Om (w wr : World) (A q : Nat) (v : Value) (m : Nat) (V : Nat → Int) (f : Nat → Int) (lv : Value) (L : List Nat) : Prop where
  top : Blk wr A 71 #[v]
  win : Win wr 3 1 v m (rows (mo V) m)
  arr : Blk wr q 70 (iarr 64 f).toArray
  lst : Win wr 3 1 lv L.length (idl L)
  fr : Fr Nil w wr
  own : ∀ g, v.ownBlock = some g → w.heap.size ≤ g
  lown : ∀ g, lv.ownBlock = some g → w.heap.size ≤ g
  sep : ∀ g, v.ownBlock = some g → lv.ownBlock ≠ some g
  aq : w.heap.size ≤ A ∧ w.heap.size ≤ q
section
variable {w wr w2 : World} {A q m : Nat} {v lv : Value} {V : Nat → Int} {f : Nat → Int} {L : List Nat}
theorem Om.neAq (h : Om w wr A q v m V f lv L) : A ≠ q := h.top.ne_ h.arr (by decide)
theorem Om.still (h : Om w wr A q v m V f lv L) (k : Fr Nil wr w2) : Om w w2 A q v m V f lv L :=
  ⟨h.top.fr0 k, h.win.fr k fun _ _ => id, h.arr.fr0 k, h.lst.fr k fun _ _ => id, h.fr.trans k, h.own, h.lown, h.sep, h.aq⟩
theorem Om.push {x : Int} {e : Ending} (h : Om w wr A q v m V f lv L) (hp : PushTo wr A m v V x e w2) :
    e = .returned (.tuple #[]) ∧ ∃ v' V', Om w w2 A q v' (m + 1) V' f lv L ∧ Hp ltM V' 0 (m + 1) ∧ Perm (m + 1) (upd V m x) V' := by
  obtain ⟨he, g, off, cap, V', k, b, wn, ow, hp, pm⟩ := hp
  have n1 : v.ownBlock ≠ some q := h.win.ne h.arr (by decide)
  have n2 : lv.ownBlock ≠ some A := h.lst.ne h.top (by decide)
  refine ⟨he, _, V', ⟨b, wn, h.arr.fr k fun e => ?_, h.lst.fr k fun g' hg e => ?_, h.fr.step k fun i hi hs => ?_, fun g' hg => ?_, h.lown, fun g' hg hl => ?_, h.aq⟩, hp, pm⟩
  · rcases e with e | e
    · exact h.neAq e.symm
    · exact n1 e
  · rcases e with e | e
    · exact n2 (by rw [hg, e])
    · exact h.sep g' e hg
  · rcases hs with e | e
    · exact .inr (by have := h.aq.1; omega)
    · exact .inr (h.own _ e)
  · obtain rfl : g = g' := Option.some.inj hg
    rcases ow with e | e
    · exact h.own _ e
    · exact Nat.le_trans h.fr.size e
  · obtain rfl : g = g' := Option.some.inj hg
    rcases ow with e | e
    · exact h.sep _ e hl
    · have := h.lst.lt hl
      omega
theorem Om.pop {g off cap : Nat} {e : Ending} (h : Om w wr A q (.slice (some ⟨g, off, none⟩) (m + 1) cap) (m + 1) V f lv L) (hp : PopTo wr A g off m cap V e w2) :
    e = .returned (.iface 3 (.int .i64 (V 0))) ∧ ∃ V', Om w w2 A q (.slice (some ⟨g, off, none⟩) m cap) m V' f lv L ∧ Hp ltM V' 0 m ∧ Perm m (swp V 0 m) V' := by
  obtain ⟨he, k, V', b, wn, hp, pm⟩ := hp
  have n1 : (Value.slice (some ⟨g, off, none⟩) (m + 1) cap).ownBlock ≠ some q := h.win.ne h.arr (by decide)
  have n2 : lv.ownBlock ≠ some A := h.lst.ne h.top (by decide)
  refine ⟨he, V', ⟨b, wn, h.arr.fr k fun e => ?_, h.lst.fr k fun g' hg e => ?_, h.fr.step k fun i hi hs => ?_, fun g' hg => ?_, h.lown, fun g' hg hl => ?_, h.aq⟩, hp, pm⟩
  · rcases e with e | e
    · exact h.neAq e.symm
    · exact n1 (by rw [e]; rfl)
  · rcases e with e | e
    · exact n2 (by rw [hg, e])
    · exact h.sep g (by rfl) (by rw [hg, e])
  · rcases hs with e | e
    · exact .inr (by have := h.aq.1; omega)
    · exact .inr (h.own _ (by rw [e]; rfl))
  · obtain rfl : g = g' := Option.some.inj hg
    exact h.own _ rfl
  · obtain rfl : g = g' := Option.some.inj hg
    exact h.sep _ rfl hl
theorem Om.set_ (h : Om w wr A q v m V f lv L) {k : Nat} (hk : k < 64) (x : Int) : Om w (wr.setCell ⟨q, k, none⟩ (.int .i64 x)) A q v m V (upd f k x) lv L := by
  have n1 : v.ownBlock ≠ some q := h.win.ne h.arr (by decide)
  have n2 : lv.ownBlock ≠ some q := h.lst.ne h.arr (by decide)
  exact ⟨h.top.farc h.neAq _, h.win.far n1 _, h.arr.iset hk x, h.lst.far n2 _, h.fr.setNew h.aq.2 _, h.own, h.lown, h.sep, h.aq⟩
theorem Om.arrc {g : Nat → Int} (h : Om w wr A q v m V f lv L) (e : ∀ k, k < 64 → f k = g k) : Om w wr A q v m V g lv L :=
  ⟨h.top, h.win, by rw [← iarr_congr e]; exact h.arr, h.lst, h.fr, h.own, h.lown, h.sep, h.aq⟩
theorem Om.app {lv2 : Value} {L2 : List Nat} (h : Om w wr A q v m V f lv L) (hw : Win w2 3 1 lv2 L2.length (idl L2)) (hg : wr.grownBy w2 lv.ownBlock) (ho : ∀ k, lv2.ownBlock = some k → lv.ownBlock = some k ∨ wr.heap.size ≤ k) : Om w w2 A q v m V f lv2 L2 := by
  have n1 : lv.ownBlock ≠ some A := h.lst.ne h.top (by decide)
  have n2 : lv.ownBlock ≠ some q := h.lst.ne h.arr (by decide)
  refine ⟨h.top.grown hg fun e => n1 e.symm, h.win.grown hg ?_, h.arr.grown hg fun e => n2 e.symm, hw, h.fr.grown hg fun k hk => .inr (h.lown k hk), h.own, fun g hg' => ?_, fun g hg' hl => ?_, h.aq⟩
  · cases hv : v.ownBlock with
    | none => exact .inl rfl
    | some g => exact .inr fun e => h.sep g hv e.symm
  · rcases ho g hg' with e | e
    · exact h.lown g e
    · exact Nat.le_trans h.fr.size e
  · rcases ho g hl with e | e
    · exact h.sep g hg' e
    · have := h.win.lt hg'
      omega
end
end Go.Proofs.YtpcpjmbfinpmlaaDoor
