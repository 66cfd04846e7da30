/- Arrays of bools that a law keeps beside a controller. -/
import Derived.Test.YtpgelocofoidnaaGpl
set_option linter.unusedSimpArgs false
set_option linter.unusedSectionVars false
namespace Go.Proofs.Ytpgelocofoidnaa
open Go.RowKit
set_option linter.unusedVariables false
set_option maxRecDepth 100000

def barr (n : Nat) (f : Nat → Bool) : List Value := (List.range n).map fun j => .bool (f j)
theorem barr_length (n : Nat) (f : Nat → Bool) : (barr n f).length = n := by simp [barr]
theorem barr_get {n : Nat} (f : Nat → Bool) {k : Nat} (h : k < n) : (barr n f)[k]? = some (.bool (f k)) := by simp [barr, h]
theorem barr_set {n : Nat} (f : Nat → Bool) {k : Nat} (h : k < n) (v : Bool) : (barr n f).set k (.bool v) = barr n (upd f k v) := by
  apply List.ext_getElem (by simp [barr])
  intro i h1 h2
  simp [barr] at h1
  by_cases e : i = k
  · subst e
    simp [barr, upd]
  · rw [List.getElem_set_ne (by omega)]
    simp [barr, upd, e]
theorem barr_congr {n : Nat} {f g : Nat → Bool} (h : ∀ k, k < n → f k = g k) : barr n f = barr n g := by
  unfold barr
  exact List.map_congr_left fun k hk => by rw [h k (by simpa using hk)]
theorem Blk.bget {w : World} {b : Nat} {t : TypeId} {n : Nat} {f : Nat → Bool} (h : Blk w b t (barr n f).toArray) {k : Nat} (hk : k < n) : w.cell? ⟨b, k, none⟩ = some (.bool (f k)) := h.cellv (by rw [List.getElem?_toArray, barr_get f hk])
theorem Blk.bset {w : World} {b : Nat} {t : TypeId} {n : Nat} {f : Nat → Bool} (h : Blk w b t (barr n f).toArray) {k : Nat} (hk : k < n) (v : Bool) : Blk (w.setCell ⟨b, k, none⟩ (.bool v)) b t (barr n (upd f k v)).toArray :=
  blk_list h (barr_set f hk v)
theorem Gk.frK {K S : Nat → Prop} {w w' : World} {gb : Nat} {s : GS} (h : Gk K w gb s) (hf : Fr S w w') (hs : ∀ k, S k → K k) : Gk K w' gb s := by
  obtain ⟨cb, av, h1, h2⟩ := h.mem
  exact ⟨⟨cb, av, h1.fr hf fun k hk hk' => h2 k hk (hs k hk'), h2⟩, fun k hk => Nat.lt_of_lt_of_le (h.lt k hk) hf.size, h.c8, h.c1⟩
theorem Gk.setK {K : Nat → Prop} {w : World} {gb : Nat} {s : GS} (h : Gk K w gb s) {b : Nat} (hb : K b) (i : Nat) (v : Value) : Gk K (w.setCell ⟨b, i, none⟩ v) gb s :=
  h.frK (Fr.set1 (Fr.refl (One b) w) v) fun k hk => by rw [show k = b from hk]; exact hb
theorem tell_nat (s : GS) (f : I → Bool) {c id : Nat} (h1 : c < s.c) (h2 : id < 64) : s.tellB f (c : Int) (id : Int) = f (s.get c id) := by
  unfold GS.tellB
  rw [okI_of h1 h2, Bool.true_and, Int.toNat_natCast, Int.toNat_natCast]
theorem limit_nat (s : GS) {c : Nat} (h1 : c < s.c) : s.limit (c : Int) = s.lim c := by
  have ht : thereB s (c : Int) = true := by simp [thereB]; omega
  unfold GS.limit
  rw [if_pos ht, Int.toNat_natCast]
theorem run_nat (s : GS) {c : Nat} (h1 : c < s.c) : s.run (c : Int) = runl (s.at_ c) := by
  have ht : thereB s (c : Int) = true := by simp [thereB]; omega
  unfold GS.run
  rw [if_pos ht, Int.toNat_natCast]
theorem rate_nat (s : GS) {c id : Nat} (h1 : c < s.c) (h2 : id < 64) : s.rate (c : Int) (id : Int) = (s.get c id).rk := by
  unfold GS.rate
  rw [if_pos (okI_of h1 h2), Int.toNat_natCast, Int.toNat_natCast]
theorem runl_append (l : List Mo) (m : Mo) : runl (l ++ [m]) = min (runl l) m.1 := by simp [runl]
theorem take_get (s : GS) (c b : Nat) : (s.take c b).get c b = { s.get c b with la := false, ac := true } := by
  have h := GS.get_put s c b { s.get c b with la := false, ac := true }
  unfold GS.take GS.get at *
  exact h
theorem take_at (s : GS) (c b : Nat) : (s.take c b).at_ c = s.at_ c ++ [((s.get c b).rk, (b : Int))] := by
  unfold GS.take
  exact upd_same _ _ _
end Go.Proofs.Ytpgelocofoidnaa
