/- The interrupt controller in memory. -/
import Derived.Test.YtnmakbippgnekaaPsh
set_option linter.unusedSimpArgs false
set_option linter.unusedSectionVars false
namespace Go.Proofs.Ytnmakbippgnekaa
open Go.RowKit
set_option linter.unusedVariables false
set_option maxRecDepth 100000

structure I where
  en : Bool
  la : Bool
  hi : Bool
  ac : Bool
  rk : Int
  dst : Int
def ic (x : I) : List Value := [.bool x.en, .bool x.la, .bool x.hi, .bool x.ac, .int .i64 x.rk, .int .i64 x.dst]
structure GS where
  c : Nat
  own : Nat → Nat → I
  sh : Nat → I
  lim : Nat → Int
  at_ : Nat → List Mo
def irow (f : Nat → I) : List Value := rows (fun k => ic (f k)) 32
def crow (f : Nat → I) (l : Int) (v : Value) : List Value := irow f ++ [.int .i64 l, v]
def wks (l : List Mo) : List Value := l.flatMap fun m => [.int .i64 m.2, .int .i64 m.1]
def gcs (cb : Nat) (s : GS) : List Value := [.slice (some ⟨cb, 0, none⟩) s.c s.c] ++ irow s.sh
def ccs (av : Nat → Value) (s : GS) : List Value := rows (fun i => crow (s.own i) (s.lim i) (av i)) s.c
theorem ic_length (x : I) : (ic x).length = 6 := rfl
theorem irow_length (f : Nat → I) : (irow f).length = 192 := rows_length _ 6 (fun _ => rfl) 32
theorem crow_length (f : Nat → I) (l : Int) (v : Value) : (crow f l v).length = 194 := by rw [crow, List.length_append, irow_length]; rfl
theorem irow_get (f : Nat → I) {k j : Nat} (hk : k < 32) (hj : j < 6) : (irow f)[k * 6 + j]? = (ic (f k))[j]? := rows_get _ 6 (fun _ => rfl) hk hj
theorem irow_set (f : Nat → I) {k j : Nat} (hk : k < 32) (hj : j < 6) {u : Value} {y : I} (hy : (ic (f k)).set j u = ic y) : (irow f).set (k * 6 + j) u = irow (upd f k y) := by
  unfold irow
  rw [rows_set _ 6 (fun _ => rfl) hk hj, hy]
  exact rows_congr fun i hi => by
    by_cases e : i = k
    · subst e; rw [upd_same, upd_same]
    · rw [upd_other _ _ e, upd_other _ _ e]
theorem gcs_get {cb : Nat} {s : GS} {k j : Nat} (hk : k < 32) (hj : j < 6) : (gcs cb s)[1 + k * 6 + j]? = (ic (s.sh k))[j]? := by
  unfold gcs
  rw [List.getElem?_append_right (by simp; omega)]
  have : 1 + k * 6 + j - [Value.slice (some ⟨cb, 0, none⟩) s.c s.c].length = k * 6 + j := by simp; omega
  rw [this, irow_get s.sh hk hj]
theorem gcs_set {cb : Nat} {s : GS} {k j : Nat} (hk : k < 32) (hj : j < 6) {u : Value} {y : I} (hy : (ic (s.sh k)).set j u = ic y) : (gcs cb s).set (1 + k * 6 + j) u = gcs cb { s with sh := upd s.sh k y } := by
  unfold gcs
  rw [List.set_append_right _ _ (by simp; omega)]
  have : 1 + k * 6 + j - [Value.slice (some ⟨cb, 0, none⟩) s.c s.c].length = k * 6 + j := by simp; omega
  rw [this, irow_set s.sh hk hj hy]
theorem ccs_get {av : Nat → Value} {s : GS} {i j : Nat} (hi : i < s.c) (hj : j < 194) : (ccs av s)[i * 194 + j]? = (crow (s.own i) (s.lim i) (av i))[j]? := rows_get _ 194 (fun _ => crow_length _ _ _) hi hj
theorem ccs_own {av : Nat → Value} {s : GS} {i k j : Nat} (hi : i < s.c) (hk : k < 32) (hj : j < 6) : (ccs av s)[i * 194 + (k * 6 + j)]? = (ic (s.own i k))[j]? := by
  rw [ccs_get hi (by omega), crow, List.getElem?_append_left (by rw [irow_length]; omega), irow_get _ hk hj]
theorem ccs_lim {av : Nat → Value} {s : GS} {i : Nat} (hi : i < s.c) : (ccs av s)[i * 194 + 192]? = some (.int .i64 (s.lim i)) := by
  rw [ccs_get hi (by omega), crow, List.getElem?_append_right (by rw [irow_length]; omega), irow_length]; rfl
theorem ccs_at {av : Nat → Value} {s : GS} {i : Nat} (hi : i < s.c) : (ccs av s)[i * 194 + 193]? = some (av i) := by
  rw [ccs_get hi (by omega), crow, List.getElem?_append_right (by rw [irow_length]; omega), irow_length]; rfl
theorem ccs_set {av : Nat → Value} {s : GS} {i j : Nat} (hi : i < s.c) (hj : j < 194) {u : Value} {f : Nat → I} {l : Int} {v : Value} (h : (crow (s.own i) (s.lim i) (av i)).set j u = crow f l v) :
    (ccs av s).set (i * 194 + j) u = ccs (upd av i v) { s with own := upd s.own i f, lim := upd s.lim i l } := by
  unfold ccs
  rw [rows_set _ 194 (fun _ => crow_length _ _ _) hi hj, h]
  exact rows_congr fun k hk => by
    by_cases e : k = i
    · subst e; simp only [upd_same]
    · simp only [upd_other _ _ e]
theorem upd_id {α : Type} (f : Nat → α) (k : Nat) : upd f k (f k) = f := by
  funext i
  by_cases e : i = k
  · subst e; rw [upd_same]
  · rw [upd_other _ _ e]
theorem ccs_setOwn {av : Nat → Value} {s : GS} {i k j : Nat} (hi : i < s.c) (hk : k < 32) (hj : j < 6) {u : Value} {y : I} (hy : (ic (s.own i k)).set j u = ic y) :
    (ccs av s).set (i * 194 + (k * 6 + j)) u = ccs av { s with own := upd s.own i (upd (s.own i) k y) } := by
  have h : (crow (s.own i) (s.lim i) (av i)).set (k * 6 + j) u = crow (upd (s.own i) k y) (s.lim i) (av i) := by
    unfold crow
    rw [List.set_append_left _ _ (by rw [irow_length]; omega), irow_set _ hk hj hy]
  rw [ccs_set hi (by omega) h, upd_id, upd_id]
theorem ccs_setLim {av : Nat → Value} {s : GS} {i : Nat} (hi : i < s.c) (l : Int) : (ccs av s).set (i * 194 + 192) (.int .i64 l) = ccs av { s with lim := upd s.lim i l } := by
  have h : (crow (s.own i) (s.lim i) (av i)).set 192 (.int .i64 l) = crow (s.own i) l (av i) := by
    unfold crow
    rw [List.set_append_right _ _ (by rw [irow_length]; omega), irow_length]; rfl
  rw [ccs_set hi (by omega) h, upd_id, upd_id]
theorem ccs_setAt {av : Nat → Value} {s : GS} {i : Nat} (hi : i < s.c) (v : Value) : (ccs av s).set (i * 194 + 193) v = ccs (upd av i v) s := by
  have h : (crow (s.own i) (s.lim i) (av i)).set 193 v = crow (s.own i) (s.lim i) v := by
    unfold crow
    rw [List.set_append_right _ _ (by rw [irow_length]; omega), irow_length]; rfl
  rw [ccs_set hi (by omega) h, upd_id, upd_id]
/-- A controller that lies in memory. -/
structure GicAt (w : World) (gb cb : Nat) (av : Nat → Value) (s : GS) : Prop where
  top : Blk w gb 80 (gcs cb s).toArray
  cores : Blk w cb 83 (ccs av s).toArray
  ats : ∀ i, i < s.c → Win w 96 2 (av i) (s.at_ i).length (wks (s.at_ i))
  sep : ∀ i j, i < s.c → j < s.c → i ≠ j → ∀ k, (av i).ownBlock = some k → (av j).ownBlock ≠ some k
def Foot (gb cb : Nat) (av : Nat → Value) (c : Nat) (k : Nat) : Prop := k = gb ∨ k = cb ∨ ∃ i, i < c ∧ (av i).ownBlock = some k
section
variable {w w' : World} {gb cb : Nat} {av : Nat → Value} {s : GS}
theorem GicAt.lt (h : GicAt w gb cb av s) {k : Nat} (hk : Foot gb cb av s.c k) : k < w.heap.size := by
  rcases hk with rfl | rfl | ⟨i, hi, hk⟩
  · exact h.top.lt
  · exact h.cores.lt
  · exact (h.ats i hi).lt hk
theorem GicAt.fr {S : Nat → Prop} (h : GicAt w gb cb av s) (hf : Fr S w w') (hs : ∀ k, Foot gb cb av s.c k → ¬ S k) : GicAt w' gb cb av s :=
  ⟨h.top.fr hf (hs _ (.inl rfl)), h.cores.fr hf (hs _ (.inr (.inl rfl))), fun i hi => (h.ats i hi).fr hf fun k hk => hs k (.inr (.inr ⟨i, hi, hk⟩)), h.sep⟩
theorem GicAt.ne (h : GicAt w gb cb av s) : gb ≠ cb := h.top.ne_ h.cores (by decide)
theorem GicAt.cores_c (h : GicAt w gb cb av s) : w.cell? ⟨gb, 0, none⟩ = some (.slice (some ⟨cb, 0, none⟩) s.c s.c) := h.top.cellv (by simp [gcs])
theorem GicAt.sh_c (h : GicAt w gb cb av s) {k j : Nat} {v : Value} (hk : k < 32) (hj : j < 6) (hv : (ic (s.sh k))[j]? = some v) : w.cell? ⟨gb, 1 + k * 6 + j, none⟩ = some v := h.top.cellv (by rw [List.getElem?_toArray, gcs_get hk hj, hv])
theorem GicAt.own_c (h : GicAt w gb cb av s) {i k j : Nat} {v : Value} (hi : i < s.c) (hk : k < 32) (hj : j < 6) (hv : (ic (s.own i k))[j]? = some v) : w.cell? ⟨cb, i * 194 + (k * 6 + j), none⟩ = some v := h.cores.cellv (by rw [List.getElem?_toArray, ccs_own hi hk hj, hv])
theorem GicAt.lim_c (h : GicAt w gb cb av s) {i : Nat} (hi : i < s.c) : w.cell? ⟨cb, i * 194 + 192, none⟩ = some (.int .i64 (s.lim i)) := h.cores.cellv (by rw [List.getElem?_toArray, ccs_lim hi])
theorem GicAt.at_c (h : GicAt w gb cb av s) {i : Nat} (hi : i < s.c) : w.cell? ⟨cb, i * 194 + 193, none⟩ = some (av i) := h.cores.cellv (by rw [List.getElem?_toArray, ccs_at hi])
theorem GicAt.ats_gb (h : GicAt w gb cb av s) {i : Nat} (hi : i < s.c) : (av i).ownBlock ≠ some gb := (h.ats i hi).ne h.top (by decide)
theorem GicAt.ats_cb (h : GicAt w gb cb av s) {i : Nat} (hi : i < s.c) : (av i).ownBlock ≠ some cb := (h.ats i hi).ne h.cores (by decide)
theorem blk_list {g : Nat} {t : TypeId} {l l' : List Value} {o : Nat} {u : Value} (h : Blk w g t l.toArray) (e : l.set o u = l') : Blk (w.setCell ⟨g, o, none⟩ u) g t l'.toArray := by
  have := h.set_ o u
  rw [List.setIfInBounds_toArray, e] at this
  exact this
theorem GicAt.setSh (h : GicAt w gb cb av s) {k j : Nat} (hk : k < 32) (hj : j < 6) {u : Value} {y : I} (hy : (ic (s.sh k)).set j u = ic y) : GicAt (w.setCell ⟨gb, 1 + k * 6 + j, none⟩ u) gb cb av { s with sh := upd s.sh k y } :=
  ⟨blk_list h.top (gcs_set hk hj hy), h.cores.farc (Ne.symm h.ne) u, fun i hi => (h.ats i hi).far (h.ats_gb hi) u, h.sep⟩
theorem GicAt.setOwn (h : GicAt w gb cb av s) {i k j : Nat} (hi : i < s.c) (hk : k < 32) (hj : j < 6) {u : Value} {y : I} (hy : (ic (s.own i k)).set j u = ic y) : GicAt (w.setCell ⟨cb, i * 194 + (k * 6 + j), none⟩ u) gb cb av { s with own := upd s.own i (upd (s.own i) k y) } :=
  ⟨h.top.farc h.ne u, blk_list h.cores (ccs_setOwn hi hk hj hy), fun i hi => (h.ats i hi).far (h.ats_cb hi) u, h.sep⟩
theorem GicAt.setLim (h : GicAt w gb cb av s) {i : Nat} (hi : i < s.c) (l : Int) : GicAt (w.setCell ⟨cb, i * 194 + 192, none⟩ (.int .i64 l)) gb cb av { s with lim := upd s.lim i l } :=
  ⟨h.top.farc h.ne _, blk_list h.cores (ccs_setLim hi l), fun i hi => (h.ats i hi).far (h.ats_cb hi) _, h.sep⟩
end
theorem GicAt.newAt {w w2 : World} {gb cb : Nat} {av : Nat → Value} {s : GS} (h : GicAt w gb cb av s) {i : Nat} (hi : i < s.c) {l : List Mo} {v : Value} (f : Fr (fun k => (av i).ownBlock = some k) w w2) (hw : Win w2 96 2 v l.length (wks l))
    (ho : ∀ k, v.ownBlock = some k → (av i).ownBlock = some k ∨ w.heap.size ≤ k) : GicAt (w2.setCell ⟨cb, i * 194 + 193, none⟩ v) gb cb (upd av i v) { s with at_ := upd s.at_ i l } := by
  have n1 : ¬ (av i).ownBlock = some gb := h.ats_gb hi
  have n2 : ¬ (av i).ownBlock = some cb := h.ats_cb hi
  refine ⟨(h.top.fr f n1).farc h.ne _, blk_list (h.cores.fr f n2) (ccs_setAt hi v), fun j hj => ?_, fun j k hj hk hne b hb hb2 => ?_⟩
  · by_cases e : j = i
    · subst e
      simp only [upd_same]
      exact hw.far (fun hb => (ho _ hb).elim n2 fun h2 => by have := h.cores.lt; omega) _
    · simp only [upd_other _ _ e]
      exact ((h.ats j hj).fr f fun k hk hi2 => h.sep j i hj hi e k hk hi2).far (h.ats_cb hj) _
  · by_cases e : j = i
    · subst e
      rw [upd_same] at hb
      rw [upd_other _ _ (Ne.symm hne)] at hb2
      rcases ho _ hb with h1 | h1
      · exact h.sep j k hj hk hne b h1 hb2
      · have := (h.ats k hk).lt hb2
        omega
    · rw [upd_other _ _ e] at hb
      by_cases e2 : k = i
      · subst e2
        rw [upd_same] at hb2
        rcases ho _ hb2 with h1 | h1
        · exact h.sep j k hj hk hne b hb h1
        · have := (h.ats j hj).lt hb
          omega
      · rw [upd_other _ _ e2] at hb2
        exact h.sep j k hj hk hne b hb hb2
/-- A controller that a law has made, beside what it keeps (K). -/
structure Gk (K : Nat → Prop) (w : World) (gb : Nat) (s : GS) : Prop where
  mem : ∃ cb av, GicAt w gb cb av s ∧ ∀ k, Foot gb cb av s.c k → ¬ K k
  lt : ∀ k, K k → k < w.heap.size
  c8 : s.c ≤ 8
  c1 : 1 ≤ s.c
def Not (K : Nat → Prop) : Nat → Prop := fun k => ¬ K k
theorem Gk.still {K : Nat → Prop} {w w' : World} {gb : Nat} {s : GS} (h : Gk K w gb s) (hf : Fr Nil w w') : Gk K w' gb s := by
  obtain ⟨cb, av, h1, h2⟩ := h.mem
  exact ⟨⟨cb, av, h1.fr hf fun _ _ => id, h2⟩, fun k hk => Nat.lt_of_lt_of_le (h.lt k hk) hf.size, h.c8, h.c1⟩
/-- What leaves it as it is; what turns it. -/
def Tn (K : Nat → Prop) (gb : Nat) (w : World) (s' : GS) (v : Value) (e : Ending) (w' : World) : Prop := e = .returned v ∧ Gk K w' gb s' ∧ Fr (Not K) w w'
theorem Fr.not {K : Nat → Prop} {w w' : World} (h : Fr Nil w w') : Fr (Not K) w w' := h.nil
def ptr (b : Nat) : Value := .pointer (some ⟨b, 0, none⟩)
/-- Is it a core, an interrupt? -/
def thereB (s : GS) (c : Int) : Bool := decide (0 ≤ c) && decide (c < (s.c : Int))
theorem there_ok (gb cb : Nat) (av : Nat → Value) (s : GS) (c : Int) (w : World) (h : GicAt w gb cb av s) (hc : s.c ≤ 8) : Calls Try.prog 41 #[.pointer (some ⟨gb, 0, none⟩), .int .i64 c] w fun e w' => e = .returned (.bool (thereB s c)) ∧ w = w' := by
  have c0 := h.cores_c
  have n8 : (s.c : Int) ≤ 8 := by omega
  have E : thereB s c = (decide (0 ≤ c) && decide (c < (s.c : Int))) := rfl
  have HE := Lib.hid E
  clear E h hc
  generalize thereB s c = b at *
  go_enter Try.func41, Try.ntmps41
  go_wp2
  all_goals
    go_ret
    rw [HE.out]
    exact ⟨by simp [*] <;> omega, rfl⟩
end Go.Proofs.Ytnmakbippgnekaa
