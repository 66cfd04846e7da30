/- Putting things in order: the walk. -/
import Derived.Test.YtpcpjmbfinpmlaaDoorOmm
import Derived.StillTailTactics
set_option linter.unusedSimpArgs false
set_option linter.unusedVariables false
set_option linter.unusedSectionVars false
namespace Go.Proofs.YtpcpjmbfinpmlaaDoor
open Go.RowKit
set_option maxRecDepth 100000

/-- The counts while a row is gone through. -/
def gT (r : Rn) (L : List Nat) (a t b : Nat) : Nat := if b < t then wts r (L ++ [a]) b else wts r L b
def FT (r : Rn) (n : Nat) (L : List Nat) (a t x : Nat) : Prop := x < n ∧ x ∉ L ++ [a] ∧ gT r L a t x = 0
section
variable {r : Rn} {n a : Nat} {L : List Nat}
theorem wts_same (ha : a < 64) (hn : a ∉ L) {b : Nat} (hr : r a b = false) : wts r (L ++ [a]) b = wts r L b := by
  have := wts_app (r := r) ha hn b
  rw [hr] at this
  simpa using this
theorem wts_less (ha : a < 64) (hn : a ∉ L) {b : Nat} (hr : r a b = true) : wts r L b = wts r (L ++ [a]) b + 1 := by
  have := wts_app (r := r) ha hn b
  rw [hr] at this
  simpa using this.symm
theorem gT_skip (ha : a < 64) (hn : a ∉ L) {t u : Nat} (htu : t ≤ u) (h : ∀ i, t ≤ i → i < u → r a i = false) (b : Nat) : gT r L a t b = gT r L a u b := by
  unfold gT
  by_cases h1 : b < t
  · rw [if_pos h1, if_pos (by omega)]
  · rw [if_neg h1]
    by_cases h2 : b < u
    · rw [if_pos h2, wts_same ha hn (h b (by omega) h2)]
    · rw [if_neg h2]
theorem gT_next (u : Nat) : gT r L a (u + 1) = upd (gT r L a u) u (wts r (L ++ [a]) u) := by
  funext b
  unfold gT upd
  by_cases e : b = u
  · subst e
    rw [if_pos (by omega), if_pos rfl]
  · rw [if_neg e]
    have : (b < u + 1) = (b < u) := by apply propext; omega
    simp only [this]
theorem gT_zero (b : Nat) : gT r L a 0 b = wts r L b := by
  unfold gT
  rw [if_neg (by omega)]
theorem FT_congr {t u : Nat} (h : ∀ b, b < n → gT r L a t b = gT r L a u b) (x : Nat) : FT r n L a t x ↔ FT r n L a u x := by
  unfold FT
  constructor
  · rintro ⟨h1, h2, h3⟩
    exact ⟨h1, h2, by rw [← h x h1]; exact h3⟩
  · rintro ⟨h1, h2, h3⟩
    exact ⟨h1, h2, by rw [h x h1]; exact h3⟩
theorem FT_start (x : Nat) : (Free r n L x ∧ x ≠ a) ↔ FT r n L a 0 x := by
  unfold Free FT
  rw [gT_zero, List.mem_append, List.mem_singleton]
  constructor
  · rintro ⟨⟨h1, h2, h3⟩, h4⟩
    exact ⟨h1, fun h => h.elim h2 h4, h3⟩
  · rintro ⟨h1, h2, h3⟩
    exact ⟨⟨h1, fun h => h2 (.inl h), h3⟩, fun h => h2 (.inr h)⟩
theorem FT_end (ha : a < 64) (hn : a ∉ L) (h64 : n ≤ 64) {t : Nat} (h : ∀ i, t ≤ i → i < 64 → r a i = false) (x : Nat) : FT r n L a t x ↔ Free r n (L ++ [a]) x := by
  unfold FT Free
  have e : ∀ x, x < n → gT r L a t x = wts r (L ++ [a]) x := fun x hx => by
    unfold gT
    by_cases h1 : x < t
    · rw [if_pos h1]
    · rw [if_neg h1, wts_same ha hn (h x (by omega) (by omega))]
  constructor
  · rintro ⟨h1, h2, h3⟩
    exact ⟨h1, h2, by rw [← e x h1]; exact h3⟩
  · rintro ⟨h1, h2, h3⟩
    exact ⟨h1, h2, by rw [e x h1]; exact h3⟩
theorem gT_end (ha : a < 64) (hn : a ∉ L) {t : Nat} (h : ∀ i, t ≤ i → i < 64 → r a i = false) (x : Nat) (hx : x < 64) : gT r L a t x = wts r (L ++ [a]) x := by
  unfold gT
  by_cases h1 : x < t
  · rw [if_pos h1]
  · rw [if_neg h1, wts_same ha hn (h x (by omega) hx)]
/-- The next of the row. -/
theorem FT_step (hok : ∀ a c, r a c = true → a < n ∧ c < n) (h64 : n ≤ 64) (ho : Ords r n L) (hl : Least r n L a) {u : Nat} (hu : r a u = true) :
    gT r L a u u = wts r (L ++ [a]) u + 1 ∧ ¬ FT r n L a u u ∧ (wts r (L ++ [a]) u = 0 → ∀ x, (FT r n L a u x ∨ x = u) ↔ FT r n L a (u + 1) x) ∧ (wts r (L ++ [a]) u ≠ 0 → ∀ x, FT r n L a u x ↔ FT r n L a (u + 1) x) := by
  have ha : a < 64 := by have := hl.1.1; omega
  have hn : a ∉ L := hl.1.2.1
  have e1 : gT r L a u u = wts r (L ++ [a]) u + 1 := by
    unfold gT
    rw [if_neg (by omega)]
    exact wts_less ha hn hu
  have e2 : ∀ x, x ≠ u → gT r L a (u + 1) x = gT r L a u x := fun x hx => by rw [gT_next, upd_other _ _ hx]
  have e3 : gT r L a (u + 1) u = wts r (L ++ [a]) u := by rw [gT_next, upd_same]
  have hnu : u ∉ L ++ [a] := by
    intro hm
    rcases List.mem_append.1 hm with h | h
    · have h0 := ho.lt.2.2 u h
      have := wts_less ha hn hu
      omega
    · obtain rfl := List.mem_singleton.1 h
      have h0 := hl.1.2.2
      have := wts_less ha hn hu
      omega
  have hun := (hok a u hu).2
  refine ⟨e1, fun h => ?_, fun h0 x => ⟨?_, ?_⟩, fun h0 x => ⟨?_, ?_⟩⟩
  · have := h.2.2
    omega
  · rintro (⟨h1, h2, h3⟩ | rfl)
    · by_cases e : x = u
      · subst e; exact ⟨h1, h2, by rw [e3]; exact h0⟩
      · exact ⟨h1, h2, by rw [e2 x e]; exact h3⟩
    · exact ⟨hun, hnu, by rw [e3]; exact h0⟩
  · rintro ⟨h1, h2, h3⟩
    by_cases e : x = u
    · exact .inr e
    · exact .inl ⟨h1, h2, by rw [← e2 x e]; exact h3⟩
  · rintro ⟨h1, h2, h3⟩
    by_cases e : x = u
    · subst e; omega
    · exact ⟨h1, h2, by rw [e2 x e]; exact h3⟩
  · rintro ⟨h1, h2, h3⟩
    by_cases e : x = u
    · subst e; rw [e3] at h3; exact absurd h3 h0
    · exact ⟨h1, h2, by rw [← e2 x e]; exact h3⟩
end
def sln : Value → Nat
  | .slice _ n _ => n
  | _ => 0
def OrderTo (w : World) (r : Rn) (n : Nat) (e : Ending) (w' : World) : Prop :=
  ∃ L, OrdF r n L ∧ Fr Nil w w' ∧ ((L.length < n ∧ e = .returned (.tuple #[.slice none 0 0, .bool false])) ∨ (L.length = n ∧ ∃ aa cap, e = .returned (.tuple #[.slice aa L.length cap, .bool true]) ∧ Lst w w' 3 1 (.slice aa L.length cap) L.length (idl L)))
set_option maxHeartbeats 1000000 in
theorem order_ok (b n : Nat) (r : Rn) (w : World) (h : RelAt w b n r) (hT : Tab w) : Calls Tryd.prog 20 #[.pointer (some ⟨b, 0, none⟩)] w (OrderTo w r n) := by
  have HB := Lib.hid h
  have HT := Lib.hid hT
  have N64 := Lib.hid h.n64
  have OK0 := Lib.hid h.ok
  have LM := Lib.hid (fun (p : Nat × Nat) (hp : p ∈ prs r) => (h.ok p.1 p.2 (mem_prs.1 hp).2.2).2)
  have LW := Lib.hid (fun (x : Nat) (hx : x < 64) => wts_first r (b := x) hx)
  have LL := Lib.hid (show (prs r).length ≤ 4096 from prsK_len r 64)
  obtain ⟨i3, hi3, hz0, hz1, hz2⟩ := info_parts Tryd.info3
  have ta := run_assert3
  clear h hT
  go_enter Tryd.func20, Tryd.ntmps20
  go_upto_region 2 with fail
  have Q1 := Lib.hid (Blk.cast (cs' := (iarr 64 fun _ => 0).toArray) (Blk.new w 70 #[.int .i64 0, .int .i64 0, .int .i64 0, .int .i64 0, .int .i64 0, .int .i64 0, .int .i64 0, .int .i64 0, .int .i64 0, .int .i64 0, .int .i64 0, .int .i64 0, .int .i64 0, .int .i64 0, .int .i64 0, .int .i64 0, .int .i64 0, .int .i64 0, .int .i64 0, .int .i64 0, .int .i64 0, .int .i64 0, .int .i64 0, .int .i64 0, .int .i64 0, .int .i64 0, .int .i64 0, .int .i64 0, .int .i64 0, .int .i64 0, .int .i64 0, .int .i64 0, .int .i64 0, .int .i64 0, .int .i64 0, .int .i64 0, .int .i64 0, .int .i64 0, .int .i64 0, .int .i64 0, .int .i64 0, .int .i64 0, .int .i64 0, .int .i64 0, .int .i64 0, .int .i64 0, .int .i64 0, .int .i64 0, .int .i64 0, .int .i64 0, .int .i64 0, .int .i64 0, .int .i64 0, .int .i64 0, .int .i64 0, .int .i64 0, .int .i64 0, .int .i64 0, .int .i64 0, .int .i64 0, .int .i64 0, .int .i64 0, .int .i64 0, .int .i64 0]) (by kernel_rfl))
  have F1 := Lib.hid ((Fr.refl Nil w).alloc (.cells #[.int .i64 0, .int .i64 0, .int .i64 0, .int .i64 0, .int .i64 0, .int .i64 0, .int .i64 0, .int .i64 0, .int .i64 0, .int .i64 0, .int .i64 0, .int .i64 0, .int .i64 0, .int .i64 0, .int .i64 0, .int .i64 0, .int .i64 0, .int .i64 0, .int .i64 0, .int .i64 0, .int .i64 0, .int .i64 0, .int .i64 0, .int .i64 0, .int .i64 0, .int .i64 0, .int .i64 0, .int .i64 0, .int .i64 0, .int .i64 0, .int .i64 0, .int .i64 0, .int .i64 0, .int .i64 0, .int .i64 0, .int .i64 0, .int .i64 0, .int .i64 0, .int .i64 0, .int .i64 0, .int .i64 0, .int .i64 0, .int .i64 0, .int .i64 0, .int .i64 0, .int .i64 0, .int .i64 0, .int .i64 0, .int .i64 0, .int .i64 0, .int .i64 0, .int .i64 0, .int .i64 0, .int .i64 0, .int .i64 0, .int .i64 0, .int .i64 0, .int .i64 0, .int .i64 0, .int .i64 0, .int .i64 0, .int .i64 0, .int .i64 0, .int .i64 0] 70))
  generalize (w.alloc (.cells #[.int .i64 0, .int .i64 0, .int .i64 0, .int .i64 0, .int .i64 0, .int .i64 0, .int .i64 0, .int .i64 0, .int .i64 0, .int .i64 0, .int .i64 0, .int .i64 0, .int .i64 0, .int .i64 0, .int .i64 0, .int .i64 0, .int .i64 0, .int .i64 0, .int .i64 0, .int .i64 0, .int .i64 0, .int .i64 0, .int .i64 0, .int .i64 0, .int .i64 0, .int .i64 0, .int .i64 0, .int .i64 0, .int .i64 0, .int .i64 0, .int .i64 0, .int .i64 0, .int .i64 0, .int .i64 0, .int .i64 0, .int .i64 0, .int .i64 0, .int .i64 0, .int .i64 0, .int .i64 0, .int .i64 0, .int .i64 0, .int .i64 0, .int .i64 0, .int .i64 0, .int .i64 0, .int .i64 0, .int .i64 0, .int .i64 0, .int .i64 0, .int .i64 0, .int .i64 0, .int .i64 0, .int .i64 0, .int .i64 0, .int .i64 0, .int .i64 0, .int .i64 0, .int .i64 0, .int .i64 0, .int .i64 0, .int .i64 0, .int .i64 0, .int .i64 0] 70)) = w1 at *
  obtain ⟨q, hq⟩ : ∃ q, q = w.heap.size := ⟨_, rfl⟩
  rw [← hq] at Q1 ⊢
  have HQ := Lib.hid (Nat.le_of_eq hq.symm)
  clear hq
  go_wp2_with fail
  refine (pairs_ok b n r w1 (HB.out.fr0 F1.out) (HT.out.fr0 F1.out)).mono ?_
  rintro e w2 ⟨pa, pc, rfl, hl⟩
  have PW := Lib.hid hl.win
  have F2 := Lib.hid (F1.out.trans hl.fr)
  have Q2 := Lib.hid (Q1.out.fr0 hl.fr)
  clear hl Q1 F1
  generalize hl : prs r = l at *
  have HLL := Lib.hid hl
  clear hl
  have ll : (l.length : Int) ≤ 4096 := by have := LL.out; omega
  go_wp2_with fail
  go_loopw [16] (fun i wr => ∃ k : Nat, k ≤ l.length ∧ i = .int .i64 (k : Int) ∧ Blk wr q 70 (iarr 64 fun x => (((l.take k).countP fun p => p.2 == x : Nat) : Int)).toArray ∧ Win wr 60 2 (.slice pa l.length pc) l.length (pcs l) ∧ Fr Nil w wr) (fun i _ => l.length - (intOf i).toNat)
  case atStart => exact ⟨0, Nat.zero_le _, rfl, Q2.out, PW.out, F2.out⟩
  case round =>
    obtain ⟨k, hk, rfl, hq, hp, hf⟩ := hrel
    clear Q2 PW F2
    have HQk := Lib.hid hq
    have HP := Lib.hid hp
    have HF := Lib.hid hf
    clear hq hp hf
    by_cases hlt : k < l.length
    · have HK := Lib.hid hlt
      have kn : (k : Int) < (l.length : Int) := by omega
      obtain ⟨g, off, cap, ev, -, -, -, -, -⟩ := HP.out.form (by omega)
      cases ev
      have pg := pcs_get l k hlt
      have d0 := HP.out.cellAt pg.1
      have d1 := HP.out.cellAt pg.2
      rw [← Nat.add_assoc] at d1
      have hx : (l[k]).2 < 64 := by
        have := LM.out l[k] (List.getElem_mem hlt)
        have := N64.out
        omega
      have HX := Lib.hid hx
      have hc : (l.take (k + 1)) = l.take k ++ [l[k]] := List.take_succ_eq_append_getElem hlt
      have EQ : Hid (iarr 64 (upd (fun x => (((l.take k).countP fun p => p.2 == x : Nat) : Int)) (l[k]).2 ((((l.take k).countP fun p => p.2 == (l[k]).2 : Nat) : Int) + 1)) = iarr 64 fun x => (((l.take (k + 1)).countP fun p => p.2 == x : Nat) : Int)) := Lib.hid (iarr_congr fun x hx => by
        rw [hc]
        simp only [List.countP_append, List.countP_cons, List.countP_nil]
        by_cases e : x = (l[k]).2
        · subst e
          rw [upd_same]
          simp
        · rw [upd_other _ _ e]
          have : ((l[k]).2 == x) = false := by simp; exact fun h => e h.symm
          simp [this])
      have CL : (((l.take k).countP fun p => p.2 == (l[k]).2 : Nat) : Int) ≤ 4096 := by
        have h1 : (l.take k).countP (fun p => p.2 == (l[k]).2) ≤ (l.take k).length := List.countP_le_length
        rw [List.length_take] at h1
        have := LL.out
        omega
      have C0 : 0 ≤ (((l.take k).countP fun p => p.2 == (l[k]).2 : Nat) : Int) := by omega
      clear hc pg
      generalize l[k] = pp at *
      clear hlt hk hx
      generalize pp.1 = px at *
      generalize pp.2 = py at *
      have py64 : (py : Int) < 64 := by have := HX.out; omega
      have B3 := Lib.hid (Blk.new wr 60 #[.int .i64 (px : Int), .int .i64 (py : Int)])
      have F3 := Lib.hid ((Fr.refl Nil wr).alloc (.cells #[.int .i64 (px : Int), .int .i64 (py : Int)] 60))
      go_upto_region 5 with fail
      clear d0 d1
      generalize (wr.alloc (.cells #[.int .i64 (px : Int), .int .i64 (py : Int)] 60)) = w3 at *
      have b1 := B3.out.cellv (i := 1) rfl
      have Q3 := HQk.out.fr0 F3.out
      have c1 := Q3.iget HX.out
      have z1 := Q3.frozen py
      have Q4 := Lib.hid (Q3.iset HX.out ((((l.take k).countP fun p => p.2 == py : Nat) : Int) + 1))
      have P4 := Lib.hid ((HP.out.fr F3.out fun _ _ => id).far (g := q) (i := py) ((HP.out.fr F3.out fun _ _ => id).ne Q3 (by decide)) (.int .i64 ((((l.take k).countP fun p => p.2 == py : Nat) : Int) + 1)))
      have F4 := Lib.hid ((HF.out.trans F3.out).setNew (g := q) (i := py) HQ.out (.int .i64 ((((l.take k).countP fun p => p.2 == py : Nat) : Int) + 1)))
      clear Q3 B3 F3 HQk HP HF
      go_wp2_with fail
      go_roundw
      case rel => exact ⟨k + 1, HK.out, by go_num, by rw [← EQ.out]; exact Q4.out, P4.out, F4.out⟩
      case measure => have := HK.out; simp [intOf]; omega
    · obtain rfl : k = l.length := by omega
      have l1 : decide (l.length < l.length) = false := by simp
      have Q5 := Lib.hid (show Blk wr q 70 (iarr 64 fun x => (wts r [] x : Int)).toArray by
        have := HQk.out
        rw [List.take_length] at this
        rw [iarr_congr (g := fun x => (((l.countP fun p => p.2 == x : Nat)) : Int)) fun x hx => by rw [LW.out x hx]]
        exact this)
      have M5 := Lib.hid (show Om w (wr.alloc (.cells #[.slice none 0 0] 71)) wr.heap.size q (.slice none 0 0) 0 (fun _ => 0) (fun x => (wts r [] x : Int)) (.slice none 0 0) [] from ⟨Blk.new wr 71 _, Win.nil _ _ _, Q5.out.alloc _, Win.nil _ _ _, HF.out.alloc _, fun g hg => (by cases hg), fun g hg => (by cases hg), fun g hg => (by cases hg), HF.out.size, HQ.out⟩)
      clear hk hlt HQk HP HF Q5 LW LM
      go_upto_region 8 with fail
      generalize (wr.alloc (.cells #[.slice none 0 0] 71)) = w5 at *
      generalize wr.heap.size = A at *
      have n0 := (HB.out.fr0 M5.out.fr).n_c
      have n64 : (n : Int) ≤ 64 := by have := N64.out; omega
      go_wp2_with fail
      clear n0
      go_loopw [31] (fun i wr => ∃ (a m : Nat) (v : Value) (V : Nat → Int), a ≤ n ∧ i = .int .i64 (a : Int) ∧ Om w wr A q v m V (fun x => (wts r [] x : Int)) (.slice none 0 0) [] ∧ Fs (fun x => x < a ∧ wts r [] x = 0) m V) (fun i _ => n - (intOf i).toNat)
      case atStart => exact ⟨0, 0, _, _, Nat.zero_le _, rfl, M5.out, (Fs.first _).congr fun b => ⟨fun h => h.elim, fun h => absurd h.1 (by omega)⟩⟩
      case round =>
        obtain ⟨a, m, v, V, ha, rfl, hM, hS⟩ := hrel
        clear M5
        have HM := Lib.hid hM
        have HS := Lib.hid hS
        clear hM hS
        by_cases hlt : a < n
        · have HA := Lib.hid hlt
          have an : (a : Int) < (n : Int) := by omega
          have a64 : (a : Int) < 64 := by omega
          have c1 := HM.out.arr.iget (k := a) (by have := N64.out; omega)
          have M64 := Lib.hid (HS.out.le (n := n) fun b hb => by omega)
          clear ha hlt
          cases hz : (((wts r [] a : Nat) : Int) == 0)
          · have HZ := Lib.hid (show wts r [] a ≠ 0 by simp at hz; omega)
            go_wp2_with fail
            go_roundw
            case rel => exact ⟨a + 1, m, v, V, HA.out, by go_num, HM.out, HS.out.congr fun x => ⟨fun h => ⟨by omega, h.2⟩, fun h => ⟨by
              have : x ≠ a := fun e => HZ.out (e ▸ h.2)
              omega, h.2⟩⟩⟩
            case measure => have := HA.out; simp [intOf]; omega
          · have HZ := Lib.hid (show wts r [] a = 0 by simp at hz; omega)
            have PU := Lib.hid (hpush_ok A m v V (a : Int) wr HM.out.top HM.out.win HS.out.hp (by have := M64.out; have := N64.out; omega))
            go_wp2_with (go_at_call 46; refine PU.out.mono ?_; intro e w6 hpu; obtain ⟨rfl, v', V', hm6, hp6, pm6⟩ := HM.out.push hpu; have M6 := Lib.hid hm6; have S6 := Lib.hid (HS.out.push (b := a) (fun h => by omega) hp6 pm6); clear hpu hm6 hp6 pm6)
            go_roundw
            case rel => exact ⟨a + 1, m + 1, v', V', HA.out, by go_num, M6.out, S6.out.congr fun x => ⟨fun h => by
              rcases h with h | rfl
              · exact ⟨by omega, h.2⟩
              · exact ⟨by omega, HZ.out⟩, fun h => by
              by_cases e : x = a
              · exact .inr e
              · exact .inl ⟨by omega, h.2⟩⟩⟩
            case measure => have := HA.out; simp [intOf]; omega
        · obtain rfl : a = n := by omega
          have l2 : decide (a < a) = false := by simp
          have S7 := Lib.hid (HS.out.congr (Q := Free r a []) fun x => ⟨fun h => ⟨h.1, by simp, h.2⟩, fun h => ⟨h.1, h.2.2⟩⟩)
          clear ha hlt HS
          go_wp2_with fail
          go_loopw [9] (fun lv wr => ∃ (L : List Nat) (aa : Option Addr) (acp m : Nat) (v : Value) (V : Nat → Int), lv = .slice aa L.length acp ∧ Om w wr A q v m V (fun x => (wts r L x : Int)) (.slice aa L.length acp) L ∧ Fs (Free r a L) m V ∧ Ords r a L) (fun lv _ => 64 - sln lv)
          case atStart => exact ⟨[], none, 0, m, v, V, rfl, HM.out, S7.out, Ords.nil⟩
          case round =>
            clear HM S7
            obtain ⟨L, aa, acp, m, v, V, rfl, hM, hS, hO⟩ := hrel
            have HM := Lib.hid hM
            have HS := Lib.hid hS
            have HO := Lib.hid hO
            have HLN := Lib.hid (show L.length ≤ 64 by have := hO.len; have := N64.out; omega)
            clear hM hS hO
            cases m with
            | zero =>
              obtain ⟨ao, cap, ev, -, -, -⟩ := HM.out.win.shape
              subst ev
              have t0 := HM.out.top.cellv (i := 0) rfl
              have LN := Lib.hid (len_ok ao 0 cap wr)
              have EN := Lib.hid (show OrdF r a L from ⟨HO.out, fun b hb => by obtain ⟨j, hj, -⟩ := HS.out.bw b hb; omega⟩)
              have n0 := (HB.out.fr0 HM.out.fr).n_c
              go_upto_region 25 with (go_at_call 47; refine LN.out.mono ?_; rintro e w7 ⟨rfl, rfl⟩)
              by_cases hfin : L.length < a
              · have hf1 : (L.length : Int) < (a : Int) := by omega
                have HFN := Lib.hid hfin
                clear hfin
                go_wp2_with fail
                go_ret2
                exact ⟨L, EN.out, HM.out.fr, .inl ⟨HFN.out, rfl⟩⟩
              · have hf1 : decide ((L.length : Int) < (a : Int)) = false := by simp; omega
                have hf2 : decide (L.length < a) = false := by simp; omega
                have HFN := Lib.hid (show L.length = a by have := HO.out.len; omega)
                clear hfin
                go_wp2_with fail
                go_ret2
                exact ⟨L, EN.out, HM.out.fr, .inr ⟨HFN.out, aa, acp, rfl, HM.out.lst, HM.out.lown, HM.out.fr⟩⟩
            | succ m =>
              obtain ⟨g, off, cap, ev, -, -, -, -, -⟩ := HM.out.win.form (by omega)
              subst ev
              have t0 := HM.out.top.cellv (i := 0) rfl
              have M99 : m ≤ 99 := by
                have := HS.out.le (n := a) fun b hb => hb.1
                have := N64.out
                omega
              have m99 : (m : Int) ≤ 99 := by omega
              have LN := Lib.hid (len_ok (some ⟨g, off, none⟩) (m + 1) cap wr)
              have PP := Lib.hid (hpop_ok A g off m cap V wr HM.out.top HM.out.win HS.out.hp M99)
              clear M99
              go_upto_region 17 with (first | (go_at_call 47; refine LN.out.mono ?_; rintro e w7 ⟨rfl, rfl⟩) | (go_at_call 48; refine PP.out.mono ?_; intro e w8 hpp; obtain ⟨rfl, V8, hm8, hp8, pm8⟩ := HM.out.pop hpp; obtain ⟨c, e0, hc1, hc2, hc3⟩ := HS.out.pop hp8 pm8; rw [e0]; have M8 := Lib.hid hm8; have S8 := Lib.hid hc3; have LST := Lib.hid (show Least r a L c from ⟨hc1, hc2⟩); clear hpp hm8 hp8 pm8 e0 hc1 hc2 hc3))
              clear t0
              go_upto_region 18 with (at_builtin; refine wpList_append_win _ rfl (.tmp 49) (.tmp 51) 29 rfl 3 i3 _ 1 8 Tryd.underlying29 hi3 hz0 hz1 hz2 rfl (by decide) _ _ _ rfl (M8.out.lst.alloc _) ⟨w8.heap.size, 0, none⟩ 1 1 [.int .i64 (c : Int)] rfl rfl (cell_one_new _ _ _) (by simp [Value.oneCell']) (by omega) (by have := HLN.out; simp only [maxLen]; omega) (by have := HLN.out; omega) (w8.heap.size + 1) (by simp) ?_; intro ga off2 acp3 w9 hw9 hgr hat)
              have hgr' := (World.grownBy_alloc w8 _ _).trans hgr
              have el : (L ++ [c]).length = L.length + 1 := by simp
              have ei : idl (L ++ [c]) = idl L ++ [.int .i64 (c : Int)] := by simp [idl]
              rw [← el, ← ei] at hw9
              have M9 := Lib.hid (M8.out.app hw9 hgr' (fun k hk => by
                cases hk
                exact hat.imp id (fun h => by rw [h]; exact Nat.le_add_right _ _)))
              rw [← el]
              have C64 := Lib.hid (show c < 64 by have := LST.out.1.1; have := N64.out; omega)
              have CN := Lib.hid LST.out.1.2.1
              have c64 : (c : Int) < 64 := by have := C64.out; omega
              have rc := (HB.out.fr0 M9.out.fr).row_c (a := c) C64.out
              have S9 := Lib.hid (S8.out.congr (Q := FT r a L c 0) fun x => FT_start x)
              have M9' := Lib.hid (M9.out.arrc (g := fun x => (gT r L c 0 x : Int)) fun x _ => by rw [gT_zero])
              have hrest : bw (r c) = bw (rest (r c) 0) := by rw [rest_zero]
              rw [hrest] at rc
              clear hgr hgr' hat hw9 el ei M9 M8 S8 HM HS hrest LN PP
              generalize hLc : L ++ [c] = Lc at *
              have HLc := Lib.hid hLc
              clear hLc
              go_wp2_with fail
              clear rc
              go_loopw [11] (fun x wr => ∃ (t m : Nat) (v : Value) (V : Nat → Int), t ≤ 64 ∧ x = .int .u64 (bw (rest (r c) t) : Int) ∧ Om w wr A q v m V (fun x => (gT r L c t x : Int)) (.slice (some ⟨ga, off2, none⟩) Lc.length acp3) Lc ∧ Fs (FT r a L c t) m V) (fun x _ => (intOf x).toNat)
              case atStart => exact ⟨0, m, _, _, by omega, rfl, M9'.out, S9.out⟩
              case round =>
                clear M9' S9
                obtain ⟨t, m, v, V, ht, rfl, hM, hS⟩ := hrel
                have HM := Lib.hid hM
                have HS := Lib.hid hS
                clear hM hS
                by_cases hz : bw (rest (r c) t) = 0
                · have HZR : ∀ i, t ≤ i → i < 64 → r c i = false := fun i hi h64 => by
                    have := bw_eq0 hz h64
                    simpa [rest, hi] using this
                  have M10 := Lib.hid (HM.out.arrc (g := fun x => (wts r Lc x : Int)) fun x hx => by rw [gT_end C64.out CN.out HZR x hx, HLc.out])
                  have S10 := Lib.hid (HS.out.congr (Q := Free r a Lc) fun x => by rw [← HLc.out]; exact FT_end C64.out CN.out N64.out HZR x)
                  have O10 := Lib.hid (show Ords r a Lc by rw [← HLc.out]; exact Ords.snoc HO.out LST.out)
                  have ML := Lib.hid (show Lc.length = L.length + 1 ∧ Lc.length ≤ 64 by
                    have h1 := O10.out.len
                    have h2 := N64.out
                    have h3 := congrArg List.length HLc.out
                    simp at h3
                    omega)
                  rw [hz]
                  clear hz HZR HM HS ht
                  go_wp2_with fail
                  go_roundw
                  case rel => exact ⟨Lc, _, _, m, v, V, rfl, M10.out, S10.out, O10.out⟩
                  case measure => have := ML.out; simp [sln]; omega
                · obtain ⟨u, hu, hu1, hu2⟩ := bw_ne hz
                  have htu : t ≤ u := by
                    simp only [rest, Bool.and_eq_true, decide_eq_true_eq] at hu1
                    exact hu1.2
                  have hru : r c u = true := by
                    simp only [rest, Bool.and_eq_true, decide_eq_true_eq] at hu1
                    exact hu1.1
                  have hskip : ∀ i, t ≤ i → i < u → r c i = false := fun i hi hiu => by
                    have := hu2 i hiu
                    simpa [rest, hi] using this
                  have TZ := Lib.hid (fun W (hW : Tab W) => tz_ok (rest (r c) t) u W hW hu hu1 hu2)
                  have DR := low_drop hu hu1 hu2
                  rw [rest_next htu hu2] at DR
                  have hsub : IntKind.u64.wrap ((bw (rest (r c) t) : Int) - 1) = ((bw (rest (r c) t) - 1 : Nat) : Int) := by
                    have := bw_lt (rest (r c) t)
                    rw [IntKind.wrap_u64]
                    omega
                  have hand : bits .and .u64 (bw (rest (r c) t) : Int) ((bw (rest (r c) t) - 1 : Nat) : Int) = (bw (rest (r c) (u + 1)) : Int) := by
                    have := bw_lt (rest (r c) t)
                    rw [bitsN _ _ (bw_lt _) (by omega), DR]
                  have MS := Lib.hid (show bw (rest (r c) (u + 1)) < bw (rest (r c) t) by
                    rw [← DR]
                    have : bw (rest (r c) t) &&& (bw (rest (r c) t) - 1) ≤ bw (rest (r c) t) - 1 := Nat.and_le_right
                    omega)
                  have ST := FT_step OK0.out N64.out HO.out LST.out hru
                  have M11 := Lib.hid (HM.out.arrc (g := fun x => (gT r L c u x : Int)) fun x _ => by rw [gT_skip C64.out CN.out htu hskip])
                  have S11 := Lib.hid (HS.out.congr (Q := FT r a L c u) fun x => FT_congr (fun b _ => gT_skip C64.out CN.out htu hskip b) x)
                  have hup : upd (fun x => (gT r L c u x : Int)) u (wts r (L ++ [c]) u : Int) = fun x => (gT r L c (u + 1) x : Int) := by
                    funext x
                    rw [gT_next]
                    unfold upd
                    split <;> rfl
                  have wl := wts_le r (L ++ [c]) u
                  have x0 : ((bw (rest (r c) t) : Int) != 0) = true := by simp; omega
                  have U64 := Lib.hid hu
                  have u64 : (u : Int) < 64 := by omega
                  have c1 := M11.out.arr.iget (k := u) hu
                  rw [ST.1] at c1
                  have z1 := M11.out.arr.frozen u
                  have M12 := M11.out.set_ (k := u) hu (wts r (L ++ [c]) u : Int)
                  rw [hup] at M12
                  have HM12 := Lib.hid M12
                  have c2 := (M11.out.set_ (k := u) hu (wts r (L ++ [c]) u : Int)).arr.iget (k := u) hu
                  rw [upd_same] at c2
                  have HST := Lib.hid ST.2
                  clear hz hu hu1 hu2 htu hru DR ht ST hup M12 hskip HM HS
                  generalize hx : bw (rest (r c) t) = x at *
                  generalize hxd : x - 1 = x1 at *
                  clear hx hxd
                  generalize wts r (L ++ [c]) u = ww at *
                  have ww64 : (ww : Int) ≤ 64 := by omega
                  have hc : ((ww + 1 : Nat) : Int) = (ww : Int) + 1 := by omega
                  rw [hc] at c1
                  clear hc
                  have w0 : (0 : Int) ≤ (ww : Int) := by omega
                  go_upto_region 22 with (go_at_call 49; refine (TZ.out _ (HT.out.fr0 M11.out.fr)).mono ?_; rintro e w9 ⟨rfl, rfl⟩)
                  go_upto_region 23 with fail
                  clear c1 z1
                  generalize (wr.setCell ⟨q, u, none⟩ (.int .i64 (ww : Int))) = w10 at *
                  by_cases hw0 : ww = 0
                  · have W0 := Lib.hid hw0
                    have e0 : (ww : Int) = 0 := by omega
                    rw [e0] at c2
                    have M64 : m ≤ 99 := by
                      have := S11.out.le (n := a) fun b hb => hb.1
                      have := N64.out
                      omega
                    have PU := Lib.hid (hpush_ok A m v V (u : Int) w10 HM12.out.top HM12.out.win S11.out.hp M64)
                    clear hw0 e0 M64 w0 ww64 wl
                    go_wp2_with (go_at_call 46; refine PU.out.mono ?_; intro e w11 hpu; obtain ⟨rfl, v', V', hm6, hp6, pm6⟩ := HM12.out.push hpu; have M13 := Lib.hid hm6; have S13 := Lib.hid (S11.out.push (b := u) HST.out.1 hp6 pm6); clear hpu hm6 hp6 pm6)
                    go_roundw
                    case rel => exact ⟨u + 1, m + 1, v', V', by have := U64.out; omega, rfl, M13.out, S13.out.congr (HST.out.2.1 W0.out)⟩
                    case measure => have := MS.out; simp [intOf]; omega
                  · have W0 := Lib.hid hw0
                    have e0 : ((ww : Int) == 0) = false := by simp; omega
                    clear hw0
                    go_wp2_with fail
                    go_roundw
                    case rel => exact ⟨u + 1, m, v, V, by have := U64.out; omega, rfl, HM12.out, S11.out.congr (HST.out.2.2 W0.out)⟩
                    case measure => have := MS.out; simp [intOf]; omega
end Go.Proofs.YtpcpjmbfinpmlaaDoor
