/- RelWays, walked. -/
import Derived.Test.YtpcpjmbfinpmlaaDoorWpl
import Derived.Test.YtpcpjmbfinpmlaaDoorRex
import Derived.Test.YtpcpjmbfinpmlaaDoorRmd
import Derived.Laws.MakeOwn
import Derived.Test.YtpcpjmbfinpmlaaDoorLaw
set_option linter.unusedSimpArgs false
set_option linter.unusedVariables false
set_option linter.unusedSectionVars false
namespace Go.Proofs.YtpcpjmbfinpmlaaDoor
open Go.RowKit
set_option maxRecDepth 100000

def barr (n : Nat) (f : Nat → Bool) : List Value := (List.range n).map fun j => .bool (f j)
theorem barr_get {n : Nat} (f : Nat → Bool) {k : Nat} (h : k < n) : (barr n f)[k]? = some (.bool (f k)) := by simp [barr, h]
theorem barr_set {n : Nat} (f : Nat → Bool) {k : Nat} (h : k < n) (v : Bool) : (barr n f).set k (.bool v) = barr n (upd f k v) := by
  apply List.ext_getElem (by simp [barr])
  intro i h1 h2
  simp [barr] at h1
  by_cases e : i = k
  · subst e
    simp [barr, upd]
  · rw [List.getElem_set_ne (by omega)]
    simp [barr, upd, e]
theorem Blk.bget {w : World} {b : Nat} {t : TypeId} {n : Nat} {f : Nat → Bool} (h : Blk w b t (barr n f).toArray) {k : Nat} (hk : k < n) : w.cell? ⟨b, k, none⟩ = some (.bool (f k)) := h.cellv (by rw [List.getElem?_toArray, barr_get f hk])
theorem Blk.bset {w : World} {b : Nat} {t : TypeId} {n : Nat} {f : Nat → Bool} (h : Blk w b t (barr n f).toArray) {k : Nat} (hk : k < n) (v : Bool) : Blk (w.setCell ⟨b, k, none⟩ (.bool v)) b t (barr n (upd f k v)).toArray :=
  blk_list h (barr_set f hk v)
/-- How many cells of a block are false. -/
def cntW (w : World) (g n : Nat) : Nat := cn (fun j => match w.cell? ⟨g, j, none⟩ with | some (.bool false) => true | _ => false) n
theorem cntW_eq {w : World} {g n : Nat} {t : TypeId} {S : Nat → Bool} (h : Blk w g t (barr n S).toArray) : cntW w g n = unS S n := cn_congr fun i hi => by
  rw [h.bget hi]
  cases S i <;> rfl
theorem Tryd.info4 : (Tryd.prog.info? 4).map (fun i => (i.zero, i.size, i.bytes)) = some (some (.bool false), 1, 1) := by kernel_rfl
theorem make28 (n : Nat) (hn : n ≤ 64) (w : World) : (Instr.makeSlice 28 (.int .i64 (n : Int)) (.int .i64 (n : Int))).run Tryd.prog w = .ok (.slice (some ⟨w.heap.size, 0, none⟩) n n) (w.alloc (.cells (barr n fun _ => false).toArray 4)) := by
  obtain ⟨i, hi, hz0, hz1, hz2⟩ := info_parts Tryd.info4
  have := run_make (P := Tryd.prog) w 28 4 i _ Tryd.underlying28 hi hz0 .i64 .i64 n n (by omega) (by omega) (by rw [hz2]; omega) (by omega)
  rw [hz1, Int.toNat_natCast, show (Value.bool false).cells = #[.bool false] from rfl] at this
  have e : madeCells #[Value.bool false] (n * 1) = (barr n fun _ => false).toArray := by
    apply Array.toList_inj.1
    rw [toList_madeCells_one, Nat.mul_one]
    unfold barr
    rw [List.map_const']
    simp
  rw [e] at this
  exact this
/-- The stack lies apart from what has been seen. -/
structure Sk (w wr : World) (g n : Nat) (S : Nat → Bool) (v : Value) (T : List Nat) : Prop where
  seen : Blk wr g 4 (barr n S).toArray
  todo : Win wr 3 1 v T.length (idl T)
  own : ∀ b, v.ownBlock = some b → w.heap.size ≤ b
  fr : Fr Nil w wr
  g0 : w.heap.size ≤ g
theorem Sk.set_ {w wr : World} {g n : Nat} {S : Nat → Bool} {v : Value} {T : List Nat} (h : Sk w wr g n S v T) {k : Nat} (hk : k < n) : Sk w (wr.setCell ⟨g, k, none⟩ (.bool true)) g n (upd S k true) v T :=
  ⟨h.seen.bset hk true, h.todo.far (h.todo.ne h.seen (by decide)) _, h.own, h.fr.setNew h.g0 _, h.g0⟩
theorem Sk.still {w wr w2 : World} {g n : Nat} {S : Nat → Bool} {v : Value} {T : List Nat} (h : Sk w wr g n S v T) (f : Fr Nil wr w2) : Sk w w2 g n S v T :=
  ⟨h.seen.fr0 f, h.todo.fr f fun _ _ => id, h.own, h.fr.trans f, h.g0⟩
theorem Sk.app {w wr w2 : World} {g n : Nat} {S : Nat → Bool} {v v2 : Value} {T T2 : List Nat} (h : Sk w wr g n S v T) (hw : Win w2 3 1 v2 T2.length (idl T2)) (hg : wr.grownBy w2 v.ownBlock) (ho : ∀ k, v2.ownBlock = some k → v.ownBlock = some k ∨ wr.heap.size ≤ k) : Sk w w2 g n S v2 T2 :=
  ⟨h.seen.grown hg fun e => h.todo.ne h.seen (by decide) e.symm, hw, fun b hb => by
    rcases ho b hb with h1 | h1
    · exact h.own b h1
    · exact Nat.le_trans h.fr.size h1, h.fr.grown hg fun k hk => .inr (h.own k hk), h.g0⟩
theorem idl_app (T : List Nat) (a : Nat) : idl (T ++ [a]) = idl T ++ [.int .i64 (a : Int)] := by simp [idl]
theorem idl_len (T : List Nat) : (idl T).length = T.length := by simp [idl]
set_option maxHeartbeats 2000000 in
theorem relWays_walk (z : Int) (a0 : Option Addr) (len cap : Nat) (P : Nat → Int × Int) (from_ : Int) (w : World) (wz : (Lit.int .i64 z).wf = true) (hl : len ≤ cap) (hcap : cap ≤ maxLen) (hP : Prs w a0 len P) (wf : (Lit.int .i64 from_).wf = true) (hT : Tab w) :
    Calls Tryd.prog 3 #[.int .i64 z, .slice a0 len cap, .int .i64 from_] w fun e w' => e = .returned (.bool true) ∧ Below w.heap.size w w' := by
  obtain ⟨p1, p2⟩ := i64_rng wz
  obtain ⟨p3, p4⟩ := i64_rng wf
  have HP := Lib.hid hP
  have HT := Lib.hid hT
  have hlen : (len : Int) ≤ 9223372036854775807 := by simp only [maxLen] at hcap; omega
  have EX := Lib.hid (examples_ok w hT)
  have MD := Lib.hid (fun W (hW : Fr Nil w W) => made_ok z a0 len cap P W (hP.fr0 hW) hlen)
  obtain ⟨i3, hi3, hz0, hz1, hz2⟩ := info_parts Tryd.info3
  clear hP hT wz wf hl hcap hlen
  go_enter Tryd.func3, Tryd.ntmps3
  go_wp2_with fail
  refine EX.out.mono ?_
  rintro e w1 ⟨rfl, f1⟩
  have F1 := Lib.hid f1
  clear f1 EX
  go_wp2_with fail
  refine (MD.out w1 F1.out).mono ?_
  intro e w2 hm
  rcases hm with ⟨-, rfl, rfl⟩ | ⟨n, br, bx, rfl, hn, rfl, hr, -, f2, -, -⟩
  · go_wp2_with fail
    go_ret
    exact ⟨rfl, F1.out.below (Nat.le_refl _) fun _ _ x => x⟩
  have HN := Lib.hid hn
  have HR := Lib.hid hr
  have F2 := Lib.hid (F1.out.trans f2)
  generalize mdR n P (min len 5000) = r at *
  clear hn hr f2 F1 MD HP
  by_cases hn0 : n = 0
  · subst hn0
    go_wp2_with fail
    go_ret
    exact ⟨rfl, F2.out.below (Nat.le_refl _) fun _ _ x => x⟩
  have n0 : (((n : Nat) : Int) == 0) = false := by simp; omega
  have n1 : (1 : Int) ≤ (n : Int) := by omega
  have n64 : (n : Int) ≤ 64 := by have := HN.out; omega
  have MK := fun W => make28 n HN.out W
  by_cases hf : from_ < 0
  · obtain ⟨f, hfe, hfn⟩ : ∃ f : Nat, -((from_ + 1).tmod (n : Int)) = (f : Int) ∧ f < n := by
      have h1 : 0 ≤ -(from_ + 1) := by omega
      rw [← Int.neg_tmod, Int.tmod_eq_emod_of_nonneg h1]
      have h2 := Int.emod_nonneg (-(from_ + 1)) (show (n : Int) ≠ 0 by omega)
      have h3 := Int.emod_lt_of_pos (-(from_ + 1)) (show 0 < (n : Int) by omega)
      exact ⟨((-(from_ + 1)) % (n : Int)).toNat, by omega, by omega⟩
    go_upto_region 13 with fail
    try rw [hfe]
    have FN := Lib.hid hfn
    clear hfe hfn hf p3 p4
    have SB := Lib.hid (Blk.new w2 4 (barr n fun _ => false).toArray)
    have F3 := Lib.hid ((Fr.refl Nil w2).alloc (.cells (barr n fun _ => false).toArray 4))
    generalize (w2.alloc (.cells (barr n fun _ => false).toArray 4)) = w3 at *
    obtain ⟨g, hg⟩ : ∃ g, g = w2.heap.size := ⟨_, rfl⟩
    rw [← hg] at SB ⊢
    have HG := Lib.hid (Nat.le_of_eq hg.symm)
    clear hg MK
    go_wp2_with fail
    have SK := Lib.hid (show Sk w2 (w3.alloc (.cells #[.int .i64 (f : Int)] 3)) g n (fun _ => false) (.slice (some ⟨w3.heap.size, 0, none⟩) 1 1) [f] from ⟨SB.out.alloc _, Win.full (Blk.new w3 3 #[.int .i64 (f : Int)]) rfl (by decide), fun b hb => (by cases hb; exact F3.out.size), F3.out.alloc _, HG.out⟩)
    clear SB F3
    generalize (w3.alloc (.cells #[.int .i64 (f : Int)] 3)) = w4 at *
    generalize w3.heap.size = g3 at *
    go_loopw [12] (fun lv wr => ∃ (T : List Nat) (S : Nat → Bool) (aa : Option Addr) (acp : Nat), lv = .slice aa T.length acp ∧ Sk w2 wr g n S (.slice aa T.length acp) T ∧ Wo r f T S ∧ T.length + unS S n ≤ n + 1) (fun lv wr => 2 * cntW wr g n + sln lv)
    case atStart => exact ⟨[f], fun _ => false, _, _, rfl, SK.out, Wo.first r f, by have := unS_le (fun _ => false) n; simp; omega⟩
    case round =>
      clear SK
      obtain ⟨T0, S, aa, acp, rfl, hS, hW, hB⟩ := hrel
      have HS := Lib.hid hS
      have HW := Lib.hid hW
      have HBd := Lib.hid hB
      clear hS hW hB
      rcases List.eq_nil_or_concat T0 with rfl | ⟨T, a, rfl⟩
      · have RC := HR.out.fr0 HS.out.fr
        have CL := Lib.hid (closed_ok br n r wr RC)
        have OKr := Lib.hid HR.out.ok
        have EN := Lib.hid (fun b => Wo.end OKr.out HW.out b)
        have e00 : ([] : List Nat).length = 0 := rfl
        rw [e00]
        clear RC
        go_wp2_with fail
        refine CL.out.mono ?_
        rintro e w5 ⟨bc, rfl, c5, f5, -⟩
        have C5 := Lib.hid c5
        have S5 := Lib.hid (HS.out.still f5)
        clear c5 f5 CL HS
        go_wp2_with fail
        go_loopw [16] (fun bi wr => ∃ b : Nat, b ≤ n ∧ bi = .int .i64 (b : Int) ∧ RelAt wr bc n (clo n r) ∧ Blk wr g 4 (barr n S).toArray ∧ Fr Nil w wr) (fun bi _ => n - (intOf bi).toNat)
        case atStart => exact ⟨0, Nat.zero_le _, rfl, C5.out, S5.out.seen, F2.out.trans S5.out.fr⟩
        case round =>
          obtain ⟨b, hb, rfl, hc, hs, hf⟩ := hrel
          clear C5 S5
          have HC := Lib.hid hc
          have HSn := Lib.hid hs
          have HF := Lib.hid hf
          clear hc hs hf
          by_cases hlt : b < n
          · have bn : (b : Int) < (n : Int) := by omega
            have HBn := Lib.hid hlt
            have c1 := HSn.out.bget hlt
            have hh : has n (clo n r) (f : Int) (b : Int) = S b := (has_nat HC.out.ok f b).trans (EN.out b)
            have HQ := Lib.hid (fun k => (has_ok bc n (clo n r) (f : Int) (b : Int) (wr.drewN k) (HC.out.fr0 (Fr.drewN (Fr.refl _ _) k))).mono (R' := fun e w' => e = .returned (.bool (S b)) ∧ w' = wr.drewN k) fun e w' h => ⟨by rw [← hh]; exact h.1, h.2.symm⟩)
            clear hb hlt hh
            generalize S b = sb at *
            go_upto_region 27 with fail
            go_quiet ((go_at_call 9; exact Calls.quiet_of_same (HQ.out _)))
            cases sb
            all_goals
              go_wp2_with fail
              go_roundw
              case rel => exact ⟨b + 1, HBn.out, by go_num, HC.out.fr0 (Fr.drewN (Fr.refl _ _) _), HSn.out.drewN _, HF.out.drewN _⟩
              case measure => have := HBn.out; simp [intOf]; omega
          · obtain rfl : b = n := by omega
            have l1 : decide (b < b) = false := by simp
            clear hb hlt
            go_wp2_with fail
            go_ret
            exact ⟨rfl, HF.out.below (Nat.le_refl _) fun _ _ x => x⟩
      · rw [List.concat_eq_append] at *
        have el : (T ++ [a]).length = T.length + 1 := by simp
        obtain ⟨tg, off, tc, ev, -, -, -, -, -⟩ := HS.out.todo.form (by rw [el]; omega)
        have TD := HS.out.todo
        rw [ev] at TD
        have ca := TD.cellAt (j := T.length) (u := .int .i64 (a : Int)) (by simp [idl])
        have W2 := TD.firsts (m := T.length) (by rw [el]; omega)
        have ei : (idl (T ++ [a])).take (T.length * 1) = idl T := by
          rw [idl_app, Nat.mul_one, List.take_append_of_le_length (by rw [idl_len]; exact Nat.le_refl _), List.take_of_length_le (by rw [idl_len]; exact Nat.le_refl _)]
        rw [ei] at W2
        have SK2 := Lib.hid (show Sk w2 wr g n S (.slice (some ⟨tg, off, none⟩) T.length tc) T from ⟨HS.out.seen, W2, fun b hb => HS.out.own b (by rw [ev]; exact hb), HS.out.fr, HS.out.g0⟩)
        have WY := Lib.hid HW.out.pop
        have OLD := Lib.hid (cntW_eq HS.out.seen)
        have HB2 := Lib.hid (show T.length + 1 + unS S n ≤ n + 1 by have := HBd.out; rw [el] at this; exact this)
        have tl : (T.length : Int) ≤ 65 := by have := HB2.out; have := HN.out; omega
        have hcap : T.length + 1 ≤ tc := by
          rcases TD.2 with ⟨h0, _⟩ | ⟨g', off', cap', cs, hv, hb, h1, _⟩
          · cases h0
          · cases hv; rw [el] at h1; exact h1
        have hcap2 : (T.length : Int) + 1 ≤ (tc : Int) := by omega
        have hcap3 : (tc : Int) ≤ 9223372036854775807 := by
          rcases TD.2 with ⟨h0, _⟩ | ⟨g', off', cap', cs, hv, hb, h1, h2, _⟩
          · cases h0
          · cases hv; simp only [maxLen] at h2; omega
        have hv2 : Value.slice aa (T.length + 1) acp = .slice (some ⟨tg, off, none⟩) (T.length + 1) tc := by rw [← el]; exact ev
        injection hv2 with hv3 hv4 hv5
        subst hv3
        subst hv5
        rw [el]
        generalize hM0 : T.length = tlen at *
        have HM0 := Lib.hid hM0
        clear hM0 TD W2 ei el ev HS HW HBd hcap hv4
        go_wp2_with fail
        clear ca
        go_loopw [12, 14] (fun lv bi wr => ∃ (c : Nat) (T' : List Nat) (S' : Nat → Bool) (aa : Option Addr) (acp' : Nat), c ≤ n ∧ bi = .int .i64 (c : Int) ∧ lv = .slice aa T'.length acp' ∧ Sk w2 wr g n S' (.slice aa T'.length acp') T' ∧ Wy r f T' S' a c ∧ T'.length + unS S' n ≤ n + 1 ∧ 2 * unS S' n + T'.length < 2 * unS S n + (tlen + 1)) (fun _ bi _ => n - (intOf bi).toNat)
        case atStart => exact ⟨0, T, S, _, _, Nat.zero_le _, rfl, by rw [HM0.out], by rw [HM0.out]; exact SK2.out, WY.out, by have := HB2.out; have := HM0.out; omega, by have := HM0.out; omega⟩
        case round =>
          clear SK2 WY
          obtain ⟨c, T', S', aa', acp', hc, rfl, rfl, hS, hW, hB, hm⟩ := hrel
          have HS := Lib.hid hS
          have HW := Lib.hid hW
          have HBm := Lib.hid (And.intro hB hm)
          clear hS hW hB hm
          by_cases hlt : c < n
          · have HC := Lib.hid hlt
            have cn_ : (c : Int) < (n : Int) := by omega
            have hh : has n r (a : Int) (c : Int) = r a c := has_nat HR.out.ok a c
            have HQ := has_ok br n r (a : Int) (c : Int) wr (HR.out.fr0 HS.out.fr)
            rw [hh] at HQ
            have HQ' := Lib.hid HQ
            have c1 := HS.out.seen.bget hlt
            have z1 := HS.out.seen.frozen c
            clear hc hlt hh HQ
            cases hrc : r a c
            · have HRC := Lib.hid hrc
              rw [hrc] at HQ'
              clear hrc z1 c1
              go_wp2_with (go_at_call 9; refine HQ'.out.mono ?_; rintro e w9 ⟨rfl, rfl⟩)
              go_roundw
              case rel => exact ⟨c + 1, T', S', aa', acp', HC.out, by go_num, rfl, HS.out, HW.out.skip (fun h => by rw [HRC.out] at h; cases h), HBm.out.1, HBm.out.2⟩
              case measure => have := HC.out; simp [intOf]; omega
            · have HRC := Lib.hid hrc
              rw [hrc] at HQ'
              cases hsc : S' c
              · have HSC := Lib.hid hsc
                rw [hsc] at c1
                have SK3 := Lib.hid (HS.out.set_ HC.out)
                have WY3 := Lib.hid (HW.out.add hrc)
                have UA := Lib.hid (unS_add HC.out hsc)
                have TL := Lib.hid (show T'.length ≤ 65 by have := HBm.out.1; have := HN.out; omega)
                clear hrc hsc HS HW
                go_upto_region 22 with (go_at_call 9; refine HQ'.out.mono ?_; rintro e w9 ⟨rfl, rfl⟩)
                clear c1 z1
                generalize (wr.setCell ⟨g, c, none⟩ (.bool true)) = w7 at *
                generalize upd S' c true = S3 at *
                go_wp2_with (at_builtin; refine wpList_append_win _ rfl (.tmp 84) (.tmp 86) 29 rfl 3 i3 _ 1 8 Tryd.underlying29 hi3 hz0 hz1 hz2 rfl (by decide) _ _ _ rfl (SK3.out.todo.alloc _) ⟨w7.heap.size, 0, none⟩ 1 1 [.int .i64 (c : Int)] rfl rfl (cell_one_new _ _ _) (by simp [Value.oneCell']) (by omega) (by have := TL.out; simp only [maxLen]; omega) (by have := TL.out; omega) (w7.heap.size + 1) (by simp) ?_; intro ga off2 acp3 w8 hw8 hgr hat)
                have hgr' := (World.grownBy_alloc w7 _ _).trans hgr
                have e1 : (T' ++ [c]).length = T'.length + 1 := by simp
                rw [← idl_app, ← e1] at hw8
                have SK8 := Lib.hid (SK3.out.app hw8 hgr' (fun k hk => by
                  cases hk
                  exact hat.imp id (fun h => by rw [h]; exact Nat.le_add_right _ _)))
                have E1 := Lib.hid e1
                clear hgr hgr' hat hw8 e1 SK3
                go_roundw
                case rel => exact ⟨c + 1, T' ++ [c], S3, _, _, HC.out, by go_num, by rw [E1.out], SK8.out, WY3.out, by have := HBm.out.1; have := UA.out; have := E1.out; omega, by have := HBm.out.2; have := UA.out; have := E1.out; omega⟩
                case measure => have := HC.out; simp [intOf]; omega
              · have HSC := Lib.hid hsc
                rw [hsc] at c1
                clear hrc hsc z1
                go_wp2_with (go_at_call 9; refine HQ'.out.mono ?_; rintro e w9 ⟨rfl, rfl⟩)
                go_roundw
                case rel => exact ⟨c + 1, T', S', aa', acp', HC.out, by go_num, rfl, HS.out, HW.out.skip (fun _ => HSC.out), HBm.out.1, HBm.out.2⟩
                case measure => have := HC.out; simp [intOf]; omega
          · obtain rfl : c = n := by omega
            have l1 : decide (c < c) = false := by simp
            have WO := Lib.hid (HW.out.done HR.out.ok)
            have NEW := Lib.hid (cntW_eq HS.out.seen)
            clear hc hlt
            go_wp2_with fail
            go_roundw
            case rel => exact ⟨T', S', aa', acp', rfl, HS.out, WO.out, HBm.out.1⟩
            case measure => have h1 := HBm.out.2; have h2 := NEW.out; have h3 := OLD.out; simp only [sln] at *; rw [h2, h3]; omega
  · obtain ⟨f, hfe, hfn⟩ : ∃ f : Nat, from_ % (n : Int) = (f : Int) ∧ f < n := by
      have h2 := Int.emod_nonneg from_ (show (n : Int) ≠ 0 by omega)
      have h3 := Int.emod_lt_of_pos from_ (show 0 < (n : Int) by omega)
      exact ⟨(from_ % (n : Int)).toNat, by omega, by omega⟩
    have h0 : 0 ≤ from_ := by omega
    have hte : from_.tmod (n : Int) = from_ % (n : Int) := Int.tmod_eq_emod_of_nonneg h0
    go_upto_region 13 with fail
    try first | rw [hfe] | rw [hte, hfe]
    have FN := Lib.hid hfn
    clear hfe hfn hf p3 p4 h0 hte
    have SB := Lib.hid (Blk.new w2 4 (barr n fun _ => false).toArray)
    have F3 := Lib.hid ((Fr.refl Nil w2).alloc (.cells (barr n fun _ => false).toArray 4))
    generalize (w2.alloc (.cells (barr n fun _ => false).toArray 4)) = w3 at *
    obtain ⟨g, hg⟩ : ∃ g, g = w2.heap.size := ⟨_, rfl⟩
    rw [← hg] at SB ⊢
    have HG := Lib.hid (Nat.le_of_eq hg.symm)
    clear hg MK
    go_wp2_with fail
    have SK := Lib.hid (show Sk w2 (w3.alloc (.cells #[.int .i64 (f : Int)] 3)) g n (fun _ => false) (.slice (some ⟨w3.heap.size, 0, none⟩) 1 1) [f] from ⟨SB.out.alloc _, Win.full (Blk.new w3 3 #[.int .i64 (f : Int)]) rfl (by decide), fun b hb => (by cases hb; exact F3.out.size), F3.out.alloc _, HG.out⟩)
    clear SB F3
    generalize (w3.alloc (.cells #[.int .i64 (f : Int)] 3)) = w4 at *
    generalize w3.heap.size = g3 at *
    go_loopw [12] (fun lv wr => ∃ (T : List Nat) (S : Nat → Bool) (aa : Option Addr) (acp : Nat), lv = .slice aa T.length acp ∧ Sk w2 wr g n S (.slice aa T.length acp) T ∧ Wo r f T S ∧ T.length + unS S n ≤ n + 1) (fun lv wr => 2 * cntW wr g n + sln lv)
    case atStart => exact ⟨[f], fun _ => false, _, _, rfl, SK.out, Wo.first r f, by have := unS_le (fun _ => false) n; simp; omega⟩
    case round =>
      clear SK
      obtain ⟨T0, S, aa, acp, rfl, hS, hW, hB⟩ := hrel
      have HS := Lib.hid hS
      have HW := Lib.hid hW
      have HBd := Lib.hid hB
      clear hS hW hB
      rcases List.eq_nil_or_concat T0 with rfl | ⟨T, a, rfl⟩
      · have RC := HR.out.fr0 HS.out.fr
        have CL := Lib.hid (closed_ok br n r wr RC)
        have OKr := Lib.hid HR.out.ok
        have EN := Lib.hid (fun b => Wo.end OKr.out HW.out b)
        have e00 : ([] : List Nat).length = 0 := rfl
        rw [e00]
        clear RC
        go_wp2_with fail
        refine CL.out.mono ?_
        rintro e w5 ⟨bc, rfl, c5, f5, -⟩
        have C5 := Lib.hid c5
        have S5 := Lib.hid (HS.out.still f5)
        clear c5 f5 CL HS
        go_wp2_with fail
        go_loopw [16] (fun bi wr => ∃ b : Nat, b ≤ n ∧ bi = .int .i64 (b : Int) ∧ RelAt wr bc n (clo n r) ∧ Blk wr g 4 (barr n S).toArray ∧ Fr Nil w wr) (fun bi _ => n - (intOf bi).toNat)
        case atStart => exact ⟨0, Nat.zero_le _, rfl, C5.out, S5.out.seen, F2.out.trans S5.out.fr⟩
        case round =>
          obtain ⟨b, hb, rfl, hc, hs, hf⟩ := hrel
          clear C5 S5
          have HC := Lib.hid hc
          have HSn := Lib.hid hs
          have HF := Lib.hid hf
          clear hc hs hf
          by_cases hlt : b < n
          · have bn : (b : Int) < (n : Int) := by omega
            have HBn := Lib.hid hlt
            have c1 := HSn.out.bget hlt
            have hh : has n (clo n r) (f : Int) (b : Int) = S b := (has_nat HC.out.ok f b).trans (EN.out b)
            have HQ := Lib.hid (fun k => (has_ok bc n (clo n r) (f : Int) (b : Int) (wr.drewN k) (HC.out.fr0 (Fr.drewN (Fr.refl _ _) k))).mono (R' := fun e w' => e = .returned (.bool (S b)) ∧ w' = wr.drewN k) fun e w' h => ⟨by rw [← hh]; exact h.1, h.2.symm⟩)
            clear hb hlt hh
            generalize S b = sb at *
            go_upto_region 27 with fail
            go_quiet ((go_at_call 9; exact Calls.quiet_of_same (HQ.out _)))
            cases sb
            all_goals
              go_wp2_with fail
              go_roundw
              case rel => exact ⟨b + 1, HBn.out, by go_num, HC.out.fr0 (Fr.drewN (Fr.refl _ _) _), HSn.out.drewN _, HF.out.drewN _⟩
              case measure => have := HBn.out; simp [intOf]; omega
          · obtain rfl : b = n := by omega
            have l1 : decide (b < b) = false := by simp
            clear hb hlt
            go_wp2_with fail
            go_ret
            exact ⟨rfl, HF.out.below (Nat.le_refl _) fun _ _ x => x⟩
      · rw [List.concat_eq_append] at *
        have el : (T ++ [a]).length = T.length + 1 := by simp
        obtain ⟨tg, off, tc, ev, -, -, -, -, -⟩ := HS.out.todo.form (by rw [el]; omega)
        have TD := HS.out.todo
        rw [ev] at TD
        have ca := TD.cellAt (j := T.length) (u := .int .i64 (a : Int)) (by simp [idl])
        have W2 := TD.firsts (m := T.length) (by rw [el]; omega)
        have ei : (idl (T ++ [a])).take (T.length * 1) = idl T := by
          rw [idl_app, Nat.mul_one, List.take_append_of_le_length (by rw [idl_len]; exact Nat.le_refl _), List.take_of_length_le (by rw [idl_len]; exact Nat.le_refl _)]
        rw [ei] at W2
        have SK2 := Lib.hid (show Sk w2 wr g n S (.slice (some ⟨tg, off, none⟩) T.length tc) T from ⟨HS.out.seen, W2, fun b hb => HS.out.own b (by rw [ev]; exact hb), HS.out.fr, HS.out.g0⟩)
        have WY := Lib.hid HW.out.pop
        have OLD := Lib.hid (cntW_eq HS.out.seen)
        have HB2 := Lib.hid (show T.length + 1 + unS S n ≤ n + 1 by have := HBd.out; rw [el] at this; exact this)
        have tl : (T.length : Int) ≤ 65 := by have := HB2.out; have := HN.out; omega
        have hcap : T.length + 1 ≤ tc := by
          rcases TD.2 with ⟨h0, _⟩ | ⟨g', off', cap', cs, hv, hb, h1, _⟩
          · cases h0
          · cases hv; rw [el] at h1; exact h1
        have hcap2 : (T.length : Int) + 1 ≤ (tc : Int) := by omega
        have hcap3 : (tc : Int) ≤ 9223372036854775807 := by
          rcases TD.2 with ⟨h0, _⟩ | ⟨g', off', cap', cs, hv, hb, h1, h2, _⟩
          · cases h0
          · cases hv; simp only [maxLen] at h2; omega
        have hv2 : Value.slice aa (T.length + 1) acp = .slice (some ⟨tg, off, none⟩) (T.length + 1) tc := by rw [← el]; exact ev
        injection hv2 with hv3 hv4 hv5
        subst hv3
        subst hv5
        rw [el]
        generalize hM0 : T.length = tlen at *
        have HM0 := Lib.hid hM0
        clear hM0 TD W2 ei el ev HS HW HBd hcap hv4
        go_wp2_with fail
        clear ca
        go_loopw [12, 14] (fun lv bi wr => ∃ (c : Nat) (T' : List Nat) (S' : Nat → Bool) (aa : Option Addr) (acp' : Nat), c ≤ n ∧ bi = .int .i64 (c : Int) ∧ lv = .slice aa T'.length acp' ∧ Sk w2 wr g n S' (.slice aa T'.length acp') T' ∧ Wy r f T' S' a c ∧ T'.length + unS S' n ≤ n + 1 ∧ 2 * unS S' n + T'.length < 2 * unS S n + (tlen + 1)) (fun _ bi _ => n - (intOf bi).toNat)
        case atStart => exact ⟨0, T, S, _, _, Nat.zero_le _, rfl, by rw [HM0.out], by rw [HM0.out]; exact SK2.out, WY.out, by have := HB2.out; have := HM0.out; omega, by have := HM0.out; omega⟩
        case round =>
          clear SK2 WY
          obtain ⟨c, T', S', aa', acp', hc, rfl, rfl, hS, hW, hB, hm⟩ := hrel
          have HS := Lib.hid hS
          have HW := Lib.hid hW
          have HBm := Lib.hid (And.intro hB hm)
          clear hS hW hB hm
          by_cases hlt : c < n
          · have HC := Lib.hid hlt
            have cn_ : (c : Int) < (n : Int) := by omega
            have hh : has n r (a : Int) (c : Int) = r a c := has_nat HR.out.ok a c
            have HQ := has_ok br n r (a : Int) (c : Int) wr (HR.out.fr0 HS.out.fr)
            rw [hh] at HQ
            have HQ' := Lib.hid HQ
            have c1 := HS.out.seen.bget hlt
            have z1 := HS.out.seen.frozen c
            clear hc hlt hh HQ
            cases hrc : r a c
            · have HRC := Lib.hid hrc
              rw [hrc] at HQ'
              clear hrc z1 c1
              go_wp2_with (go_at_call 9; refine HQ'.out.mono ?_; rintro e w9 ⟨rfl, rfl⟩)
              go_roundw
              case rel => exact ⟨c + 1, T', S', aa', acp', HC.out, by go_num, rfl, HS.out, HW.out.skip (fun h => by rw [HRC.out] at h; cases h), HBm.out.1, HBm.out.2⟩
              case measure => have := HC.out; simp [intOf]; omega
            · have HRC := Lib.hid hrc
              rw [hrc] at HQ'
              cases hsc : S' c
              · have HSC := Lib.hid hsc
                rw [hsc] at c1
                have SK3 := Lib.hid (HS.out.set_ HC.out)
                have WY3 := Lib.hid (HW.out.add hrc)
                have UA := Lib.hid (unS_add HC.out hsc)
                have TL := Lib.hid (show T'.length ≤ 65 by have := HBm.out.1; have := HN.out; omega)
                clear hrc hsc HS HW
                go_upto_region 22 with (go_at_call 9; refine HQ'.out.mono ?_; rintro e w9 ⟨rfl, rfl⟩)
                clear c1 z1
                generalize (wr.setCell ⟨g, c, none⟩ (.bool true)) = w7 at *
                generalize upd S' c true = S3 at *
                go_wp2_with (at_builtin; refine wpList_append_win _ rfl (.tmp 84) (.tmp 86) 29 rfl 3 i3 _ 1 8 Tryd.underlying29 hi3 hz0 hz1 hz2 rfl (by decide) _ _ _ rfl (SK3.out.todo.alloc _) ⟨w7.heap.size, 0, none⟩ 1 1 [.int .i64 (c : Int)] rfl rfl (cell_one_new _ _ _) (by simp [Value.oneCell']) (by omega) (by have := TL.out; simp only [maxLen]; omega) (by have := TL.out; omega) (w7.heap.size + 1) (by simp) ?_; intro ga off2 acp3 w8 hw8 hgr hat)
                have hgr' := (World.grownBy_alloc w7 _ _).trans hgr
                have e1 : (T' ++ [c]).length = T'.length + 1 := by simp
                rw [← idl_app, ← e1] at hw8
                have SK8 := Lib.hid (SK3.out.app hw8 hgr' (fun k hk => by
                  cases hk
                  exact hat.imp id (fun h => by rw [h]; exact Nat.le_add_right _ _)))
                have E1 := Lib.hid e1
                clear hgr hgr' hat hw8 e1 SK3
                go_roundw
                case rel => exact ⟨c + 1, T' ++ [c], S3, _, _, HC.out, by go_num, by rw [E1.out], SK8.out, WY3.out, by have := HBm.out.1; have := UA.out; have := E1.out; omega, by have := HBm.out.2; have := UA.out; have := E1.out; omega⟩
                case measure => have := HC.out; simp [intOf]; omega
              · have HSC := Lib.hid hsc
                rw [hsc] at c1
                clear hrc hsc z1
                go_wp2_with (go_at_call 9; refine HQ'.out.mono ?_; rintro e w9 ⟨rfl, rfl⟩)
                go_roundw
                case rel => exact ⟨c + 1, T', S', aa', acp', HC.out, by go_num, rfl, HS.out, HW.out.skip (fun _ => HSC.out), HBm.out.1, HBm.out.2⟩
                case measure => have := HC.out; simp [intOf]; omega
          · obtain rfl : c = n := by omega
            have l1 : decide (c < c) = false := by simp
            have WO := Lib.hid (HW.out.done HR.out.ok)
            have NEW := Lib.hid (cntW_eq HS.out.seen)
            clear hc hlt
            go_wp2_with fail
            go_roundw
            case rel => exact ⟨T', S', aa', acp', rfl, HS.out, WO.out, HBm.out.1⟩
            case measure => have h1 := HBm.out.2; have h2 := NEW.out; have h3 := OLD.out; simp only [sln] at *; rw [h2, h3]; omega
end Go.Proofs.YtpcpjmbfinpmlaaDoor
