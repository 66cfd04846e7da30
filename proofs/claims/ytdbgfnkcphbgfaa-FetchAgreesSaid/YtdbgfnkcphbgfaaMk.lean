/- Chapter 15: versions. -/
import Derived.Test.YtdbgfnkcphbgfaaVrs
import Derived.Deep.RegionLaw
namespace Go.Proofs.Ytdbgfnkcphbgfaa
open Go.RowKit
set_option linter.unusedVariables false

/-- A box that holds a slice of versions. -/
structure Held (w : World) (B lo : Nat) (vs : List V) : Prop where
  box : ∃ g off cap, Blk w B 52 #[.slice (some ⟨g, off, none⟩) vs.length cap] ∧ Win w 51 4 (.slice (some ⟨g, off, none⟩) vs.length cap) vs.length (vcs vs) ∧ lo ≤ g
theorem Try.info51 : (Try.prog.info? 51).map (fun i => (i.zero, i.size, i.bytes)) = some (some (.agg #[.int .u32 0, .bool false, .bool false, .bool false]), 4, 8) := by kernel_rfl
section
variable {w w' : World} {B lo : Nat} {vs : List V}
theorem Held.alloc (h : Held w B lo vs) (o : Obj) : Held (w.alloc o) B lo vs := by
  obtain ⟨g, off, cap, h1, h2, h3⟩ := h.box
  exact ⟨⟨g, off, cap, h1.alloc o, h2.alloc o, h3⟩⟩
end
/-- What each note does. -/
def Each (F : Nat) (f : V → V) : Prop := ∀ (vs : List V) (B lo : Nat) (w : World), vs.length ≤ maxLen → Held w B lo vs →
  Calls Try.prog 22 #[.func (.func F) #[] #[], .pointer (some ⟨B, 0, none⟩)] w fun e w' => e = .returned (.tuple #[]) ∧ Held w' B lo (vs.map f) ∧ (∀ w0, Fr Nil w0 w → w0.heap.size ≤ lo → Fr Nil w0 w') ∧ ∀ k t cs, Blk w k t cs → t ≠ 51 → Blk w' k t cs
theorem each_of {F : Nat} {f : V → V} (h : ∀ (vs : List V) (B g off cap : Nat) (w : World) (hl : vs.length ≤ maxLen) (hB : Blk w B 52 #[.slice (some ⟨g, off, none⟩) vs.length cap]) (hw : Win w 51 4 (.slice (some ⟨g, off, none⟩) vs.length cap) vs.length (vcs vs)),
    Calls Try.prog 22 #[.func (.func F) #[] #[], .pointer (some ⟨B, 0, none⟩)] w fun e w' => e = .returned (.tuple #[]) ∧ Fr (One g) w w' ∧ Win w' 51 4 (.slice (some ⟨g, off, none⟩) vs.length cap) vs.length (vcs (vs.map f))) : Each F f := by
  intro vs B lo w hl hh
  obtain ⟨g, off, cap, h1, h2, h3⟩ := hh.box
  have hne : B ≠ g := fun e => (h2.ne h1 (by decide)) (by rw [e]; rfl)
  refine (h vs B g off cap w hl h1 h2).mono ?_
  rintro e w' ⟨rfl, hf, hw⟩
  refine ⟨rfl, ⟨⟨g, off, cap, ?_, ?_, h3⟩⟩, fun w0 h0 hs => h0.own1 hf (by omega), fun k t cs hk ht => hk.fr1 hf fun e => (h2.ne hk (Ne.symm ht)) (by rw [e]; rfl)⟩
  · rw [List.length_map]; exact h1.fr1 hf hne
  · rw [List.length_map]; exact hw
theorem over_each : Each 23 V.over := each_of each23
theorem told_each : Each 24 V.told := each_of each24
theorem lose_each : Each 25 V.lose := each_of each25
theorem stepW {core addr : Int} {vs : List V} {n : N} (h : n.k = 1) (ha : (n.a == addr) = true) : stepV core addr vs n = vs.map V.over ++ [⟨n.w, false, false, false⟩] := by simp [stepV, isW, h, ha]
theorem stepI3 {core addr : Int} {vs : List V} {n : N} (h : n.k = 3) : stepV core addr vs n = vs.map V.told := by simp [stepV, isW, isI, h]
theorem stepI2 {core addr : Int} {vs : List V} {n : N} (h : n.k = 2) (ha : (n.a / 64 == addr / 64) = true) : stepV core addr vs n = vs.map V.told := by simp [stepV, isW, isI, h, ha]
theorem stepB {core addr : Int} {vs : List V} {n : N} (h : n.k = 4) (ha : (n.c == core) = true) : stepV core addr vs n = vs.map V.lose := by simp [stepV, isW, isI, isB, h, ha]
theorem step1n {core addr : Int} {vs : List V} {n : N} (h : n.k = 1) (ha : (n.a == addr) = false) : stepV core addr vs n = vs := by simp [stepV, isW, isI, isB, h, ha]
theorem step2n {core addr : Int} {vs : List V} {n : N} (h : n.k = 2) (ha : (n.a / 64 == addr / 64) = false) : stepV core addr vs n = vs := by simp [stepV, isW, isI, isB, h, ha]
theorem step4n {core addr : Int} {vs : List V} {n : N} (h : n.k = 4) (ha : (n.c == core) = false) : stepV core addr vs n = vs := by simp [stepV, isW, isI, isB, h, ha]
theorem step0n {core addr : Int} {vs : List V} {n : N} (h1 : (n.k == 1) = false) (h2 : (n.k == 2) = false) (h3 : (n.k == 3) = false) (h4 : (n.k == 4) = false) : stepV core addr vs n = vs := by simp [stepV, isW, isI, isB, h1, h2, h3, h4]
theorem newv_lit (w : World) (x : Value) (t : TypeId) : ∀ j u, [x, Value.bool false, Value.bool false, Value.bool false][j]? = some u → (w.alloc (.cells #[x, .bool false, .bool false, .bool false] t)).cell? ((⟨w.heap.size, 0, none⟩ : Addr).add j) = some u := by
  intro j u hu
  rw [Addr.add_lit, Nat.zero_add]
  exact (Blk.new w t #[x, .bool false, .bool false, .bool false]).cellv (by simpa using hu)
theorem held_first (w : World) (first : Int) : Held ((w.alloc (.cells #[.int .u32 first, .bool false, .bool false, .bool false] 51)).alloc (.cells #[.slice (some ⟨w.heap.size, 0, none⟩) 1 1] 52)) (w.heap.size + 1) w.heap.size [⟨first, false, false, false⟩] :=
  ⟨⟨w.heap.size, 0, 1, Blk.new2 _ _ _ _, (Win.row (n := 1) (cap := 1) (Blk.new w 51 _) rfl (Nat.le_refl _) (by simp [maxLen]) rfl).alloc _, Nat.le_refl _⟩⟩
set_option maxRecDepth 100000 in
set_option maxHeartbeats 2000000 in
theorem versions_ok (l : List N) (ok : ∀ n ∈ l, n.Ok) (core addr first : Int) (ha0 : 0 ≤ addr) (ha1 : addr ≤ 18446744073709551615) (a : Option Addr) (cap : Nat) (w : World) (hl : l.length ≤ 4398046511096) (hc : l.length ≤ cap) (hm : Nts w a l) :
    Calls Try.prog 17 #[.slice a l.length cap, .int .i64 core, .int .u64 addr, .int .u32 first] w fun e w' => e = .returned (.func (.func 26) #[] #[.pointer (some ⟨w.heap.size + 1, 0, none⟩)]) ∧ Fr Nil w w' ∧ Held w' (w.heap.size + 1) w.heap.size (vers core addr first l) := by
  have OK := Lib.hid ok
  have HM := Lib.hid hm
  obtain ⟨i51, hi51, hz0, hz1, hz2⟩ := info_parts Try.info51
  have H0 := Lib.hid (held_first w first)
  clear hm ok
  go_enter Try.func17, Try.ntmps17
  go_wp2
  go_loopw [19] (fun i wr => ∃ k : Nat, k ≤ l.length ∧ i = .int .i64 (k : Int) ∧ Hid (Held wr (w.heap.size + 1) w.heap.size (vers core addr first (l.take k))) ∧ Fr Nil w wr) (fun i _ => l.length - (intOf i).toNat)
  case atStart => exact ⟨0, Nat.zero_le _, rfl, H0, ((Fr.refl _ _).alloc _).alloc _⟩
  case round =>
    clear H0
    obtain ⟨k, hk, rfl, hh, hf⟩ := hrel
    by_cases hlt : k < l.length
    · obtain ⟨b, off, ha, hb, c0, c1, c2, c3⟩ := HM.out.fr hf k l[k] (List.getElem?_eq_getElem hlt)
      subst ha
      have hV := Lib.hid (vers_take core addr first l k hlt)
      have hVl := (vers_len core addr first (l.take k)).2
      rw [List.length_take, Nat.min_eq_left (by omega)] at hVl
      obtain ⟨k0, k1, d0, d1, a0, a1, w0, w1⟩ := OK.out l[k] (List.getElem_mem hlt)
      generalize l[k] = n at *
      generalize hvs : vers core addr first (l.take k) = vs at *
      clear hvs
      obtain ⟨nk, nc, na, nw⟩ := n
      dsimp only at *
      have HA := Lib.hid (hh.out.alloc (.cells #[.int .i64 nk, .int .i64 nc, .int .u64 na, .int .u32 nw] 31))
      have FA := Lib.hid (hf.alloc (.cells #[.int .i64 nk, .int .i64 nc, .int .u64 na, .int .u32 nw] 31))
      have hcase : nk = 1 ∨ nk = 2 ∨ nk = 3 ∨ nk = 4 ∨ ((nk == 1) = false ∧ (nk == 2) = false ∧ (nk == 3) = false ∧ (nk == 4) = false) := by
        simp only [beq_eq_false_iff_ne]; omega
      rcases hcase with rfl | rfl | rfl | rfl | ⟨e1, e2, e3, e4⟩
      · cases e2 : (na == addr) with
        | true =>
          rw [stepW rfl e2] at hV
          go_upto_region 8 with (go_at_call 22; refine (over_each vs _ _ _ (by unfold maxLen; omega) HA.out).mono ?_; rintro e w' ⟨rfl, hh2, hf2, hk2⟩; have HH2 := Lib.hid hh2; have HF2 := Lib.hid (hf2 _ FA.out (Nat.le_refl _)); have HK2 := Lib.hid hk2; clear hh2 hf2 hk2)
          have bn := HK2.out _ _ _ (Blk.new wr 31 #[.int .i64 1, .int .i64 nc, .int .u64 na, .int .u32 nw]) (by decide)
          obtain ⟨g2, off2, cap2, hB2, hW2, hg2⟩ := HH2.out.box
          rw [List.length_map] at hB2 hW2
          have HB2 := Lib.hid hB2
          have HW2 := Lib.hid hW2
          have HG2 := Lib.hid hg2
          have hne : g2 ≠ w.heap.size + 1 := fun e => (hW2.ne hB2 (by decide)) (by rw [e]; rfl)
          have HNE := Lib.hid hne
          have cN : w'.cell? ⟨wr.heap.size, 3, none⟩ = some (.int .u32 nw) := bn.cellv rfl
          have cB : w'.cell? ⟨w.heap.size + 1, 0, none⟩ = some (.slice (some ⟨g2, off2, none⟩) vs.length cap2) := hB2.cellv rfl
          clear bn hB2 hW2 hne hg2
          go_wp2_with (refine wpList_append_win _ rfl (.tmp 35) (.tmp 39) 52 rfl 51 i51 _ 4 8 Try.underlying52 hi51 hz0 hz1 hz2 rfl (by decide) _ _ _ rfl (HW2.out.alloc _) ⟨w'.heap.size, 0, none⟩ 1 1 [.int .u32 nw, .bool false, .bool false, .bool false] rfl rfl (newv_lit w' _ _) (by simp [Value.oneCell']) (by omega) (by simp only [maxLen]; omega) (by omega) (w'.heap.size + 1) (by simp) ?_; intro g off' cap' w3 hw3 hgr hat; have hgr' : w'.grownBy w3 (some g2) := (World.grownBy_alloc w' _ _).trans hgr; have hb3 := HB2.out.grown hgr' (fun e => HNE.out (by cases e; rfl)); have HW3 := Lib.hid hw3; have HGR := Lib.hid hgr'; have HAT := Lib.hid hat; have HB3 := Lib.hid hb3; have cB3 := hb3.cellv (i := 0) rfl; have fB3 := hb3.frozen 0; clear hw3 hgr hgr' hat hb3)
          have HFIN : Hid (Held (w3.setCell ⟨w.heap.size + 1, 0, none⟩ (.slice (some ⟨g, off', none⟩) (vs.length + 1) cap')) (w.heap.size + 1) w.heap.size (vers core addr first (l.take (k + 1))) ∧ Fr Nil w (w3.setCell ⟨w.heap.size + 1, 0, none⟩ (.slice (some ⟨g, off', none⟩) (vs.length + 1) cap'))) := by
            refine Lib.hid ⟨⟨⟨g, off', cap', ?_, ?_, ?_⟩⟩, ?_⟩
            · rw [hV.out, List.length_append, List.length_map]
              exact HB3.out.set_ 0 _
            · rw [hV.out, List.length_append, List.length_map, vcs_append]
              refine Win.far HW3.out ?_ _
              exact fun e => HW3.out.ne HB3.out (by decide) e
            · have := HG2.out
              have := HF2.out.size
              rcases HAT.out with h | h
              · cases h; omega
              · omega
            · refine Fr.setNew ?_ (by omega) _
              exact HF2.out.grown HGR.out fun k hk => .inr (by cases hk; exact HG2.out)
          go_roundw
          case rel => exact ⟨k + 1, by omega, by go_num, HFIN.out.1, HFIN.out.2⟩
          case measure => simp [intOf]; omega
        | false =>
          rw [step1n rfl e2] at hV
          go_wp2
          go_roundw
          case rel => exact ⟨k + 1, by omega, by go_num, by rw [hV.out]; exact HA, FA.out⟩
          case measure => simp [intOf]; omega
      · cases e2 : (na / 64 == addr / 64) with
        | true =>
          rw [stepI2 rfl e2] at hV
          go_wp2_with (go_at_call 22; refine (told_each vs _ _ _ (by unfold maxLen; omega) HA.out).mono ?_; rintro e w' ⟨rfl, hh2, hf2, hk2⟩; have HH2 := Lib.hid hh2; have HF2 := Lib.hid (hf2 _ FA.out (Nat.le_refl _)); have HK2 := Lib.hid hk2; clear hh2 hf2 hk2)
          go_roundw
          case rel => exact ⟨k + 1, by omega, by go_num, by rw [hV.out]; exact HH2, HF2.out⟩
          case measure => simp [intOf]; omega
        | false =>
          rw [step2n rfl e2] at hV
          go_wp2
          go_roundw
          case rel => exact ⟨k + 1, by omega, by go_num, by rw [hV.out]; exact HA, FA.out⟩
          case measure => simp [intOf]; omega
      ·
        rw [stepI3 rfl] at hV
        go_wp2_with (go_at_call 22; refine (told_each vs _ _ _ (by unfold maxLen; omega) HA.out).mono ?_; rintro e w' ⟨rfl, hh2, hf2, hk2⟩; have HH2 := Lib.hid hh2; have HF2 := Lib.hid (hf2 _ FA.out (Nat.le_refl _)); have HK2 := Lib.hid hk2; clear hh2 hf2 hk2)
        go_roundw
        case rel => exact ⟨k + 1, by omega, by go_num, by rw [hV.out]; exact HH2, HF2.out⟩
        case measure => simp [intOf]; omega
      · cases e2 : (nc == core) with
        | true =>
          rw [stepB rfl e2] at hV
          go_wp2_with (go_at_call 22; refine (lose_each vs _ _ _ (by unfold maxLen; omega) HA.out).mono ?_; rintro e w' ⟨rfl, hh2, hf2, hk2⟩; have HH2 := Lib.hid hh2; have HF2 := Lib.hid (hf2 _ FA.out (Nat.le_refl _)); have HK2 := Lib.hid hk2; clear hh2 hf2 hk2)
          go_roundw
          case rel => exact ⟨k + 1, by omega, by go_num, by rw [hV.out]; exact HH2, HF2.out⟩
          case measure => simp [intOf]; omega
        | false =>
          rw [step4n rfl e2] at hV
          go_wp2
          go_roundw
          case rel => exact ⟨k + 1, by omega, by go_num, by rw [hV.out]; exact HA, FA.out⟩
          case measure => simp [intOf]; omega
      ·
        rw [step0n e1 e2 e3 e4] at hV
        go_wp2
        go_roundw
        case rel => exact ⟨k + 1, by omega, by go_num, by rw [hV.out]; exact HA, FA.out⟩
        case measure => simp [intOf]; omega
    · have hk' : k = l.length := by omega
      subst hk'
      have hd : decide (l.length < l.length) = false := by simp
      go_wp2
      go_ret
      exact ⟨rfl, hf, by have := hh.out; rw [List.take_length] at this; exact this⟩
end Go.Proofs.Ytdbgfnkcphbgfaa
