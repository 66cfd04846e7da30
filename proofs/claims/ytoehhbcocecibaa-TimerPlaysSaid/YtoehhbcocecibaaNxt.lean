/- Contract of Next. -/
import Derived.Test.YtoehhbcocecibaaPop
namespace Go.Proofs.Ytoehhbcocecibaa
open Go.RowKit
set_option linter.unusedVariables false

/-- Does a core's line come? -/
def candB (s : Ts) (i : Nat) : Bool := decide (s.c i = 1) && decide (s.t < s.v i)
/-- The moments to come, of the first k cores. -/
def cl (s : Ts) (k : Nat) : List Mo := ((List.range k).filter (candB s)).map fun i => (s.v i, (i : Int))
theorem cl_succ (s : Ts) (k : Nat) : cl s (k + 1) = if candB s k = true then cl s k ++ [(s.v k, (k : Int))] else cl s k := by
  unfold cl
  rw [List.range_succ, List.filter_append, List.map_append]
  cases h : candB s k <;> simp [List.filter_cons, h]
theorem cl_length (s : Ts) (k : Nat) : (cl s k).length ≤ k := by
  unfold cl
  rw [List.length_map]
  exact Nat.le_trans (List.length_filter_le _ _) (by simp)
theorem cl_mem {s : Ts} {k : Nat} {m : Mo} : m ∈ cl s k ↔ ∃ i, i < k ∧ candB s i = true ∧ m = (s.v i, (i : Int)) := by
  simp only [cl, List.mem_map, List.mem_filter, List.mem_range]
  constructor
  · rintro ⟨i, ⟨h1, h2⟩, rfl⟩; exact ⟨i, h1, h2, rfl⟩
  · rintro ⟨i, h1, h2, rfl⟩; exact ⟨i, ⟨h1, h2⟩, rfl⟩
def lf (l : List Mo) (i : Nat) : Mo := l[i]?.getD (0, 0)
theorem rows_snoc (l : List Mo) (m : Mo) : rows (mo (lf (l ++ [m]))) (l.length + 1) = rows (mo (lf l)) l.length ++ [.int .i64 m.2, .int .u64 m.1] := by
  rw [rows_succ]
  congr 1
  · refine rows_congr fun i hi => ?_
    simp [mo, lf, List.getElem?_append_left hi]
  · simp [mo, lf]
/-- What Next answers. -/
def NextR (s : Ts) (x y : Int) (z : Bool) : Prop :=
  (x = 0 ∧ y = 0 ∧ z = false ∧ ∀ i, i < s.n → candB s i = false) ∨
  (∃ k : Nat, k < s.n ∧ candB s k = true ∧ (∀ i, i < s.n → candB s i = true → ltM (s.v i, (i : Int)) (s.v k, (k : Int)) = false) ∧ x = (k : Int) ∧ y = s.v k - s.t ∧ z = true)
theorem NextR.unique {s : Ts} {x y x' y' : Int} {z z' : Bool} (h : NextR s x y z) (h' : NextR s x' y' z') : x = x' ∧ y = y' ∧ z = z' := by
  rcases h with ⟨rfl, rfl, rfl, h⟩ | ⟨k, hk, h1, h2, rfl, rfl, rfl⟩
  · rcases h' with ⟨rfl, rfl, rfl, _⟩ | ⟨k, hk, h1, _⟩
    · exact ⟨rfl, rfl, rfl⟩
    · rw [h k hk] at h1; cases h1
  · rcases h' with ⟨rfl, rfl, rfl, h'⟩ | ⟨k', hk', h1', h2', rfl, rfl, rfl⟩
    · rw [h' k hk] at h1; cases h1
    · have a := h2 k' hk' h1'
      have b := h2' k hk h1
      simp only [ltM, decide_eq_false_iff_not] at a b
      have : k = k' := by omega
      subst this
      exact ⟨rfl, rfl, rfl⟩
def NextTo (w : World) (s : Ts) (e : Ending) (w' : World) : Prop := ∃ x y z, NextR s x y z ∧ e = .returned (.tuple #[.int .i64 x, .int .u64 y, .bool z]) ∧ Fr Nil w w'
theorem Try.info63 : (Try.prog.info? 63).map (fun i => (i.zero, i.size, i.bytes)) = some (some (.agg #[.int .i64 0, .int .u64 0]), 2, 16) := by kernel_rfl
theorem news2 (w : World) (x y : Value) (t : TypeId) : ∀ j u, [x, y][j]? = some u → (w.alloc (.cells #[x, y] t)).cell? ((⟨w.heap.size, 0, none⟩ : Addr).add j) = some u := by
  intro j u hu
  rw [Addr.add_lit, Nat.zero_add]
  exact (Blk.new w t #[x, y]).cellv (by simpa using hu)
theorem run_assert63 (v : Value) (w : World) : (Instr.typeAssert (.iface 63 v) 20 63 false).run Try.prog w = .ok v w := by
  have hu := Try.underlying63
  simp [Instr.typeAssert, run_underlying hu, Sem.run_bind]
set_option maxHeartbeats 4000000 in
theorem next_ok (b r : Nat) (s : Ts) (w : World) (hm : TmAt w b r s) (hg : Right s) : Calls Try.prog 18 #[.pointer (some ⟨b, 0, none⟩)] w (NextTo w s) := by
  have HM := Lib.hid hm
  have HG := Lib.hid hg
  have c1 := hm.sl
  have n8 : (s.n : Int) ≤ 8 := by have := hg.n8; omega
  have hA := Blk.new w 61 #[.slice none 0 0]
  have hlt : b < w.heap.size ∧ r < w.heap.size := ⟨hm.top.lt, hm.regs.lt⟩
  have HLT := Lib.hid hlt
  have HF := Lib.hid (show Fr Nil w (w.alloc (.cells #[.slice none 0 0] 61)) from (Fr.refl _ _).alloc _)
  have HA := Lib.hid hA
  obtain ⟨i63, hi63, hz0, hz1, hz2⟩ := info_parts Try.info63
  have hsz : (w.alloc (.cells #[.slice none 0 0] 61)).heap.size = w.heap.size + 1 := by simp
  have HSZ := Lib.hid hsz
  clear hm hg hA hlt hsz
  go_enter Try.func18, Try.ntmps18
  go_upto_region 2 with fail
  have c1' := (HM.out.fr0 HF.out).sl
  generalize hw0 : (w.alloc (.cells #[.slice none 0 0] 61)) = w0 at *
  obtain ⟨A, hAe⟩ : ∃ A, A = w.heap.size := ⟨_, rfl⟩
  rw [← hAe] at HA HLT HSZ ⊢
  have HAE := Lib.hid hAe
  clear hAe hw0 c1
  go_wp2_with fail
  go_loopw [14] (fun i wr => ∃ (k : Nat) (v : Value), i = .int .i64 (k : Int) ∧ k ≤ s.n ∧ TmAt wr b r s ∧ Blk wr A 61 #[v] ∧ Win wr 63 2 v (cl s k).length (rows (mo (lf (cl s k))) (cl s k).length) ∧ Fr Nil w wr ∧ ∀ g, v.ownBlock = some g → A ≤ g) (fun i _ => s.n - (intOf i).toNat)
  case atStart => exact ⟨0, .slice none 0 0, rfl, Nat.zero_le _, HM.out.fr0 HF.out, HA.out, Win.nil _ _ _, HF.out, fun g h => by cases h⟩
  case round =>
    obtain ⟨k, v, rfl, hk, tm, bA, wn, fr, own⟩ := hrel
    have hll := cl_length s k
    by_cases hkn : k < s.n
    · have d0 := tm.cnt
      have d1 := tm.r0 hkn
      have d2 := tm.r1 hkn
      have d3 := tm.r2 hkn
      have hc4 := HG.out.c4 k hkn
      have k0 : (0 : Int) ≤ (k : Int) := by omega
      have k1 : (k : Int) < (s.n : Int) := by omega
      have TM := Lib.hid tm
      have BA := Lib.hid bA
      have WN := Lib.hid wn
      have FR := Lib.hid fr
      have OW := Lib.hid own
      have HK := Lib.hid (And.intro hkn hk)
      have HLL := Lib.hid hll
      have hAO : A ≠ wr.heap.size := fun e => by have := bA.lt; omega
      clear tm bA wn fr own hkn hk hll c1'
      go_upto_region 5 with fail
      have hf1 : Fr Nil wr (wr.alloc (.cells #[.pointer (some ⟨b, 0, none⟩), .int .u64 (s.c k : Int), .int .u64 (s.v k)] 56)) := (Fr.refl _ _).alloc _
      have hO := Blk.new wr 56 #[.pointer (some ⟨b, 0, none⟩), .int .u64 (s.c k : Int), .int .u64 (s.v k)]
      generalize (wr.alloc (.cells #[.pointer (some ⟨b, 0, none⟩), .int .u64 (s.c k : Int), .int .u64 (s.v k)] 56)) = w1 at *
      generalize wr.heap.size = O at *
      have e0 := (TM.out.fr0 hf1).cnt
      have e1 := hO.cellv (i := 1) rfl
      have e2 := hO.cellv (i := 2) rfl
      have F1 := Lib.hid hf1
      have HO := Lib.hid hO
      clear d0 d1 d2 d3 hf1 hO
      cases hcand : candB s k
      · have CL := cl_succ s k
        rw [hcand] at CL
        have CLH := Lib.hid (show cl s (k + 1) = cl s k from CL)
        clear CL
        by_cases h1 : s.c k = 1
        · have h2 : s.v k ≤ s.t := by simp [candB, h1] at hcand; exact hcand
          rw [h1] at e1 ⊢
          have e1' : w1.cell? ⟨O, 1, none⟩ = some (.int .u64 1) := e1
          clear e1 hcand h1 hc4
          go_quiet (fail)
          go_wp2_with fail
          go_roundw
          case rel => exact ⟨k + 1, v, by simp, HK.out.1, (TM.out.fr0 F1.out).fr0 (Fr.drewN (Fr.refl _ _) _), (BA.out.fr0 F1.out).drewN _, by rw [CLH.out]; exact (WN.out.fr F1.out fun _ _ => id).fr (Fr.drewN (Fr.refl Nil _) _) fun _ _ => id, (FR.out.trans F1.out).drewN _, OW.out⟩
          case measure => have := HK.out; simp [intOf]; omega
        · have h1' : ((s.c k : Int) == 1) = false := by simp; omega
          clear hcand h1 hc4
          go_quiet (fail)
          go_wp2_with fail
          go_roundw
          case rel => exact ⟨k + 1, v, by simp, HK.out.1, (TM.out.fr0 F1.out).fr0 (Fr.drewN (Fr.refl _ _) _), (BA.out.fr0 F1.out).drewN _, by rw [CLH.out]; exact (WN.out.fr F1.out fun _ _ => id).fr (Fr.drewN (Fr.refl Nil _) _) fun _ _ => id, (FR.out.trans F1.out).drewN _, OW.out⟩
          case measure => have := HK.out; simp [intOf]; omega
      · have CL := cl_succ s k
        rw [hcand] at CL
        have CLH := Lib.hid (show cl s (k + 1) = cl s k ++ [(s.v k, (k : Int))] from CL)
        clear CL
        have h12 : s.c k = 1 ∧ s.t < s.v k := by simpa [candB] using hcand
        obtain ⟨h1, h2⟩ := h12
        rw [h1] at e1 ⊢
        have e1' : w1.cell? ⟨O, 1, none⟩ = some (.int .u64 1) := e1
        have HO' := HO.out
        rw [h1] at HO'
        have HO2 := Lib.hid HO'
        clear e1 hcand h1 hc4 HO' HO
        go_quiet (fail)
        have fd : ∀ m, Fr Nil w1 (w1.drewN m) := fun m => Fr.drewN (Fr.refl _ _) m
        obtain ⟨ao, cap, hv, _, _, _⟩ := WN.out.shape
        have BA2 := Lib.hid (fun m => (BA.out.fr0 F1.out).drewN m)
        have WN2 := Lib.hid (fun m => (WN.out.fr F1.out fun _ _ => id).fr (fd m) fun _ _ => id)
        have TM2 := Lib.hid (fun m => (TM.out.fr0 F1.out).fr0 (fd m))
        have FR2 := Lib.hid (fun m => (FR.out.trans F1.out).drewN m)
        have HO3 := Lib.hid (fun m => HO2.out.drewN m)
        clear fd e0 e2 e1' h2
        generalize hwq : w1.drewN _ = wq
        obtain ⟨m, hm⟩ : ∃ m, w1.drewN m = wq := ⟨_, hwq⟩
        have TMq := Lib.hid (show TmAt wq b r s from hm ▸ TM2.out m)
        have BAq := Lib.hid (show Blk wq A 61 #[v] from hm ▸ BA2.out m)
        have WNq := Lib.hid (show Win wq 63 2 v (cl s k).length (rows (mo (lf (cl s k))) (cl s k).length) from hm ▸ WN2.out m)
        have FRq := Lib.hid (show Fr Nil w wq from hm ▸ FR2.out m)
        have HOq := Lib.hid (show Blk wq O 56 #[.pointer (some ⟨b, 0, none⟩), .int .u64 1, .int .u64 (s.v k)] from hm ▸ HO3.out m)
        clear hm hwq
        have hne := WNq.out.ne BAq.out (by decide)
        have ca := BAq.out.cellv (i := 0) rfl
        have fa := BAq.out.frozen 0
        have o2 := HOq.out.cellv (i := 2) rfl
        rw [hv] at ca hne
        have wv := WNq.out
        rw [hv] at wv
        have WV := Lib.hid wv
        have HNE := Lib.hid hne
        have HV := Lib.hid hv
        have bn : (cl s k).length ≤ 8 := by have := HLL.out; have := HK.out; have := HG.out.n8; omega
        have BN := Lib.hid bn
        clear hne wv hv bn
        have caA := (BAq.out.alloc (.cells #[.int .i64 (k : Int), .int .u64 (s.v k)] 63)).cellv (i := 0) rfl
        rw [HV.out] at caA
        go_wp2_with (at_builtin; refine wpList_append_win _ rfl (.tmp 31) (.tmp 36) 61 rfl 63 i63 _ 2 16 Try.underlying61 hi63 hz0 hz1 hz2 rfl (by decide) _ _ _ rfl (WV.out.alloc _) ⟨wq.heap.size, 0, none⟩ 1 1 [.int .i64 (k : Int), .int .u64 (s.v k)] rfl rfl (news2 wq _ _ _) (by simp [Value.oneCell']) (by omega) (by have := BN.out; simp only [maxLen]; omega) (by have := BN.out; omega) (wq.heap.size + 1) (by simp) ?_; intro ga off2 acp2 w4 hw4 hgr hat; have hgr' : wq.grownBy w4 (Value.slice ao (cl s k).length cap).ownBlock := (World.grownBy_alloc wq _ _).trans hgr; have hc1 := (BAq.out.grown hgr' (Ne.symm HNE.out)).cellv (i := 0) rfl; have hf1 := (BAq.out.grown hgr' (Ne.symm HNE.out)).frozen 0)
        have el : (cl s (k + 1)).length = (cl s k).length + 1 := by rw [CLH.out]; simp
        have er : rows (mo (lf (cl s (k + 1)))) (cl s (k + 1)).length = rows (mo (lf (cl s k))) (cl s k).length ++ [.int .i64 (k : Int), .int .u64 (s.v k)] := by
          rw [el, CLH.out]; exact rows_snoc _ _
        have hAo : A ≤ wq.heap.size := by have := BAq.out.lt; omega
        have own2 : ∀ g, (Value.slice (some ⟨ga, off2, none⟩) ((cl s k).length + 1) acp2).ownBlock = some g → A ≤ g := fun g hg => by
          cases hg
          rcases hat with h | h
          · exact OW.out _ (by rw [HV.out]; exact h)
          · exact Nat.le_trans hAo (by rw [h]; exact Nat.le_add_right _ _)
        have fw : Fr (fun g => (Value.slice ao (cl s k).length cap).ownBlock = some g) wq w4 := (Fr.refl _ wq).grown hgr' fun g hg => .inl hg
        have oo : ∀ g, (Value.slice ao (cl s k).length cap).ownBlock = some g → A ≤ g := fun g hg => OW.out g (by rw [HV.out]; exact hg)
        have tm4 : TmAt w4 b r s := TMq.out.fr fw (fun h => by have := oo _ h; have := HLT.out; omega) (fun h => by have := oo _ h; have := HLT.out; omega)
        have tm5 : TmAt (w4.setCell ⟨A, 0, none⟩ (.slice (some ⟨ga, off2, none⟩) ((cl s k).length + 1) acp2)) b r s := ⟨tm4.top.farc (fun e => by have := HLT.out; omega) _, tm4.regs.farc (fun e => by have := HLT.out; omega) _⟩
        have ba5 := ((BAq.out.grown hgr' (Ne.symm HNE.out)).set_ 0 (.slice (some ⟨ga, off2, none⟩) ((cl s k).length + 1) acp2)).cast (cs' := #[.slice (some ⟨ga, off2, none⟩) ((cl s k).length + 1) acp2]) rfl
        have wn5 := hw4.far (g := A) (i := 0) (hw4.ne (BAq.out.grown hgr' (Ne.symm HNE.out)) (by decide)) (.slice (some ⟨ga, off2, none⟩) ((cl s k).length + 1) acp2)
        have wn6 : Win (w4.setCell ⟨A, 0, none⟩ (.slice (some ⟨ga, off2, none⟩) ((cl s k).length + 1) acp2)) 63 2 (.slice (some ⟨ga, off2, none⟩) ((cl s k).length + 1) acp2) (cl s (k + 1)).length (rows (mo (lf (cl s (k + 1)))) (cl s (k + 1)).length) := by rw [er, el]; exact wn5
        have fr5 : Fr Nil w (w4.setCell ⟨A, 0, none⟩ (.slice (some ⟨ga, off2, none⟩) ((cl s k).length + 1) acp2)) :=
          (FRq.out.step fw fun g _ hg => .inr (by rw [← HAE.out]; exact oo g hg)).setNew (by rw [← HAE.out]; exact Nat.le_refl _) _
        have REL := Lib.hid (And.intro tm5 (And.intro ba5 (And.intro wn6 (And.intro fr5 own2))))
        have EL := Lib.hid el
        clear el er hAo own2 fw oo tm4 tm5 ba5 wn5 wn6 fr5 hc1 hf1 hgr hat hw4 hgr' ca fa o2 caA
        go_wp2_with fail
        go_roundw
        case rel => exact ⟨k + 1, _, by simp, HK.out.1, REL.out.1, REL.out.2.1, REL.out.2.2.1, REL.out.2.2.2.1, REL.out.2.2.2.2⟩
        case measure => have := HK.out; simp [intOf]; omega
    · have k1 : (s.n : Int) ≤ (k : Int) := by omega
      have hke : k = s.n := by omega
      subst hke
      have TM := Lib.hid tm
      have BA := Lib.hid bA
      have FR := Lib.hid fr
      have OW := Lib.hid own
      have WN := Lib.hid wn
      have ca := bA.cellv (i := 0) rfl
      rcases Nat.eq_zero_or_pos (cl s s.n).length with h0 | h0
      · obtain ⟨ao, cap, hv, _, _, _⟩ := wn.shape
        rw [h0] at hv
        rw [hv] at ca
        have hnil : cl s s.n = [] := List.eq_nil_of_length_eq_zero h0
        have NR := Lib.hid (show NextR s 0 0 false from .inl ⟨rfl, rfl, rfl, fun i hi => by
          cases h : candB s i with
          | false => rfl
          | true =>
            have : (s.v i, (i : Int)) ∈ cl s s.n := cl_mem.2 ⟨i, hi, h, rfl⟩
            rw [hnil] at this
            cases this⟩)
        clear tm bA wn fr own hkn hk hll c1' h0 hnil hv
        go_wp2_with fail
        go_ret3
        exact ⟨_, _, _, NR.out, rfl, FR.out⟩
      · obtain ⟨g, off, cap, hv, _, _, _, _, _⟩ := wn.form h0
        obtain ⟨n, hn⟩ : ∃ n, (cl s s.n).length = n + 1 := ⟨(cl s s.n).length - 1, by omega⟩
        rw [hn] at wn hv hll
        rw [hv] at wn bA ca
        have hn8 : n ≤ 8 := by have := HG.out.n8; omega
        have hgA : A ≤ g := own g (by rw [hv]; rfl)
        have IN := Lib.hid (init_ok A g off (n + 1) cap _ wr bA wn (by omega))
        have HGA := Lib.hid hgA
        have HNL := Lib.hid hn
        have HN8 := Lib.hid hn8
        have BA2 := Lib.hid bA
        have hneA : A ≠ g := fun e => wn.ne bA (by decide) (by rw [← e]; rfl)
        have HNA := Lib.hid hneA
        have n0 : (0 : Int) ≤ (n : Int) := by omega
        clear tm bA wn fr own hkn hk hll c1' h0 hn hv hn8 hgA hneA
        go_wp2_with fail
        refine IN.out.mono ?_
        rintro e w2 ⟨rfl, f2, V', wn2, hp2, pm2⟩
        have ba2 := BA2.out.fr1 f2 HNA.out
        have HPP := Lib.hid (hpop_ok A g off n cap V' w2 ba2 wn2 hp2 (by have := HN8.out; omega))
        have F2 := Lib.hid f2
        have PM2 := Lib.hid pm2
        have HP2 := Lib.hid hp2
        clear f2 wn2 hp2 pm2 ba2 IN
        go_wp2_with fail
        refine HPP.out.mono ?_
        rintro e w3 ⟨rfl, f3, _⟩
        have fall : Fr Nil w w3 := (FR.out.step F2.out fun i _ hi => .inr (by rw [← HAE.out, show i = g from hi]; exact HGA.out)).step f3 fun i _ hi => .inr (by
          rw [← HAE.out]
          rcases hi with hi | hi
          · rw [hi]; exact Nat.le_refl _
          · rw [hi]; exact HGA.out)
        have tm3 : TmAt w3 b r s := (TM.out.fr F2.out (fun h => by have := HLT.out; have := HGA.out; have : b = g := h; omega) (fun h => by have := HLT.out; have := HGA.out; have : r = g := h; omega)).fr f3 (fun h => by
          have := HLT.out; have := HGA.out
          rcases h with h | h <;> omega) (fun h => by
          have := HLT.out; have := HGA.out
          rcases h with h | h <;> omega)
        have hmem : ∃ i, i < s.n ∧ candB s i = true ∧ V' 0 = (s.v i, (i : Int)) := by
          obtain ⟨i, hi, he⟩ := PM2.out.bw 0 (by omega)
          have : V' 0 ∈ cl s s.n := by
            rw [← he]
            show ((cl s s.n)[i]?.getD (0, 0)) ∈ _
            rw [List.getElem?_eq_getElem (by rw [HNL.out]; exact hi)]
            exact List.getElem_mem _
          exact cl_mem.1 this
        obtain ⟨i, hi, hc, hv0⟩ := hmem
        have hleast : ∀ j, j < s.n → candB s j = true → ltM (s.v j, (j : Int)) (s.v i, (i : Int)) = false := by
          intro j hj hcj
          have hm : (s.v j, (j : Int)) ∈ cl s s.n := cl_mem.2 ⟨j, hj, hcj, rfl⟩
          obtain ⟨x, hx, hxe⟩ := List.getElem_of_mem hm
          obtain ⟨y, hy, hye⟩ := PM2.out.fw x (by rw [HNL.out] at hx; exact hx)
          have := HP2.out.least ordM y hy
          rw [hye, hv0] at this
          have e2 : lf (cl s s.n) x = (s.v j, (j : Int)) := by simp [lf, List.getElem?_eq_getElem hx, hxe]
          rw [e2] at this
          exact this
        have NR := Lib.hid (show NextR s (i : Int) (s.v i - s.t) true from .inr ⟨i, hi, hc, hleast, rfl, rfl, rfl⟩)
        have hlt2 : s.t < s.v i := by simp [candB] at hc; exact hc.2
        have hv1 := HG.out.v1 i hi
        have ht0 := HG.out.t0
        rw [hv0]
        have FA := Lib.hid fall
        have T3 := Lib.hid tm3
        clear fall tm3 hi hc hv0 hleast f3 HPP
        have hta := fun w => run_assert63 (.agg #[.int .i64 (i : Int), .int .u64 (s.v i)]) w
        go_upto_region 12 with fail
        clear hta
        have hf4 := (Fr.refl Nil w3).alloc (.cells #[.int .i64 (i : Int), .int .u64 (s.v i)] 63)
        have hB4 := Blk.new w3 63 #[.int .i64 (i : Int), .int .u64 (s.v i)]
        generalize (w3.alloc (.cells #[.int .i64 (i : Int), .int .u64 (s.v i)] 63)) = w4 at *
        generalize w3.heap.size = B4 at *
        have x0 := hB4.cellv (i := 0) rfl
        have x1 := hB4.cellv (i := 1) rfl
        have x2 := (T3.out.fr0 hf4).cnt
        have F4 := Lib.hid (FA.out.trans hf4)
        have wsub : IntKind.u64.wrap (s.v i - s.t) = s.v i - s.t := by rw [IntKind.wrap_u64]; omega
        clear hf4 hB4 hlt2 hv1 ht0
        go_quiet (fail)
        clear wsub
        go_wp2_with fail
        go_ret3
        exact ⟨_, _, _, NR.out, rfl, F4.out.drewN _⟩
end Go.Proofs.Ytoehhbcocecibaa
