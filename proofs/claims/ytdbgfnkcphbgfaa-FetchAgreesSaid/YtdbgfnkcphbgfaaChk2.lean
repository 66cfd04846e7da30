/- Chapter 15: Check with what stood ahead told out of a box; Check of a trace that is not right. -/
import Derived.Test.YtdbgfnkcphbgfaaChk
namespace Go.Proofs.Ytdbgfnkcphbgfaa
open Go.RowKit Go.Shelf
set_option linter.unusedVariables false
attribute [local go_sem] Oper.semAt_some

theorem check_bad (l : List N) (ok : ∀ n ∈ l, n.Ok) (a : Option Addr) (cap : Nat) (fv : Value) (w : World) (hl : l.length ≤ maxLen) (hc : l.length ≤ cap) (hm : Nts w a l) (hr : rightL l = false) :
    Calls Try.prog 14 #[.slice a l.length cap, fv] w fun e w' => e = .returned (.tuple #[.int .i64 0, .int .i64 1]) ∧ Fr Nil w w' := by
  have HA := Lib.hid (fun W (h : Nts W a l) => all_ok l ok a cap W hl hc h)
  rw [hr] at HA
  have HM := Lib.hid hm
  clear hm hr ok
  go_enter Try.func14, Try.ntmps14
  go_wp2_with fail
  go_step3
  go_wp2_with (go_at_call 16; refine (HA.out _ HM.out).mono ?_; rintro e w1 ⟨rfl, F1⟩)
  rw [Exit.noGoto_ret]
  go_ret2
  exact ⟨rfl, F1⟩
set_option maxRecDepth 100000 in
set_option maxHeartbeats 2000000 in
theorem check_none (first : Int) (bx : Nat) (l : List N) (ok : ∀ n ∈ l, n.Ok) (a : Option Addr) (cap : Nat) (w : World) (hl : l.length ≤ 4398046511096) (hc : l.length ≤ cap) (hm : Nts w a l) (hr : rightL l = true) (hbx : Blk w bx 24 #[.int .u32 first]) :
    Calls Try.prog 14 #[.slice a l.length cap, .func (.func 13) #[] #[.pointer (some ⟨bx, 0, none⟩)]] w fun e w' => e = .returned (.tuple #[.int .i64 (chk first [] l), .int .i64 0]) ∧ Fr Nil w w' := by
  have HA := Lib.hid (fun W (h : Nts W a l) => all_ok l ok a cap W (by unfold maxLen; omega) hc h)
  rw [hr] at HA
  have HM := Lib.hid hm
  have OK := Lib.hid ok
  have HBX := Lib.hid hbx
  clear hm hr ok hbx
  refine (callsIn_wide (n := 5)).1 ?_
  refine callsIn_of_wp_marks Try.func14 rfl trivial ?_ rfl
  refine wpIn_wide.2 ?_
  simp only [Try.ntmps14, List.size_toArray, List.length_cons, List.length_nil, Nat.reduceAdd, Nat.reduceSub, Array.replicate_succ, Array.replicate_zero, List.push_toArray, List.append_toArray, List.nil_append, List.cons_append]
  go_wp2_with fail
  go_step3
  go_wp2_with (go_at_call 16; refine (HA.out _ HM.out).mono ?_; rintro e w1 ⟨rfl, F1⟩; have HF1 := Lib.hid F1; clear F1)
  go_step3
  go_wp2
  refine wp_loop (fun a' W => ∃ (k : Nat) (ms : List Nat), k ≤ l.length ∧ Hid (Clean first l k) ∧ Hid (Fr Nil w W) ∧ Hid (Marks w.heap.size ms W) ∧ ∃ (u6 u7 u8 u15 u16 u17 u18 u19 u20 u21 u22 u23 u24 u25 u26 u27 u28 u29 u30 u31 u32 u33 u34 u35 u36 u37 u38 u39 u40 : Value), a' = { tmps := #[Value.slice a l.length cap, Value.func (Fn.func 13) #[] #[.pointer (some ⟨bx, 0, none⟩)], undef, undef, Value.int IntKind.i64 0, Value.int IntKind.i64 0, u6, u7, u8, Value.slice a l.length cap, Value.bool true, Value.bool false, Value.slice a l.length cap, Value.int IntKind.i64 l.length, Value.int IntKind.i64 (k : Int), u15, u16, u17, u18, u19, u20, u21, u22, u23, u24, u25, u26, u27, u28, u29, u30, u31, u32, u33, u34, u35, u36, u37, u38, u39, u40], defers := ms.map mk }) (fun a' _ => l.length - (intOf (a'.tmps.getD 14 undef)).toNat) ?_ ?_
  · refine ⟨0, [], Nat.zero_le _, Lib.hid (fun j hj => by omega), HF1, Lib.hid (Marks.nil _ _), ?_⟩
    (repeat apply Exists.intro); rfl
  · rintro a' wr ⟨k, ms, hk, hcl, hf, hms, u6, u7, u8, u15, u16, u17, u18, u19, u20, u21, u22, u23, u24, u25, u26, u27, u28, u29, u30, u31, u32, u33, u34, u35, u36, u37, u38, u39, u40, rfl⟩
    by_cases hlt : k < l.length
    · obtain ⟨b, off, ha, hb, c0, c1, c2, c3⟩ := HM.out.fr hf.out k l[k] (List.getElem?_eq_getElem hlt)
      subst ha
      have hkk : k ≤ cap := by omega
      by_cases h5 : l[k].k = 5
      · have h5' : (l[k].k != 5) = false := by simp [h5]
        go_wp2_with fail
        have hms' := Lib.hid (hms.out.fr ((Fr.refl Nil wr).alloc (.cells #[.int .i64 5, .int .i64 l[k].c, .int .u64 l[k].a, .int .u32 l[k].w] 31)))
        have hf' := Lib.hid (hf.out.alloc (.cells #[.int .i64 5, .int .i64 l[k].c, .int .u64 l[k].a, .int .u32 l[k].w] 31))
        have bn := Blk.new wr 31 #[.int .i64 5, .int .i64 l[k].c, .int .u64 l[k].a, .int .u32 l[k].w]
        have hsz : (wr.alloc (.cells #[.int .i64 5, .int .i64 l[k].c, .int .u64 l[k].a, .int .u32 l[k].w] 31)).heap.size = wr.heap.size + 1 := by simp
        have HMk := Lib.hid ((HM.out.fr hf'.out).pre k)
        generalize (wr.alloc (.cells #[.int .i64 5, .int .i64 l[k].c, .int .u64 l[k].a, .int .u32 l[k].w] 31)) = W0 at *
        clear hms c0 c1 c2 c3
        have BN := Lib.hid bn
        have cN1 : W0.cell? ⟨wr.heap.size, 1, none⟩ = some (.int .i64 l[k].c) := bn.cellv rfl
        have cN2 : W0.cell? ⟨wr.heap.size, 2, none⟩ = some (.int .u64 l[k].a) := bn.cellv rfl
        have HSZ := Lib.hid hsz
        clear bn hsz
        go_still_tail 11, (by kernel_rfl)
        refine wpStill_step (fun K hK => ?_)
        go_simp
        refine ⟨_, (none_ok _ first bx _ (((HBX.out.fr0 hf'.out).drew).cellv rfl)).mono (fun e w' h => ⟨h.1, h.2.symm⟩), hK _ ?_⟩
        clear hK K
        refine wpStill_nil ?_
        have hv := versions_ok (l.take k) (fun n hn => OK.out n (List.mem_of_mem_take hn)) l[k].c l[k].a first (OK.out _ (List.getElem_mem hlt)).a0 (OK.out _ (List.getElem_mem hlt)).a1 (some ⟨b, off, none⟩) cap W0.drew (by rw [List.length_take]; omega) (by rw [List.length_take]; omega) (HMk.out.fr (Fr.drew (Fr.refl _ _)))
        rw [List.length_take, Nat.min_eq_left hk] at hv
        have HV := Lib.hid hv
        clear hv
        have FD : Fr Nil W0 W0.drew := Fr.drew (Fr.refl _ _)
        change wpList _ _ _ _ _ W0.drew
        have hszd : W0.drew.heap.size = wr.heap.size + 1 := HSZ.out
        have hms1 := Lib.hid (hms'.out.fr FD)
        have hf1 := Lib.hid (hf'.out.trans FD)
        have bn1 := Lib.hid (BN.out.fr0 FD)
        clear FD hms' hf' BN HMk HSZ cN1 cN2
        generalize W0.drew = W1 at *
        go_wp2_with (go_at_call 17; refine HV.out.mono ?_; rintro e w3 ⟨rfl, F3, H3⟩; have HF3 := Lib.hid F3; have HH3 := Lib.hid H3; clear F3 H3)
        have hvl := (vers_len l[k].c l[k].a first (l.take k)).2
        rw [List.length_take, Nat.min_eq_left hk] at hvl
        have h3s := HF3.out.size
        have hH := HH3.out
        rw [hszd] at hH
        have hBl : wr.heap.size + 1 + 1 < w3.heap.size := by obtain ⟨g, off, cap, h1, _, _⟩ := hH.box; exact h1.lt
        have HFW := Lib.hid (hf1.out.trans HF3.out)
        have HMS := Lib.hid (hms1.out.fr HF3.out)
        have HBN := Lib.hid (bn1.out.fr0 HF3.out)
        have hb5 : badAt first (l.take k) l[k] = !(wordsV (vers l[k].c l[k].a first (l.take k))).contains l[k].w := by unfold badAt; rw [h5]; rfl
        have HB5 := Lib.hid hb5
        have hws := HFW.out.size
        clear hms1 hf1 bn1 HV hb5
        generalize hvs : vers l[k].c l[k].a first (l.take k) = vs at *
        clear hvs
        refine (wpIn_wide (n := 5)).1 ?_
        refine wpIn_rangeFunc_ownF rfl (by decide) (gf := 26) (lb := #[.pointer (some ⟨wr.heap.size + 1 + 1, 0, none⟩)]) rfl trivial (enters_of Try.func26 (by kernel_rfl) rfl)
          (it_stops Fence.wide 4 trivial rfl (by decide) (fun k => w3.heap.size ≤ k) (wr.heap.size + 1 + 1) (wr.heap.size + 1) vs (by unfold maxLen; omega) w3 (by omega) hH (by omega))
          Fr.trans (frK_b (by intro k hk; exact hk)) (Below.refl _ _) (fun _ => rfl)
          (fun pre W => l[k].w ∉ pre ∧ Fr Nil w3 W) (fun c pre W => (c = .exit 1 ∧ ∃ ini, pre = ini ++ [l[k].w]) ∧ Fr Nil w3 W)
          (fun pre A B row h hg hr => ⟨h.1, h.2.grown hg fun k e => .inr (hr k e).1⟩)
          (fun c pre A B row h hg hr => ⟨h.1, h.2.grown hg fun k e => .inr (hr k e).1⟩)
          ⟨by simp, Fr.refl _ _⟩
          (fun x => { tmps := #[Value.slice (some { block := b, off := off }) l.length cap, Value.func (Fn.func 13) #[] #[.pointer (some ⟨bx, 0, none⟩)], undef, undef, Value.int IntKind.i64 0, Value.int IntKind.i64 0, Value.int IntKind.i64 ↑k, Value.pointer (some { block := wr.heap.size, off := 0 }), .int .u32 x, Value.slice (some { block := b, off := off }) l.length cap, Value.bool true, Value.bool false, Value.slice (some { block := b, off := off }) l.length cap, Value.int IntKind.i64 ↑l.length, Value.int IntKind.i64 ↑k, Value.bool true, Value.int IntKind.i64 ↑k, Value.pointer (some { block := b, off := off + k * 4 }), Value.agg #[Value.int IntKind.i64 5, Value.int IntKind.i64 l[k].c, Value.int IntKind.u64 l[k].a, Value.int IntKind.u32 l[k].w], Value.pointer (some { block := wr.heap.size, off := 0 }), Value.int IntKind.i64 5, Value.bool false, Value.slice (some { block := b, off := off }) l.length cap, Value.int IntKind.i64 ↑k, Value.slice (some { block := b, off := off }) k cap, Value.pointer (some { block := wr.heap.size, off := 1 }), Value.int IntKind.i64 l[k].c, Value.pointer (some { block := wr.heap.size, off := 2 }), Value.int IntKind.u64 l[k].a, Value.func (Fn.func 13) #[] #[.pointer (some ⟨bx, 0, none⟩)], Value.pointer (some { block := wr.heap.size, off := 2 }), Value.int IntKind.u64 l[k].a, Value.int IntKind.u32 first, Value.func (Fn.func 26) #[] #[Value.pointer (some { block := wr.heap.size + 1 + 1, off := 0 })], .int .u32 x, u35, u36, u37, u38, u39, u40], defers := [] })
          ?assign ?body ?done ?stop
        case assign =>
          intro l x W K hK
          gi_wp2
          exact hK
        case body =>
          rintro lp pre x W ⟨hp, hF⟩ hlt
          have cx : W.cell? ⟨wr.heap.size, 3, none⟩ = some (.int .u32 l[k].w) := (HBN.out.fr0 hF).cellv rfl
          have HP := Lib.hid hp
          have HF := Lib.hid hF
          clear hp hF
          cases hq : (x == l[k].w) with
          | true =>
            have hx := Lib.hid (eq_of_beq hq)
            gi_wp2
            exact ⟨KeepsOthers.refl _, ⟨rfl, pre, by rw [hx.out]⟩, HF.out⟩
          | false =>
            have hx := Lib.hid hq
            gi_wp2
            exact ⟨KeepsOthers.refl _, Fr.refl _ _, by
              have := hx.out
              simp only [beq_eq_false_iff_ne] at this
              intro hm
              rcases List.mem_append.1 hm with h | h
              · exact HP.out h
              · exact this (List.mem_singleton.1 h).symm, HF.out⟩
        case done =>
          rintro D ys W hD rfl ⟨hp, hF⟩ hK
          have hbad : badAt first (l.take k) l[k] = true := by
            rw [HB5.out]
            simpa using hp
          have hfin := Lib.hid (hcl.out.bad hlt hbad)
          have hm := Lib.hid (HMS.out.cons hF (D := D) (by omega) hD hK)
          have hF' := Lib.hid (HFW.out.trans hF)
          clear hp hF hK hbad
          go_wp2_with fail
          refine leaves_marks (D :: ms) W hm.out fun W' hfw => ?_
          refine ⟨.tuple #[.int .i64 (k : Int), .int .i64 0], ?_, by rw [hfin.out], hF'.out.step hfw fun i hi hs => .inr hs⟩
          simp [results, Try.f14, go_sem]
        case stop =>
          rintro D c pre W hD ⟨j, hj, hjl, rfl⟩ ⟨⟨rfl, ini, hini⟩, hF⟩ hK
          have hmem : l[k].w ∈ wordsV vs := by
            have h1 : l[k].w ∈ wordsV (vs.take (j + 1)) := by rw [hini]; simp
            have h2 : wordsV vs = wordsV (vs.take (j + 1)) ++ wordsV (vs.drop (j + 1)) := by rw [← words_append, List.take_append_drop]
            rw [h2]
            exact List.mem_append.2 (.inl h1)
          have hbad : badAt first (l.take k) l[k] = false := by
            rw [HB5.out]
            simpa using hmem
          have hcl' := Lib.hid (hcl.out.succ hlt hbad)
          have hm := Lib.hid (HMS.out.cons hF (D := D) (by omega) hD hK)
          have hF' := Lib.hid (HFW.out.trans hF)
          clear hF hK hbad hini hmem hjl
          refine wpIn_wide.2 ?_
          go_wp2_with fail
          refine ⟨⟨k + 1, D :: ms, by omega, hcl', hF', hm, ?_⟩, ?_⟩
          · (repeat apply Exists.intro); rfl
          · simp [intOf]; omega
      · have h5' : (l[k].k != 5) = true := by simp [h5]
        have hbad : badAt first (l.take k) l[k] = false := by simp [badAt, h5]
        have hcl' := Lib.hid (hcl.out.succ hlt hbad)
        have hms' := Lib.hid (hms.out.fr ((Fr.refl Nil wr).alloc (.cells #[.int .i64 l[k].k, .int .i64 l[k].c, .int .u64 l[k].a, .int .u32 l[k].w] 31)))
        have hf' := Lib.hid (hf.out.alloc (.cells #[.int .i64 l[k].k, .int .i64 l[k].c, .int .u64 l[k].a, .int .u32 l[k].w] 31))
        clear hbad h5
        go_wp2_with fail
        refine ⟨⟨k + 1, ms, by omega, hcl', hf', hms', ?_⟩, ?_⟩
        · (repeat apply Exists.intro); rfl
        · simp [intOf]; omega
    · have hk' : k = l.length := by omega
      subst hk'
      have hd : decide (l.length < l.length) = false := by simp
      have hfin := Lib.hid hcl.out.all
      go_wp2_with fail
      refine leaves_marks ms wr hms.out fun W' hfw => ?_
      refine ⟨.tuple #[.int .i64 (-1), .int .i64 0], ?_, by rw [hfin.out], hf.out.step hfw fun i hi hs => .inr hs⟩
      simp [results, Try.f14, go_sem]
end Go.Proofs.Ytdbgfnkcphbgfaa
