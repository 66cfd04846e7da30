/- One call on both controllers: the walk. -/
import Derived.Test.YtpgelocofoidnaaXst
set_option linter.unusedSimpArgs false
set_option linter.unusedVariables false
set_option linter.unusedSectionVars false
namespace Go.Proofs.Ytpgelocofoidnaa
open Go.RowKit
set_option maxRecDepth 100000

set_option maxHeartbeats 1000000 in
theorem step_0 (w0 : World) (K KR : Nat → Prop) (wb gb rb : Nat) (L : Lay) (s : GS) (r : RS) (c i n : Int) (on : Bool) (w : World) (h : Wd w0 K KR w wb gb rb L s r) (hs : Sim s r) (m : Nat) (hm : m ≤ 1000) (hA : AtLe s m) :
    Calls Try.prog 31 #[.pointer (some ⟨wb, 0, none⟩), .agg #[.int .i64 0, .int .i64 c, .int .i64 i, .int .i64 n, .bool on]] w (StepTo w0 K KR wb gb rb L (s.enable c i on) r) := by
  have HS := Lib.hid hs
  have HA := Lib.hid (And.intro hm hA)
  have W1 := Lib.hid (h.still ((Fr.refl Nil w).alloc (.cells #[.int .i64 0, .int .i64 c, .int .i64 i, .int .i64 n, .bool on] 52)))
  have G1 := Lib.hid (h.hg.more (.cells #[.int .i64 0, .int .i64 c, .int .i64 i, .int .i64 n, .bool on] 52))
  have B1 := Lib.hid (Blk.new w 52 #[.int .i64 0, .int .i64 c, .int .i64 i, .int .i64 n, .bool on])
  have NX := Lib.hid (show ¬ RFoot rb L r.c w.heap.size from fun hk => by have := h.hr.lt hk; omega)
  have NK := Lib.hid (show ¬ K w.heap.size from fun hk => by have := h.hg.lt _ hk; omega)
  clear h hs hm hA
  go_enter Try.func31, Try.ntmps31
  go_upto_region 1 with fail
  generalize (w.alloc (.cells #[.int .i64 0, .int .i64 c, .int .i64 i, .int .i64 n, .bool on] 52)) = w1 at *
  generalize w.heap.size = xb at *
  have q0 := B1.out.cellv (i := 0) rfl
  have q1 := B1.out.cellv (i := 1) rfl
  have q2 := B1.out.cellv (i := 2) rfl
  have q3 := B1.out.cellv (i := 3) rfl
  have q4 := B1.out.cellv (i := 4) rfl
  have b1 := W1.out.box.cellv (i := 1) rfl
  go_upto_region 6 with fail
  have d0 : w1.drew.cell? _ = _ := q0
  have d1 : w1.drew.cell? _ = _ := q1
  have d2 : w1.drew.cell? _ = _ := q2
  have d3 : w1.drew.cell? _ = _ := q3
  have d4 : w1.drew.cell? _ = _ := q4
  have d5 : w1.drew.cell? _ = _ := b1
  have W2 := Lib.hid (W1.out.still (Fr.refl Nil w1).drew)
  have G2 := Lib.hid (G1.out.still (Fr.refl Nil w1).drew)
  have B2 := Lib.hid (show Blk w1.drew xb 52 #[.int .i64 0, .int .i64 c, .int .i64 i, .int .i64 n, .bool on] from B1.out)
  go_still_tail 14, (by kernel_rfl)
  change wpList _ _ _ _ _ w1.drew
  clear q0 q1 q2 q3 q4 b1 d0 d1 d2 d3 d4 d5 W1 G1 B1
  generalize w1.drew = w2 at *
  have RC := Lib.hid (rset_0 rb L r c i on n w2 W2.out.hr)
  rw [okR_eq HS.out] at RC
  have hsm := (show Sim (s.enable c i on) (r.setF c i fun x => { x with en := on }) from HS.out.setF c i fun _ => rfl)
  have SC := Lib.hid (show (s.enable c i on).c = s.c by first | exact GS.setF_c _ _ _ _ | (unfold GS.line; split; exact GS.setF_c _ _ _ _; rfl) | (unfold GS.rank; split; exact GS.setF_c _ _ _ _; rfl) | (unfold GS.route; split; exact GS.setF_c _ _ _ _; rfl) | (unfold GS.mask; split <;> rfl) | exact GS.send_c _ _ _ | exact GS.ack_c _ _ | exact GS.eoi_c _ _ _)
  go_upto_region 10 with (go_at_call 46; refine RC.out.mono ?_; rintro e w3 ⟨rfl, hr, hf⟩; have hrc := hsm.c.trans (show _ = r.c by rw [HS.out.c]; exact SC.out); have W3 := Lib.hid (W2.out.ref hr hrc hf); have G3 := Lib.hid (G2.out.frK (hf.mono (S' := RFoot rb L r.c) fun k _ hk => by rw [hrc] at hk; exact hk) fun k hk => .inl (W2.out.kk k (W2.out.kr k hk))); have B3 := Lib.hid (B2.out.fr hf (by rw [hrc]; exact NX.out)); have SM := Lib.hid hsm; have RR := Lib.hid hrc; clear hr hf hrc hsm W2 G2 B2 HS; have q0 := B3.out.cellv (i := 0) rfl; have q1 := B3.out.cellv (i := 1) rfl; have q2 := B3.out.cellv (i := 2) rfl; have q3 := B3.out.cellv (i := 3) rfl; have q4 := B3.out.cellv (i := 4) rfl; have b0 := W3.out.box.cellv (i := 0) rfl)
  have HKK : Hid (∀ W, Fr (Not (More K xb)) w3 W → W.cell? ⟨xb, 1, none⟩ = some (.int .i64 c) ∧ W.cell? ⟨xb, 2, none⟩ = some (.int .i64 i) ∧ W.cell? ⟨xb, 3, none⟩ = some (.int .i64 n) ∧ W.cell? ⟨xb, 4, none⟩ = some (.bool on) ∧ W.cell? ⟨wb, 0, none⟩ = some (.pointer (some ⟨gb, 0, none⟩))) := Lib.hid fun W hW => by
    have hB := B3.out.fr hW (fun hn => hn (.inr rfl))
    have hX := W3.out.box.fr hW (fun hn => hn (.inl W3.out.kb))
    exact ⟨hB.cellv (i := 1) rfl, hB.cellv (i := 2) rfl, hB.cellv (i := 3) rfl, hB.cellv (i := 4) rfl, hX.cellv (i := 0) rfl⟩
  have PC := Lib.hid (enable_ok (More K xb) gb s c i on w3.drew (G3.out.still (Fr.refl Nil w3).drew))
  have CU : s.enableC c i on = code (okI s c i) := rfl
  rw [CU] at PC
  clear CU
  go_region_held3 (fun w' => w'.cell? ⟨xb, 1, none⟩ = some (.int .i64 c) ∧ w'.cell? ⟨xb, 2, none⟩ = some (.int .i64 i) ∧ w'.cell? ⟨xb, 3, none⟩ = some (.int .i64 n) ∧ w'.cell? ⟨xb, 4, none⟩ = some (.bool on) ∧ w'.cell? ⟨wb, 0, none⟩ = some (.pointer (some ⟨gb, 0, none⟩))) (first | exact HKK.out _ (Fr.refl _ _).drew | exact HKK.out _ F4) (first | (go_at_call 15; refine PC.out.mono ?_; rintro e w4 ⟨rfl, g4, f4⟩; have F4 := ((Fr.refl (Not (More K xb)) w3).drew).trans f4) | fail)
  have W4 := Lib.hid (W3.out.prog (g4.less fun k hk => .inl hk) (F4.mono fun k _ hn hk => hn (.inl hk)))
  clear q0 q1 q2 q3 q4 b0 HKK PC RC g4 f4 F4
  go_wp2_with fail
  go_ret
  exact ⟨_, rfl, W4.out, SM.out, RR.out⟩
set_option maxHeartbeats 1000000 in
theorem step_1 (w0 : World) (K KR : Nat → Prop) (wb gb rb : Nat) (L : Lay) (s : GS) (r : RS) (c i n : Int) (on : Bool) (w : World) (h : Wd w0 K KR w wb gb rb L s r) (hs : Sim s r) (m : Nat) (hm : m ≤ 1000) (hA : AtLe s m) :
    Calls Try.prog 31 #[.pointer (some ⟨wb, 0, none⟩), .agg #[.int .i64 1, .int .i64 c, .int .i64 i, .int .i64 n, .bool on]] w (StepTo w0 K KR wb gb rb L (s.pend c i on) r) := by
  have HS := Lib.hid hs
  have HA := Lib.hid (And.intro hm hA)
  have W1 := Lib.hid (h.still ((Fr.refl Nil w).alloc (.cells #[.int .i64 1, .int .i64 c, .int .i64 i, .int .i64 n, .bool on] 52)))
  have G1 := Lib.hid (h.hg.more (.cells #[.int .i64 1, .int .i64 c, .int .i64 i, .int .i64 n, .bool on] 52))
  have B1 := Lib.hid (Blk.new w 52 #[.int .i64 1, .int .i64 c, .int .i64 i, .int .i64 n, .bool on])
  have NX := Lib.hid (show ¬ RFoot rb L r.c w.heap.size from fun hk => by have := h.hr.lt hk; omega)
  have NK := Lib.hid (show ¬ K w.heap.size from fun hk => by have := h.hg.lt _ hk; omega)
  clear h hs hm hA
  go_enter Try.func31, Try.ntmps31
  go_upto_region 1 with fail
  generalize (w.alloc (.cells #[.int .i64 1, .int .i64 c, .int .i64 i, .int .i64 n, .bool on] 52)) = w1 at *
  generalize w.heap.size = xb at *
  have q0 := B1.out.cellv (i := 0) rfl
  have q1 := B1.out.cellv (i := 1) rfl
  have q2 := B1.out.cellv (i := 2) rfl
  have q3 := B1.out.cellv (i := 3) rfl
  have q4 := B1.out.cellv (i := 4) rfl
  have b1 := W1.out.box.cellv (i := 1) rfl
  go_upto_region 6 with fail
  have d0 : w1.drew.cell? _ = _ := q0
  have d1 : w1.drew.cell? _ = _ := q1
  have d2 : w1.drew.cell? _ = _ := q2
  have d3 : w1.drew.cell? _ = _ := q3
  have d4 : w1.drew.cell? _ = _ := q4
  have d5 : w1.drew.cell? _ = _ := b1
  have W2 := Lib.hid (W1.out.still (Fr.refl Nil w1).drew)
  have G2 := Lib.hid (G1.out.still (Fr.refl Nil w1).drew)
  have B2 := Lib.hid (show Blk w1.drew xb 52 #[.int .i64 1, .int .i64 c, .int .i64 i, .int .i64 n, .bool on] from B1.out)
  go_still_tail 14, (by kernel_rfl)
  change wpList _ _ _ _ _ w1.drew
  clear q0 q1 q2 q3 q4 b1 d0 d1 d2 d3 d4 d5 W1 G1 B1
  generalize w1.drew = w2 at *
  have RC := Lib.hid (rset_1 rb L r c i on n w2 W2.out.hr)
  rw [okR_eq HS.out] at RC
  have hsm := (show Sim (s.pend c i on) (r.setF c i fun x => { x with la := on }) from HS.out.setF c i fun _ => rfl)
  have SC := Lib.hid (show (s.pend c i on).c = s.c by first | exact GS.setF_c _ _ _ _ | (unfold GS.line; split; exact GS.setF_c _ _ _ _; rfl) | (unfold GS.rank; split; exact GS.setF_c _ _ _ _; rfl) | (unfold GS.route; split; exact GS.setF_c _ _ _ _; rfl) | (unfold GS.mask; split <;> rfl) | exact GS.send_c _ _ _ | exact GS.ack_c _ _ | exact GS.eoi_c _ _ _)
  go_upto_region 12 with (go_at_call 46; refine RC.out.mono ?_; rintro e w3 ⟨rfl, hr, hf⟩; have hrc := hsm.c.trans (show _ = r.c by rw [HS.out.c]; exact SC.out); have W3 := Lib.hid (W2.out.ref hr hrc hf); have G3 := Lib.hid (G2.out.frK (hf.mono (S' := RFoot rb L r.c) fun k _ hk => by rw [hrc] at hk; exact hk) fun k hk => .inl (W2.out.kk k (W2.out.kr k hk))); have B3 := Lib.hid (B2.out.fr hf (by rw [hrc]; exact NX.out)); have SM := Lib.hid hsm; have RR := Lib.hid hrc; clear hr hf hrc hsm W2 G2 B2 HS; have q0 := B3.out.cellv (i := 0) rfl; have q1 := B3.out.cellv (i := 1) rfl; have q2 := B3.out.cellv (i := 2) rfl; have q3 := B3.out.cellv (i := 3) rfl; have q4 := B3.out.cellv (i := 4) rfl; have b0 := W3.out.box.cellv (i := 0) rfl)
  have HKK : Hid (∀ W, Fr (Not (More K xb)) w3 W → W.cell? ⟨xb, 1, none⟩ = some (.int .i64 c) ∧ W.cell? ⟨xb, 2, none⟩ = some (.int .i64 i) ∧ W.cell? ⟨xb, 3, none⟩ = some (.int .i64 n) ∧ W.cell? ⟨xb, 4, none⟩ = some (.bool on) ∧ W.cell? ⟨wb, 0, none⟩ = some (.pointer (some ⟨gb, 0, none⟩))) := Lib.hid fun W hW => by
    have hB := B3.out.fr hW (fun hn => hn (.inr rfl))
    have hX := W3.out.box.fr hW (fun hn => hn (.inl W3.out.kb))
    exact ⟨hB.cellv (i := 1) rfl, hB.cellv (i := 2) rfl, hB.cellv (i := 3) rfl, hB.cellv (i := 4) rfl, hX.cellv (i := 0) rfl⟩
  have PC := Lib.hid (pend_ok (More K xb) gb s c i on w3.drew (G3.out.still (Fr.refl Nil w3).drew))
  have CU : s.pendC c i on = code (okI s c i) := rfl
  rw [CU] at PC
  clear CU
  go_region_held3 (fun w' => w'.cell? ⟨xb, 1, none⟩ = some (.int .i64 c) ∧ w'.cell? ⟨xb, 2, none⟩ = some (.int .i64 i) ∧ w'.cell? ⟨xb, 3, none⟩ = some (.int .i64 n) ∧ w'.cell? ⟨xb, 4, none⟩ = some (.bool on) ∧ w'.cell? ⟨wb, 0, none⟩ = some (.pointer (some ⟨gb, 0, none⟩))) (first | exact HKK.out _ (Fr.refl _ _).drew | exact HKK.out _ F4) (first | (go_at_call 21; refine PC.out.mono ?_; rintro e w4 ⟨rfl, g4, f4⟩; have F4 := ((Fr.refl (Not (More K xb)) w3).drew).trans f4) | fail)
  have W4 := Lib.hid (W3.out.prog (g4.less fun k hk => .inl hk) (F4.mono fun k _ hn hk => hn (.inl hk)))
  clear q0 q1 q2 q3 q4 b0 HKK PC RC g4 f4 F4
  go_wp2_with fail
  go_ret
  exact ⟨_, rfl, W4.out, SM.out, RR.out⟩
set_option maxHeartbeats 1000000 in
theorem step_2 (w0 : World) (K KR : Nat → Prop) (wb gb rb : Nat) (L : Lay) (s : GS) (r : RS) (c i n : Int) (on : Bool) (w : World) (h : Wd w0 K KR w wb gb rb L s r) (hs : Sim s r) (m : Nat) (hm : m ≤ 1000) (hA : AtLe s m) :
    Calls Try.prog 31 #[.pointer (some ⟨wb, 0, none⟩), .agg #[.int .i64 2, .int .i64 c, .int .i64 i, .int .i64 n, .bool on]] w (StepTo w0 K KR wb gb rb L (s.line c i on) r) := by
  have HS := Lib.hid hs
  have HA := Lib.hid (And.intro hm hA)
  have W1 := Lib.hid (h.still ((Fr.refl Nil w).alloc (.cells #[.int .i64 2, .int .i64 c, .int .i64 i, .int .i64 n, .bool on] 52)))
  have G1 := Lib.hid (h.hg.more (.cells #[.int .i64 2, .int .i64 c, .int .i64 i, .int .i64 n, .bool on] 52))
  have B1 := Lib.hid (Blk.new w 52 #[.int .i64 2, .int .i64 c, .int .i64 i, .int .i64 n, .bool on])
  have NX := Lib.hid (show ¬ RFoot rb L r.c w.heap.size from fun hk => by have := h.hr.lt hk; omega)
  have NK := Lib.hid (show ¬ K w.heap.size from fun hk => by have := h.hg.lt _ hk; omega)
  clear h hs hm hA
  go_enter Try.func31, Try.ntmps31
  go_upto_region 1 with fail
  generalize (w.alloc (.cells #[.int .i64 2, .int .i64 c, .int .i64 i, .int .i64 n, .bool on] 52)) = w1 at *
  generalize w.heap.size = xb at *
  have q0 := B1.out.cellv (i := 0) rfl
  have q1 := B1.out.cellv (i := 1) rfl
  have q2 := B1.out.cellv (i := 2) rfl
  have q3 := B1.out.cellv (i := 3) rfl
  have q4 := B1.out.cellv (i := 4) rfl
  have b1 := W1.out.box.cellv (i := 1) rfl
  go_upto_region 6 with fail
  have d0 : w1.drew.cell? _ = _ := q0
  have d1 : w1.drew.cell? _ = _ := q1
  have d2 : w1.drew.cell? _ = _ := q2
  have d3 : w1.drew.cell? _ = _ := q3
  have d4 : w1.drew.cell? _ = _ := q4
  have d5 : w1.drew.cell? _ = _ := b1
  have W2 := Lib.hid (W1.out.still (Fr.refl Nil w1).drew)
  have G2 := Lib.hid (G1.out.still (Fr.refl Nil w1).drew)
  have B2 := Lib.hid (show Blk w1.drew xb 52 #[.int .i64 2, .int .i64 c, .int .i64 i, .int .i64 n, .bool on] from B1.out)
  go_still_tail 14, (by kernel_rfl)
  change wpList _ _ _ _ _ w1.drew
  clear q0 q1 q2 q3 q4 b1 d0 d1 d2 d3 d4 d5 W1 G1 B1
  generalize w1.drew = w2 at *
  have RC := Lib.hid (rset_2 rb L r c i on n w2 W2.out.hr)
  rw [okR_eq HS.out] at RC
  have hsm := HS.out.line c i on
  have SC := Lib.hid (show (s.line c i on).c = s.c by first | exact GS.setF_c _ _ _ _ | (unfold GS.line; split; exact GS.setF_c _ _ _ _; rfl) | (unfold GS.rank; split; exact GS.setF_c _ _ _ _; rfl) | (unfold GS.route; split; exact GS.setF_c _ _ _ _; rfl) | (unfold GS.mask; split <;> rfl) | exact GS.send_c _ _ _ | exact GS.ack_c _ _ | exact GS.eoi_c _ _ _)
  go_upto_region 14 with (go_at_call 46; refine RC.out.mono ?_; rintro e w3 ⟨rfl, hr, hf⟩; have hrc := hsm.c.trans (show _ = r.c by rw [HS.out.c]; exact SC.out); have W3 := Lib.hid (W2.out.ref hr hrc hf); have G3 := Lib.hid (G2.out.frK (hf.mono (S' := RFoot rb L r.c) fun k _ hk => by rw [hrc] at hk; exact hk) fun k hk => .inl (W2.out.kk k (W2.out.kr k hk))); have B3 := Lib.hid (B2.out.fr hf (by rw [hrc]; exact NX.out)); have SM := Lib.hid hsm; have RR := Lib.hid hrc; clear hr hf hrc hsm W2 G2 B2 HS; have q0 := B3.out.cellv (i := 0) rfl; have q1 := B3.out.cellv (i := 1) rfl; have q2 := B3.out.cellv (i := 2) rfl; have q3 := B3.out.cellv (i := 3) rfl; have q4 := B3.out.cellv (i := 4) rfl; have b0 := W3.out.box.cellv (i := 0) rfl)
  have HKK : Hid (∀ W, Fr (Not (More K xb)) w3 W → W.cell? ⟨xb, 1, none⟩ = some (.int .i64 c) ∧ W.cell? ⟨xb, 2, none⟩ = some (.int .i64 i) ∧ W.cell? ⟨xb, 3, none⟩ = some (.int .i64 n) ∧ W.cell? ⟨xb, 4, none⟩ = some (.bool on) ∧ W.cell? ⟨wb, 0, none⟩ = some (.pointer (some ⟨gb, 0, none⟩))) := Lib.hid fun W hW => by
    have hB := B3.out.fr hW (fun hn => hn (.inr rfl))
    have hX := W3.out.box.fr hW (fun hn => hn (.inl W3.out.kb))
    exact ⟨hB.cellv (i := 1) rfl, hB.cellv (i := 2) rfl, hB.cellv (i := 3) rfl, hB.cellv (i := 4) rfl, hX.cellv (i := 0) rfl⟩
  have PC := Lib.hid (line_ok (More K xb) gb s c i on w3.drew (G3.out.still (Fr.refl Nil w3).drew))
  have CU : s.lineC c i on = code (decide (16 ≤ i) && okI s c i) := rfl
  rw [CU] at PC
  clear CU
  go_region_held3 (fun w' => w'.cell? ⟨xb, 1, none⟩ = some (.int .i64 c) ∧ w'.cell? ⟨xb, 2, none⟩ = some (.int .i64 i) ∧ w'.cell? ⟨xb, 3, none⟩ = some (.int .i64 n) ∧ w'.cell? ⟨xb, 4, none⟩ = some (.bool on) ∧ w'.cell? ⟨wb, 0, none⟩ = some (.pointer (some ⟨gb, 0, none⟩))) (first | exact HKK.out _ (Fr.refl _ _).drew | exact HKK.out _ F4) (first | (go_at_call 14; refine PC.out.mono ?_; rintro e w4 ⟨rfl, g4, f4⟩; have F4 := ((Fr.refl (Not (More K xb)) w3).drew).trans f4) | fail)
  have W4 := Lib.hid (W3.out.prog (g4.less fun k hk => .inl hk) (F4.mono fun k _ hn hk => hn (.inl hk)))
  clear q0 q1 q2 q3 q4 b0 HKK PC RC g4 f4 F4
  go_wp2_with fail
  go_ret
  exact ⟨_, rfl, W4.out, SM.out, RR.out⟩
set_option maxHeartbeats 1000000 in
theorem step_3 (w0 : World) (K KR : Nat → Prop) (wb gb rb : Nat) (L : Lay) (s : GS) (r : RS) (c i n : Int) (on : Bool) (w : World) (h : Wd w0 K KR w wb gb rb L s r) (hs : Sim s r) (m : Nat) (hm : m ≤ 1000) (hA : AtLe s m) :
    Calls Try.prog 31 #[.pointer (some ⟨wb, 0, none⟩), .agg #[.int .i64 3, .int .i64 c, .int .i64 i, .int .i64 n, .bool on]] w (StepTo w0 K KR wb gb rb L (s.rank c i n) r) := by
  have HS := Lib.hid hs
  have HA := Lib.hid (And.intro hm hA)
  have W1 := Lib.hid (h.still ((Fr.refl Nil w).alloc (.cells #[.int .i64 3, .int .i64 c, .int .i64 i, .int .i64 n, .bool on] 52)))
  have G1 := Lib.hid (h.hg.more (.cells #[.int .i64 3, .int .i64 c, .int .i64 i, .int .i64 n, .bool on] 52))
  have B1 := Lib.hid (Blk.new w 52 #[.int .i64 3, .int .i64 c, .int .i64 i, .int .i64 n, .bool on])
  have NX := Lib.hid (show ¬ RFoot rb L r.c w.heap.size from fun hk => by have := h.hr.lt hk; omega)
  have NK := Lib.hid (show ¬ K w.heap.size from fun hk => by have := h.hg.lt _ hk; omega)
  clear h hs hm hA
  go_enter Try.func31, Try.ntmps31
  go_upto_region 1 with fail
  generalize (w.alloc (.cells #[.int .i64 3, .int .i64 c, .int .i64 i, .int .i64 n, .bool on] 52)) = w1 at *
  generalize w.heap.size = xb at *
  have q0 := B1.out.cellv (i := 0) rfl
  have q1 := B1.out.cellv (i := 1) rfl
  have q2 := B1.out.cellv (i := 2) rfl
  have q3 := B1.out.cellv (i := 3) rfl
  have q4 := B1.out.cellv (i := 4) rfl
  have b1 := W1.out.box.cellv (i := 1) rfl
  go_upto_region 6 with fail
  have d0 : w1.drew.cell? _ = _ := q0
  have d1 : w1.drew.cell? _ = _ := q1
  have d2 : w1.drew.cell? _ = _ := q2
  have d3 : w1.drew.cell? _ = _ := q3
  have d4 : w1.drew.cell? _ = _ := q4
  have d5 : w1.drew.cell? _ = _ := b1
  have W2 := Lib.hid (W1.out.still (Fr.refl Nil w1).drew)
  have G2 := Lib.hid (G1.out.still (Fr.refl Nil w1).drew)
  have B2 := Lib.hid (show Blk w1.drew xb 52 #[.int .i64 3, .int .i64 c, .int .i64 i, .int .i64 n, .bool on] from B1.out)
  go_still_tail 14, (by kernel_rfl)
  change wpList _ _ _ _ _ w1.drew
  clear q0 q1 q2 q3 q4 b1 d0 d1 d2 d3 d4 d5 W1 G1 B1
  generalize w1.drew = w2 at *
  have RC := Lib.hid (rset_3 rb L r c i on n w2 W2.out.hr)
  rw [okR_eq HS.out] at RC
  have hsm := HS.out.rank c i n
  have SC := Lib.hid (show (s.rank c i n).c = s.c by first | exact GS.setF_c _ _ _ _ | (unfold GS.line; split; exact GS.setF_c _ _ _ _; rfl) | (unfold GS.rank; split; exact GS.setF_c _ _ _ _; rfl) | (unfold GS.route; split; exact GS.setF_c _ _ _ _; rfl) | (unfold GS.mask; split <;> rfl) | exact GS.send_c _ _ _ | exact GS.ack_c _ _ | exact GS.eoi_c _ _ _)
  go_upto_region 16 with (go_at_call 46; refine RC.out.mono ?_; rintro e w3 ⟨rfl, hr, hf⟩; have hrc := hsm.c.trans (show _ = r.c by rw [HS.out.c]; exact SC.out); have W3 := Lib.hid (W2.out.ref hr hrc hf); have G3 := Lib.hid (G2.out.frK (hf.mono (S' := RFoot rb L r.c) fun k _ hk => by rw [hrc] at hk; exact hk) fun k hk => .inl (W2.out.kk k (W2.out.kr k hk))); have B3 := Lib.hid (B2.out.fr hf (by rw [hrc]; exact NX.out)); have SM := Lib.hid hsm; have RR := Lib.hid hrc; clear hr hf hrc hsm W2 G2 B2 HS; have q0 := B3.out.cellv (i := 0) rfl; have q1 := B3.out.cellv (i := 1) rfl; have q2 := B3.out.cellv (i := 2) rfl; have q3 := B3.out.cellv (i := 3) rfl; have q4 := B3.out.cellv (i := 4) rfl; have b0 := W3.out.box.cellv (i := 0) rfl)
  have HKK : Hid (∀ W, Fr (Not (More K xb)) w3 W → W.cell? ⟨xb, 1, none⟩ = some (.int .i64 c) ∧ W.cell? ⟨xb, 2, none⟩ = some (.int .i64 i) ∧ W.cell? ⟨xb, 3, none⟩ = some (.int .i64 n) ∧ W.cell? ⟨xb, 4, none⟩ = some (.bool on) ∧ W.cell? ⟨wb, 0, none⟩ = some (.pointer (some ⟨gb, 0, none⟩))) := Lib.hid fun W hW => by
    have hB := B3.out.fr hW (fun hn => hn (.inr rfl))
    have hX := W3.out.box.fr hW (fun hn => hn (.inl W3.out.kb))
    exact ⟨hB.cellv (i := 1) rfl, hB.cellv (i := 2) rfl, hB.cellv (i := 3) rfl, hB.cellv (i := 4) rfl, hX.cellv (i := 0) rfl⟩
  have PC := Lib.hid (rank_ok (More K xb) gb s c i n w3.drew (G3.out.still (Fr.refl Nil w3).drew))
  have CU : s.rankC c i n = code ((decide (0 ≤ n) && decide (n ≤ 255)) && okI s c i) := rfl
  rw [CU] at PC
  clear CU
  go_region_held3 (fun w' => w'.cell? ⟨xb, 1, none⟩ = some (.int .i64 c) ∧ w'.cell? ⟨xb, 2, none⟩ = some (.int .i64 i) ∧ w'.cell? ⟨xb, 3, none⟩ = some (.int .i64 n) ∧ w'.cell? ⟨xb, 4, none⟩ = some (.bool on) ∧ w'.cell? ⟨wb, 0, none⟩ = some (.pointer (some ⟨gb, 0, none⟩))) (first | exact HKK.out _ (Fr.refl _ _).drew | exact HKK.out _ F4) (first | (go_at_call 20; refine PC.out.mono ?_; rintro e w4 ⟨rfl, g4, f4⟩; have F4 := ((Fr.refl (Not (More K xb)) w3).drew).trans f4) | fail)
  have W4 := Lib.hid (W3.out.prog (g4.less fun k hk => .inl hk) (F4.mono fun k _ hn hk => hn (.inl hk)))
  clear q0 q1 q2 q3 q4 b0 HKK PC RC g4 f4 F4
  go_wp2_with fail
  go_ret
  exact ⟨_, rfl, W4.out, SM.out, RR.out⟩
set_option maxHeartbeats 1000000 in
theorem step_4 (w0 : World) (K KR : Nat → Prop) (wb gb rb : Nat) (L : Lay) (s : GS) (r : RS) (c i n : Int) (on : Bool) (w : World) (h : Wd w0 K KR w wb gb rb L s r) (hs : Sim s r) (m : Nat) (hm : m ≤ 1000) (hA : AtLe s m) :
    Calls Try.prog 31 #[.pointer (some ⟨wb, 0, none⟩), .agg #[.int .i64 4, .int .i64 c, .int .i64 i, .int .i64 n, .bool on]] w (StepTo w0 K KR wb gb rb L (s.route i c) r) := by
  have HS := Lib.hid hs
  have HA := Lib.hid (And.intro hm hA)
  have W1 := Lib.hid (h.still ((Fr.refl Nil w).alloc (.cells #[.int .i64 4, .int .i64 c, .int .i64 i, .int .i64 n, .bool on] 52)))
  have G1 := Lib.hid (h.hg.more (.cells #[.int .i64 4, .int .i64 c, .int .i64 i, .int .i64 n, .bool on] 52))
  have B1 := Lib.hid (Blk.new w 52 #[.int .i64 4, .int .i64 c, .int .i64 i, .int .i64 n, .bool on])
  have NX := Lib.hid (show ¬ RFoot rb L r.c w.heap.size from fun hk => by have := h.hr.lt hk; omega)
  have NK := Lib.hid (show ¬ K w.heap.size from fun hk => by have := h.hg.lt _ hk; omega)
  clear h hs hm hA
  go_enter Try.func31, Try.ntmps31
  go_upto_region 1 with fail
  generalize (w.alloc (.cells #[.int .i64 4, .int .i64 c, .int .i64 i, .int .i64 n, .bool on] 52)) = w1 at *
  generalize w.heap.size = xb at *
  have q0 := B1.out.cellv (i := 0) rfl
  have q1 := B1.out.cellv (i := 1) rfl
  have q2 := B1.out.cellv (i := 2) rfl
  have q3 := B1.out.cellv (i := 3) rfl
  have q4 := B1.out.cellv (i := 4) rfl
  have b1 := W1.out.box.cellv (i := 1) rfl
  go_upto_region 19 with fail
  have d0 : w1.drew.cell? _ = _ := q0
  have d1 : w1.drew.cell? _ = _ := q1
  have d2 : w1.drew.cell? _ = _ := q2
  have d3 : w1.drew.cell? _ = _ := q3
  have d4 : w1.drew.cell? _ = _ := q4
  have d5 : w1.drew.cell? _ = _ := b1
  have W2 := Lib.hid (W1.out.still (Fr.refl Nil w1).drew)
  have G2 := Lib.hid (G1.out.still (Fr.refl Nil w1).drew)
  have B2 := Lib.hid (show Blk w1.drew xb 52 #[.int .i64 4, .int .i64 c, .int .i64 i, .int .i64 n, .bool on] from B1.out)
  go_still_tail 8, (by kernel_rfl)
  change wpList _ _ _ _ _ w1.drew
  clear q0 q1 q2 q3 q4 b1 d0 d1 d2 d3 d4 d5 W1 G1 B1
  generalize w1.drew = w2 at *
  have RC := Lib.hid (rroute_ok rb L r i c w2 W2.out.hr)
  rw [okR_eq HS.out] at RC
  have hsm := HS.out.route i c
  have SC := Lib.hid (show (s.route i c).c = s.c by first | exact GS.setF_c _ _ _ _ | (unfold GS.line; split; exact GS.setF_c _ _ _ _; rfl) | (unfold GS.rank; split; exact GS.setF_c _ _ _ _; rfl) | (unfold GS.route; split; exact GS.setF_c _ _ _ _; rfl) | (unfold GS.mask; split <;> rfl) | exact GS.send_c _ _ _ | exact GS.ack_c _ _ | exact GS.eoi_c _ _ _)
  go_upto_region 20 with (go_at_call 47; refine RC.out.mono ?_; rintro e w3 ⟨rfl, hr, hf⟩; have hrc := hsm.c.trans (show _ = r.c by rw [HS.out.c]; exact SC.out); have W3 := Lib.hid (W2.out.ref hr hrc hf); have G3 := Lib.hid (G2.out.frK (hf.mono (S' := RFoot rb L r.c) fun k _ hk => by rw [hrc] at hk; exact hk) fun k hk => .inl (W2.out.kk k (W2.out.kr k hk))); have B3 := Lib.hid (B2.out.fr hf (by rw [hrc]; exact NX.out)); have SM := Lib.hid hsm; have RR := Lib.hid hrc; clear hr hf hrc hsm W2 G2 B2 HS; have q0 := B3.out.cellv (i := 0) rfl; have q1 := B3.out.cellv (i := 1) rfl; have q2 := B3.out.cellv (i := 2) rfl; have q3 := B3.out.cellv (i := 3) rfl; have q4 := B3.out.cellv (i := 4) rfl; have b0 := W3.out.box.cellv (i := 0) rfl)
  have HKK : Hid (∀ W, Fr (Not (More K xb)) w3 W → W.cell? ⟨xb, 1, none⟩ = some (.int .i64 c) ∧ W.cell? ⟨xb, 2, none⟩ = some (.int .i64 i) ∧ W.cell? ⟨xb, 3, none⟩ = some (.int .i64 n) ∧ W.cell? ⟨xb, 4, none⟩ = some (.bool on) ∧ W.cell? ⟨wb, 0, none⟩ = some (.pointer (some ⟨gb, 0, none⟩))) := Lib.hid fun W hW => by
    have hB := B3.out.fr hW (fun hn => hn (.inr rfl))
    have hX := W3.out.box.fr hW (fun hn => hn (.inl W3.out.kb))
    exact ⟨hB.cellv (i := 1) rfl, hB.cellv (i := 2) rfl, hB.cellv (i := 3) rfl, hB.cellv (i := 4) rfl, hX.cellv (i := 0) rfl⟩
  have PC := Lib.hid (route_ok (More K xb) gb s i c w3.drew (G3.out.still (Fr.refl Nil w3).drew))
  have CU : s.routeC i c = code (decide (32 ≤ i) && okI s c i) := rfl
  rw [CU] at PC
  clear CU
  go_region_held3 (fun w' => w'.cell? ⟨xb, 1, none⟩ = some (.int .i64 c) ∧ w'.cell? ⟨xb, 2, none⟩ = some (.int .i64 i) ∧ w'.cell? ⟨xb, 3, none⟩ = some (.int .i64 n) ∧ w'.cell? ⟨xb, 4, none⟩ = some (.bool on) ∧ w'.cell? ⟨wb, 0, none⟩ = some (.pointer (some ⟨gb, 0, none⟩))) (first | exact HKK.out _ (Fr.refl _ _).drew | exact HKK.out _ F4) (first | (go_at_call 45; refine PC.out.mono ?_; rintro e w4 ⟨rfl, g4, f4⟩; have F4 := ((Fr.refl (Not (More K xb)) w3).drew).trans f4) | fail)
  have W4 := Lib.hid (W3.out.prog (g4.less fun k hk => .inl hk) (F4.mono fun k _ hn hk => hn (.inl hk)))
  clear q0 q1 q2 q3 q4 b0 HKK PC RC g4 f4 F4
  go_wp2_with fail
  go_ret
  exact ⟨_, rfl, W4.out, SM.out, RR.out⟩
set_option maxHeartbeats 1000000 in
theorem step_5 (w0 : World) (K KR : Nat → Prop) (wb gb rb : Nat) (L : Lay) (s : GS) (r : RS) (c i n : Int) (on : Bool) (w : World) (h : Wd w0 K KR w wb gb rb L s r) (hs : Sim s r) (m : Nat) (hm : m ≤ 1000) (hA : AtLe s m) :
    Calls Try.prog 31 #[.pointer (some ⟨wb, 0, none⟩), .agg #[.int .i64 5, .int .i64 c, .int .i64 i, .int .i64 n, .bool on]] w (StepTo w0 K KR wb gb rb L (s.mask c n) r) := by
  have HS := Lib.hid hs
  have HA := Lib.hid (And.intro hm hA)
  have W1 := Lib.hid (h.still ((Fr.refl Nil w).alloc (.cells #[.int .i64 5, .int .i64 c, .int .i64 i, .int .i64 n, .bool on] 52)))
  have G1 := Lib.hid (h.hg.more (.cells #[.int .i64 5, .int .i64 c, .int .i64 i, .int .i64 n, .bool on] 52))
  have B1 := Lib.hid (Blk.new w 52 #[.int .i64 5, .int .i64 c, .int .i64 i, .int .i64 n, .bool on])
  have NX := Lib.hid (show ¬ RFoot rb L r.c w.heap.size from fun hk => by have := h.hr.lt hk; omega)
  have NK := Lib.hid (show ¬ K w.heap.size from fun hk => by have := h.hg.lt _ hk; omega)
  clear h hs hm hA
  go_enter Try.func31, Try.ntmps31
  go_upto_region 1 with fail
  generalize (w.alloc (.cells #[.int .i64 5, .int .i64 c, .int .i64 i, .int .i64 n, .bool on] 52)) = w1 at *
  generalize w.heap.size = xb at *
  have q0 := B1.out.cellv (i := 0) rfl
  have q1 := B1.out.cellv (i := 1) rfl
  have q2 := B1.out.cellv (i := 2) rfl
  have q3 := B1.out.cellv (i := 3) rfl
  have q4 := B1.out.cellv (i := 4) rfl
  have b1 := W1.out.box.cellv (i := 1) rfl
  go_upto_region 22 with fail
  have d0 : w1.drew.cell? _ = _ := q0
  have d1 : w1.drew.cell? _ = _ := q1
  have d2 : w1.drew.cell? _ = _ := q2
  have d3 : w1.drew.cell? _ = _ := q3
  have d4 : w1.drew.cell? _ = _ := q4
  have d5 : w1.drew.cell? _ = _ := b1
  have W2 := Lib.hid (W1.out.still (Fr.refl Nil w1).drew)
  have G2 := Lib.hid (G1.out.still (Fr.refl Nil w1).drew)
  have B2 := Lib.hid (show Blk w1.drew xb 52 #[.int .i64 5, .int .i64 c, .int .i64 i, .int .i64 n, .bool on] from B1.out)
  go_still_tail 8, (by kernel_rfl)
  change wpList _ _ _ _ _ w1.drew
  clear q0 q1 q2 q3 q4 b1 d0 d1 d2 d3 d4 d5 W1 G1 B1
  generalize w1.drew = w2 at *
  have RC := Lib.hid (rmask_ok rb L r c n w2 W2.out.hr)
  rw [maskR_eq HS.out] at RC
  have hsm := HS.out.mask c n
  have hrc : (r.maskR c n).c = r.c := RS.maskR_c _ _ _
  have SC := Lib.hid (show (s.mask c n).c = s.c by first | exact GS.setF_c _ _ _ _ | (unfold GS.line; split; exact GS.setF_c _ _ _ _; rfl) | (unfold GS.rank; split; exact GS.setF_c _ _ _ _; rfl) | (unfold GS.route; split; exact GS.setF_c _ _ _ _; rfl) | (unfold GS.mask; split <;> rfl) | exact GS.send_c _ _ _ | exact GS.ack_c _ _ | exact GS.eoi_c _ _ _)
  go_upto_region 23 with (go_at_call 48; refine RC.out.mono ?_; rintro e w3 ⟨rfl, hr, hf⟩; have W3 := Lib.hid (W2.out.ref hr hrc hf); have G3 := Lib.hid (G2.out.frK (hf.mono (S' := RFoot rb L r.c) fun k _ hk => by rw [hrc] at hk; exact hk) fun k hk => .inl (W2.out.kk k (W2.out.kr k hk))); have B3 := Lib.hid (B2.out.fr hf (by rw [hrc]; exact NX.out)); have SM := Lib.hid hsm; have RR := Lib.hid hrc; clear hr hf hrc hsm W2 G2 B2 HS; have q0 := B3.out.cellv (i := 0) rfl; have q1 := B3.out.cellv (i := 1) rfl; have q2 := B3.out.cellv (i := 2) rfl; have q3 := B3.out.cellv (i := 3) rfl; have q4 := B3.out.cellv (i := 4) rfl; have b0 := W3.out.box.cellv (i := 0) rfl)
  have HKK : Hid (∀ W, Fr (Not (More K xb)) w3 W → W.cell? ⟨xb, 1, none⟩ = some (.int .i64 c) ∧ W.cell? ⟨xb, 2, none⟩ = some (.int .i64 i) ∧ W.cell? ⟨xb, 3, none⟩ = some (.int .i64 n) ∧ W.cell? ⟨xb, 4, none⟩ = some (.bool on) ∧ W.cell? ⟨wb, 0, none⟩ = some (.pointer (some ⟨gb, 0, none⟩))) := Lib.hid fun W hW => by
    have hB := B3.out.fr hW (fun hn => hn (.inr rfl))
    have hX := W3.out.box.fr hW (fun hn => hn (.inl W3.out.kb))
    exact ⟨hB.cellv (i := 1) rfl, hB.cellv (i := 2) rfl, hB.cellv (i := 3) rfl, hB.cellv (i := 4) rfl, hX.cellv (i := 0) rfl⟩
  have PC := Lib.hid (mask_ok (More K xb) gb s c n w3.drew (G3.out.still (Fr.refl Nil w3).drew))
  go_region_held3 (fun w' => w'.cell? ⟨xb, 1, none⟩ = some (.int .i64 c) ∧ w'.cell? ⟨xb, 2, none⟩ = some (.int .i64 i) ∧ w'.cell? ⟨xb, 3, none⟩ = some (.int .i64 n) ∧ w'.cell? ⟨xb, 4, none⟩ = some (.bool on) ∧ w'.cell? ⟨wb, 0, none⟩ = some (.pointer (some ⟨gb, 0, none⟩))) (first | exact HKK.out _ (Fr.refl _ _).drew | exact HKK.out _ F4) (first | (go_at_call 25; refine PC.out.mono ?_; rintro e w4 ⟨rfl, g4, f4⟩; have F4 := ((Fr.refl (Not (More K xb)) w3).drew).trans f4) | fail)
  have W4 := Lib.hid (W3.out.prog (g4.less fun k hk => .inl hk) (F4.mono fun k _ hn hk => hn (.inl hk)))
  clear q0 q1 q2 q3 q4 b0 HKK PC RC g4 f4 F4
  go_wp2_with fail
  go_ret
  exact ⟨_, rfl, W4.out, SM.out, RR.out⟩
set_option maxHeartbeats 1000000 in
theorem step_6 (w0 : World) (K KR : Nat → Prop) (wb gb rb : Nat) (L : Lay) (s : GS) (r : RS) (c i n : Int) (on : Bool) (w : World) (h : Wd w0 K KR w wb gb rb L s r) (hs : Sim s r) (m : Nat) (hm : m ≤ 1000) (hA : AtLe s m) :
    Calls Try.prog 31 #[.pointer (some ⟨wb, 0, none⟩), .agg #[.int .i64 6, .int .i64 c, .int .i64 i, .int .i64 n, .bool on]] w (StepTo w0 K KR wb gb rb L (s.send n i) r) := by
  have HS := Lib.hid hs
  have HA := Lib.hid (And.intro hm hA)
  have W1 := Lib.hid (h.still ((Fr.refl Nil w).alloc (.cells #[.int .i64 6, .int .i64 c, .int .i64 i, .int .i64 n, .bool on] 52)))
  have G1 := Lib.hid (h.hg.more (.cells #[.int .i64 6, .int .i64 c, .int .i64 i, .int .i64 n, .bool on] 52))
  have B1 := Lib.hid (Blk.new w 52 #[.int .i64 6, .int .i64 c, .int .i64 i, .int .i64 n, .bool on])
  have NX := Lib.hid (show ¬ RFoot rb L r.c w.heap.size from fun hk => by have := h.hr.lt hk; omega)
  have NK := Lib.hid (show ¬ K w.heap.size from fun hk => by have := h.hg.lt _ hk; omega)
  clear h hs hm hA
  go_enter Try.func31, Try.ntmps31
  go_upto_region 1 with fail
  generalize (w.alloc (.cells #[.int .i64 6, .int .i64 c, .int .i64 i, .int .i64 n, .bool on] 52)) = w1 at *
  generalize w.heap.size = xb at *
  have q0 := B1.out.cellv (i := 0) rfl
  have q1 := B1.out.cellv (i := 1) rfl
  have q2 := B1.out.cellv (i := 2) rfl
  have q3 := B1.out.cellv (i := 3) rfl
  have q4 := B1.out.cellv (i := 4) rfl
  have b1 := W1.out.box.cellv (i := 1) rfl
  go_upto_region 25 with fail
  have d0 : w1.drew.cell? _ = _ := q0
  have d1 : w1.drew.cell? _ = _ := q1
  have d2 : w1.drew.cell? _ = _ := q2
  have d3 : w1.drew.cell? _ = _ := q3
  have d4 : w1.drew.cell? _ = _ := q4
  have d5 : w1.drew.cell? _ = _ := b1
  have W2 := Lib.hid (W1.out.still (Fr.refl Nil w1).drew)
  have G2 := Lib.hid (G1.out.still (Fr.refl Nil w1).drew)
  have B2 := Lib.hid (show Blk w1.drew xb 52 #[.int .i64 6, .int .i64 c, .int .i64 i, .int .i64 n, .bool on] from B1.out)
  go_still_tail 8, (by kernel_rfl)
  change wpList _ _ _ _ _ w1.drew
  clear q0 q1 q2 q3 q4 b1 d0 d1 d2 d3 d4 d5 W1 G1 B1
  generalize w1.drew = w2 at *
  have RC := Lib.hid (rsend_ok rb L r n i w2 W2.out.hr)
  rw [fitsR_eq HS.out] at RC
  have hsm := HS.out.send n i
  have SC := Lib.hid (show (s.send n i).c = s.c by first | exact GS.setF_c _ _ _ _ | (unfold GS.line; split; exact GS.setF_c _ _ _ _; rfl) | (unfold GS.rank; split; exact GS.setF_c _ _ _ _; rfl) | (unfold GS.route; split; exact GS.setF_c _ _ _ _; rfl) | (unfold GS.mask; split <;> rfl) | exact GS.send_c _ _ _ | exact GS.ack_c _ _ | exact GS.eoi_c _ _ _)
  go_upto_region 26 with (go_at_call 49; refine RC.out.mono ?_; rintro e w3 ⟨rfl, hr, hf⟩; have hrc := hsm.c.trans (show _ = r.c by rw [HS.out.c]; exact SC.out); have W3 := Lib.hid (W2.out.ref hr hrc hf); have G3 := Lib.hid (G2.out.frK (hf.mono (S' := RFoot rb L r.c) fun k _ hk => by rw [hrc] at hk; exact hk) fun k hk => .inl (W2.out.kk k (W2.out.kr k hk))); have B3 := Lib.hid (B2.out.fr hf (by rw [hrc]; exact NX.out)); have SM := Lib.hid hsm; have RR := Lib.hid hrc; clear hr hf hrc hsm W2 G2 B2 HS; have q0 := B3.out.cellv (i := 0) rfl; have q1 := B3.out.cellv (i := 1) rfl; have q2 := B3.out.cellv (i := 2) rfl; have q3 := B3.out.cellv (i := 3) rfl; have q4 := B3.out.cellv (i := 4) rfl; have b0 := W3.out.box.cellv (i := 0) rfl)
  have HKK : Hid (∀ W, Fr (Not (More K xb)) w3 W → W.cell? ⟨xb, 1, none⟩ = some (.int .i64 c) ∧ W.cell? ⟨xb, 2, none⟩ = some (.int .i64 i) ∧ W.cell? ⟨xb, 3, none⟩ = some (.int .i64 n) ∧ W.cell? ⟨xb, 4, none⟩ = some (.bool on) ∧ W.cell? ⟨wb, 0, none⟩ = some (.pointer (some ⟨gb, 0, none⟩))) := Lib.hid fun W hW => by
    have hB := B3.out.fr hW (fun hn => hn (.inr rfl))
    have hX := W3.out.box.fr hW (fun hn => hn (.inl W3.out.kb))
    exact ⟨hB.cellv (i := 1) rfl, hB.cellv (i := 2) rfl, hB.cellv (i := 3) rfl, hB.cellv (i := 4) rfl, hX.cellv (i := 0) rfl⟩
  have PC := Lib.hid (send_ok (More K xb) gb s n i w3.drew (G3.out.still (Fr.refl Nil w3).drew))
  have CU : s.sendC n i = code (fits s n i) := rfl
  rw [CU] at PC
  clear CU
  go_region_held3 (fun w' => w'.cell? ⟨xb, 1, none⟩ = some (.int .i64 c) ∧ w'.cell? ⟨xb, 2, none⟩ = some (.int .i64 i) ∧ w'.cell? ⟨xb, 3, none⟩ = some (.int .i64 n) ∧ w'.cell? ⟨xb, 4, none⟩ = some (.bool on) ∧ w'.cell? ⟨wb, 0, none⟩ = some (.pointer (some ⟨gb, 0, none⟩))) (first | exact HKK.out _ (Fr.refl _ _).drew | exact HKK.out _ F4) (first | (go_at_call 27; refine PC.out.mono ?_; rintro e w4 ⟨rfl, g4, f4⟩; have F4 := ((Fr.refl (Not (More K xb)) w3).drew).trans f4) | fail)
  have W4 := Lib.hid (W3.out.prog (g4.less fun k hk => .inl hk) (F4.mono fun k _ hn hk => hn (.inl hk)))
  clear q0 q1 q2 q3 q4 b0 HKK PC RC g4 f4 F4
  go_wp2_with fail
  go_ret
  exact ⟨_, rfl, W4.out, SM.out, RR.out⟩
set_option maxHeartbeats 1000000 in
theorem step_7 (w0 : World) (K KR : Nat → Prop) (wb gb rb : Nat) (L : Lay) (s : GS) (r : RS) (c i n : Int) (on : Bool) (w : World) (h : Wd w0 K KR w wb gb rb L s r) (hs : Sim s r) (m : Nat) (hm : m ≤ 1000) (hA : AtLe s m) :
    Calls Try.prog 31 #[.pointer (some ⟨wb, 0, none⟩), .agg #[.int .i64 7, .int .i64 c, .int .i64 i, .int .i64 n, .bool on]] w (StepTo w0 K KR wb gb rb L (s.ack c) r) := by
  have HS := Lib.hid hs
  have HA := Lib.hid (And.intro hm hA)
  have W1 := Lib.hid (h.still ((Fr.refl Nil w).alloc (.cells #[.int .i64 7, .int .i64 c, .int .i64 i, .int .i64 n, .bool on] 52)))
  have G1 := Lib.hid (h.hg.more (.cells #[.int .i64 7, .int .i64 c, .int .i64 i, .int .i64 n, .bool on] 52))
  have B1 := Lib.hid (Blk.new w 52 #[.int .i64 7, .int .i64 c, .int .i64 i, .int .i64 n, .bool on])
  have NX := Lib.hid (show ¬ RFoot rb L r.c w.heap.size from fun hk => by have := h.hr.lt hk; omega)
  have NK := Lib.hid (show ¬ K w.heap.size from fun hk => by have := h.hg.lt _ hk; omega)
  clear h hs hm hA
  go_enter Try.func31, Try.ntmps31
  go_upto_region 1 with fail
  generalize (w.alloc (.cells #[.int .i64 7, .int .i64 c, .int .i64 i, .int .i64 n, .bool on] 52)) = w1 at *
  generalize w.heap.size = xb at *
  have q0 := B1.out.cellv (i := 0) rfl
  have q1 := B1.out.cellv (i := 1) rfl
  have q2 := B1.out.cellv (i := 2) rfl
  have q3 := B1.out.cellv (i := 3) rfl
  have q4 := B1.out.cellv (i := 4) rfl
  have b1 := W1.out.box.cellv (i := 1) rfl
  go_upto_region 28 with fail
  have d0 : w1.drew.cell? _ = _ := q0
  have d1 : w1.drew.cell? _ = _ := q1
  have d2 : w1.drew.cell? _ = _ := q2
  have d3 : w1.drew.cell? _ = _ := q3
  have d4 : w1.drew.cell? _ = _ := q4
  have d5 : w1.drew.cell? _ = _ := b1
  have W2 := Lib.hid (W1.out.still (Fr.refl Nil w1).drew)
  have G2 := Lib.hid (G1.out.still (Fr.refl Nil w1).drew)
  have B2 := Lib.hid (show Blk w1.drew xb 52 #[.int .i64 7, .int .i64 c, .int .i64 i, .int .i64 n, .bool on] from B1.out)
  go_still_tail 6, (by kernel_rfl)
  change wpList _ _ _ _ _ w1.drew
  clear q0 q1 q2 q3 q4 b1 d0 d1 d2 d3 d4 d5 W1 G1 B1
  generalize w1.drew = w2 at *
  have RC := Lib.hid (rack_ok rb L r c w2 W2.out.hr)
  have SC := Lib.hid (show (s.ack c).c = s.c by first | exact GS.setF_c _ _ _ _ | (unfold GS.line; split; exact GS.setF_c _ _ _ _; rfl) | (unfold GS.rank; split; exact GS.setF_c _ _ _ _; rfl) | (unfold GS.route; split; exact GS.setF_c _ _ _ _; rfl) | (unfold GS.mask; split <;> rfl) | exact GS.send_c _ _ _ | exact GS.ack_c _ _ | exact GS.eoi_c _ _ _)
  go_upto_region 29 with (go_at_call 50; refine RC.out.mono ?_; intro e w3 hr; obtain ⟨r', rfl, hr, hf, hsm, hrc⟩ := HS.out.ack hr; rw [← hrc] at hf; have W3 := Lib.hid (W2.out.ref hr hrc hf); have G3 := Lib.hid (G2.out.frK (hf.mono (S' := RFoot rb L r.c) fun k _ hk => by rw [hrc] at hk; exact hk) fun k hk => .inl (W2.out.kk k (W2.out.kr k hk))); have B3 := Lib.hid (B2.out.fr hf (by rw [hrc]; exact NX.out)); have SM := Lib.hid hsm; have RR := Lib.hid hrc; clear hr hf hrc hsm W2 G2 B2 HS; have q0 := B3.out.cellv (i := 0) rfl; have q1 := B3.out.cellv (i := 1) rfl; have q2 := B3.out.cellv (i := 2) rfl; have q3 := B3.out.cellv (i := 3) rfl; have q4 := B3.out.cellv (i := 4) rfl; have b0 := W3.out.box.cellv (i := 0) rfl)
  have HKK : Hid (∀ W, Fr (Not (More K xb)) w3 W → W.cell? ⟨xb, 1, none⟩ = some (.int .i64 c) ∧ W.cell? ⟨xb, 2, none⟩ = some (.int .i64 i) ∧ W.cell? ⟨xb, 3, none⟩ = some (.int .i64 n) ∧ W.cell? ⟨xb, 4, none⟩ = some (.bool on) ∧ W.cell? ⟨wb, 0, none⟩ = some (.pointer (some ⟨gb, 0, none⟩))) := Lib.hid fun W hW => by
    have hB := B3.out.fr hW (fun hn => hn (.inr rfl))
    have hX := W3.out.box.fr hW (fun hn => hn (.inl W3.out.kb))
    exact ⟨hB.cellv (i := 1) rfl, hB.cellv (i := 2) rfl, hB.cellv (i := 3) rfl, hB.cellv (i := 4) rfl, hX.cellv (i := 0) rfl⟩
  have PC := Lib.hid (ack_ok (More K xb) gb s c w3.drew (G3.out.still (Fr.refl Nil w3).drew) m HA.out.1 HA.out.2)
  go_region_held3 (fun w' => w'.cell? ⟨xb, 1, none⟩ = some (.int .i64 c) ∧ w'.cell? ⟨xb, 2, none⟩ = some (.int .i64 i) ∧ w'.cell? ⟨xb, 3, none⟩ = some (.int .i64 n) ∧ w'.cell? ⟨xb, 4, none⟩ = some (.bool on) ∧ w'.cell? ⟨wb, 0, none⟩ = some (.pointer (some ⟨gb, 0, none⟩))) (first | exact HKK.out _ (Fr.refl _ _).drew | exact HKK.out _ F4) (first | (go_at_call 16; refine PC.out.mono ?_; rintro e w4 ⟨rfl, g4, f4⟩; have F4 := ((Fr.refl (Not (More K xb)) w3).drew).trans f4) | fail)
  have W4 := Lib.hid (W3.out.prog (g4.less fun k hk => .inl hk) (F4.mono fun k _ hn hk => hn (.inl hk)))
  clear q0 q1 q2 q3 q4 b0 HKK PC RC g4 f4 F4
  go_wp2_with fail
  go_ret
  exact ⟨_, rfl, W4.out, SM.out, RR.out⟩
set_option maxHeartbeats 1000000 in
theorem step_8 (w0 : World) (K KR : Nat → Prop) (wb gb rb : Nat) (L : Lay) (s : GS) (r : RS) (c i n : Int) (on : Bool) (w : World) (h : Wd w0 K KR w wb gb rb L s r) (hs : Sim s r) (m : Nat) (hm : m ≤ 1000) (hA : AtLe s m) :
    Calls Try.prog 31 #[.pointer (some ⟨wb, 0, none⟩), .agg #[.int .i64 8, .int .i64 c, .int .i64 i, .int .i64 n, .bool on]] w (StepTo w0 K KR wb gb rb L (s.eoi c i) r) := by
  have HS := Lib.hid hs
  have HA := Lib.hid (And.intro hm hA)
  have W1 := Lib.hid (h.still ((Fr.refl Nil w).alloc (.cells #[.int .i64 8, .int .i64 c, .int .i64 i, .int .i64 n, .bool on] 52)))
  have G1 := Lib.hid (h.hg.more (.cells #[.int .i64 8, .int .i64 c, .int .i64 i, .int .i64 n, .bool on] 52))
  have B1 := Lib.hid (Blk.new w 52 #[.int .i64 8, .int .i64 c, .int .i64 i, .int .i64 n, .bool on])
  have NX := Lib.hid (show ¬ RFoot rb L r.c w.heap.size from fun hk => by have := h.hr.lt hk; omega)
  have NK := Lib.hid (show ¬ K w.heap.size from fun hk => by have := h.hg.lt _ hk; omega)
  clear h hs hm hA
  go_enter Try.func31, Try.ntmps31
  go_upto_region 1 with fail
  generalize (w.alloc (.cells #[.int .i64 8, .int .i64 c, .int .i64 i, .int .i64 n, .bool on] 52)) = w1 at *
  generalize w.heap.size = xb at *
  have q0 := B1.out.cellv (i := 0) rfl
  have q1 := B1.out.cellv (i := 1) rfl
  have q2 := B1.out.cellv (i := 2) rfl
  have q3 := B1.out.cellv (i := 3) rfl
  have q4 := B1.out.cellv (i := 4) rfl
  have b1 := W1.out.box.cellv (i := 1) rfl
  go_upto_region 31 with fail
  have d0 : w1.drew.cell? _ = _ := q0
  have d1 : w1.drew.cell? _ = _ := q1
  have d2 : w1.drew.cell? _ = _ := q2
  have d3 : w1.drew.cell? _ = _ := q3
  have d4 : w1.drew.cell? _ = _ := q4
  have d5 : w1.drew.cell? _ = _ := b1
  have W2 := Lib.hid (W1.out.still (Fr.refl Nil w1).drew)
  have G2 := Lib.hid (G1.out.still (Fr.refl Nil w1).drew)
  have B2 := Lib.hid (show Blk w1.drew xb 52 #[.int .i64 8, .int .i64 c, .int .i64 i, .int .i64 n, .bool on] from B1.out)
  have HK1 : Hid (∀ W, Fr (RFoot rb L r.c) w1 W → W.cell? ⟨xb, 1, none⟩ = some (.int .i64 c) ∧ W.cell? ⟨xb, 2, none⟩ = some (.int .i64 i) ∧ W.cell? ⟨wb, 1, none⟩ = some (.pointer (some ⟨rb, 0, none⟩))) := Lib.hid fun W hW => by
    have hB := B1.out.fr hW NX.out
    have hX := W1.out.box.fr hW (fun hn => W1.out.nb (W1.out.kr _ hn))
    exact ⟨hB.cellv (i := 1) rfl, hB.cellv (i := 2) rfl, hX.cellv (i := 1) rfl⟩
  clear d0 d1 d2 d3 d4 d5
  have RC := Lib.hid (reoi_ok rb L r c i w1.drew W2.out.hr)
  rw [eoi_eq HS.out, okR_eq HS.out] at RC
  have hsm := HS.out.eoi c i
  have hrc : (r.eoiR c i).c = r.c := RS.eoiR_c _ _ _
  have SC := Lib.hid (show (s.eoi c i).c = s.c by first | exact GS.setF_c _ _ _ _ | (unfold GS.line; split; exact GS.setF_c _ _ _ _; rfl) | (unfold GS.rank; split; exact GS.setF_c _ _ _ _; rfl) | (unfold GS.route; split; exact GS.setF_c _ _ _ _; rfl) | (unfold GS.mask; split <;> rfl) | exact GS.send_c _ _ _ | exact GS.ack_c _ _ | exact GS.eoi_c _ _ _)
  go_region_held3 (fun w' => w'.cell? ⟨xb, 1, none⟩ = some (.int .i64 c) ∧ w'.cell? ⟨xb, 2, none⟩ = some (.int .i64 i) ∧ w'.cell? ⟨wb, 1, none⟩ = some (.pointer (some ⟨rb, 0, none⟩))) (first | exact HK1.out _ (Fr.refl _ _).drew | exact HK1.out _ F3) (first | (go_at_call 51; refine RC.out.mono ?_; rintro e w3 ⟨rfl, hr, hf⟩; have F3 := ((Fr.refl (RFoot rb L r.c) w1).drew).trans (by rw [hrc] at hf; exact hf)) | fail)
  clear q0 q1 q2 q3 q4 b1
  have W3 := Lib.hid (W2.out.ref hr hrc hf)
  have G3 := Lib.hid (G2.out.frK (hf.mono (S' := RFoot rb L r.c) fun k _ hk => by rw [hrc] at hk; exact hk) fun k hk => .inl (W2.out.kk k (W2.out.kr k hk)))
  have B3 := Lib.hid (B2.out.fr hf (by rw [hrc]; exact NX.out))
  have SM := Lib.hid hsm
  have RR := Lib.hid hrc
  clear hr hf hrc hsm W2 G2 B2 HS
  clear W1 G1 B1 HK1 F3
  have q0 := B3.out.cellv (i := 0) rfl
  have q1 := B3.out.cellv (i := 1) rfl
  have q2 := B3.out.cellv (i := 2) rfl
  have q3 := B3.out.cellv (i := 3) rfl
  have q4 := B3.out.cellv (i := 4) rfl
  have b0 := W3.out.box.cellv (i := 0) rfl
  go_upto_region 32 with fail
  have HKK : Hid (∀ W, Fr (Not (More K xb)) w3 W → W.cell? ⟨xb, 1, none⟩ = some (.int .i64 c) ∧ W.cell? ⟨xb, 2, none⟩ = some (.int .i64 i) ∧ W.cell? ⟨xb, 3, none⟩ = some (.int .i64 n) ∧ W.cell? ⟨xb, 4, none⟩ = some (.bool on) ∧ W.cell? ⟨wb, 0, none⟩ = some (.pointer (some ⟨gb, 0, none⟩))) := Lib.hid fun W hW => by
    have hB := B3.out.fr hW (fun hn => hn (.inr rfl))
    have hX := W3.out.box.fr hW (fun hn => hn (.inl W3.out.kb))
    exact ⟨hB.cellv (i := 1) rfl, hB.cellv (i := 2) rfl, hB.cellv (i := 3) rfl, hB.cellv (i := 4) rfl, hX.cellv (i := 0) rfl⟩
  have PC := Lib.hid (eoi_ok (More K xb) gb s c i w3.drew (G3.out.still (Fr.refl Nil w3).drew) m HA.out.1 HA.out.2)
  go_region_held3 (fun w' => w'.cell? ⟨xb, 1, none⟩ = some (.int .i64 c) ∧ w'.cell? ⟨xb, 2, none⟩ = some (.int .i64 i) ∧ w'.cell? ⟨xb, 3, none⟩ = some (.int .i64 n) ∧ w'.cell? ⟨xb, 4, none⟩ = some (.bool on) ∧ w'.cell? ⟨wb, 0, none⟩ = some (.pointer (some ⟨gb, 0, none⟩))) (first | exact HKK.out _ (Fr.refl _ _).drew | exact HKK.out _ F4) (first | (go_at_call 17; refine PC.out.mono ?_; rintro e w4 ⟨rfl, g4, f4⟩; have F4 := ((Fr.refl (Not (More K xb)) w3).drew).trans f4) | fail)
  have W4 := Lib.hid (W3.out.prog (g4.less fun k hk => .inl hk) (F4.mono fun k _ hn hk => hn (.inl hk)))
  clear q0 q1 q2 q3 q4 b0 HKK PC RC g4 f4 F4
  go_wp2_with fail
  go_ret
  exact ⟨_, rfl, W4.out, SM.out, RR.out⟩
theorem step_no (w0 : World) (K KR : Nat → Prop) (wb gb rb : Nat) (L : Lay) (s : GS) (r : RS) (k c i n : Int) (on : Bool) (w : World) (h : Wd w0 K KR w wb gb rb L s r) (hs : Sim s r) (h0 : (k == 0) = false) (h1 : (k == 1) = false) (h2 : (k == 2) = false) (h3 : (k == 3) = false) (h4 : (k == 4) = false) (h5 : (k == 5) = false) (h6 : (k == 6) = false) (h7 : (k == 7) = false) (h8 : (k == 8) = false) :
    Calls Try.prog 31 #[.pointer (some ⟨wb, 0, none⟩), .agg #[.int .i64 k, .int .i64 c, .int .i64 i, .int .i64 n, .bool on]] w (StepTo w0 K KR wb gb rb L s r) := by
  have HS := Lib.hid hs
  have W1 := Lib.hid (h.still ((Fr.refl Nil w).alloc (.cells #[.int .i64 k, .int .i64 c, .int .i64 i, .int .i64 n, .bool on] 52)))
  have q0 := (Blk.new w 52 #[.int .i64 k, .int .i64 c, .int .i64 i, .int .i64 n, .bool on]).cellv (i := 0) rfl
  clear h hs
  go_enter Try.func31, Try.ntmps31
  go_wp2
  go_ret
  exact ⟨r, rfl, W1.out, HS.out, rfl⟩
theorem step_ok (w0 : World) (K KR : Nat → Prop) (wb gb rb : Nat) (L : Lay) (s : GS) (r : RS) (o : Stp) (w : World) (h : Wd w0 K KR w wb gb rb L s r) (hs : Sim s r) (m : Nat) (hm : m ≤ 1000) (hA : AtLe s m) :
    Calls Try.prog 31 #[.pointer (some ⟨wb, 0, none⟩), stv o] w (StepTo w0 K KR wb gb rb L (s.only o) r) := by
  obtain ⟨k, c, i, n, on⟩ := o
  unfold stv GS.only
  dsimp only
  by_cases h0 : k = 0
  · subst h0
    exact step_0 w0 K KR wb gb rb L s r c i n on w h hs m hm hA
  rw [if_neg h0]
  by_cases h1 : k = 1
  · subst h1
    exact step_1 w0 K KR wb gb rb L s r c i n on w h hs m hm hA
  rw [if_neg h1]
  by_cases h2 : k = 2
  · subst h2
    exact step_2 w0 K KR wb gb rb L s r c i n on w h hs m hm hA
  rw [if_neg h2]
  by_cases h3 : k = 3
  · subst h3
    exact step_3 w0 K KR wb gb rb L s r c i n on w h hs m hm hA
  rw [if_neg h3]
  by_cases h4 : k = 4
  · subst h4
    exact step_4 w0 K KR wb gb rb L s r c i n on w h hs m hm hA
  rw [if_neg h4]
  by_cases h5 : k = 5
  · subst h5
    exact step_5 w0 K KR wb gb rb L s r c i n on w h hs m hm hA
  rw [if_neg h5]
  by_cases h6 : k = 6
  · subst h6
    exact step_6 w0 K KR wb gb rb L s r c i n on w h hs m hm hA
  rw [if_neg h6]
  by_cases h7 : k = 7
  · subst h7
    exact step_7 w0 K KR wb gb rb L s r c i n on w h hs m hm hA
  rw [if_neg h7]
  by_cases h8 : k = 8
  · subst h8
    exact step_8 w0 K KR wb gb rb L s r c i n on w h hs m hm hA
  rw [if_neg h8]
  exact step_no w0 K KR wb gb rb L s r k c i n on w h hs (by simpa using h0) (by simpa using h1) (by simpa using h2) (by simpa using h3) (by simpa using h4) (by simpa using h5) (by simpa using h6) (by simpa using h7) (by simpa using h8)
end Go.Proofs.Ytpgelocofoidnaa
