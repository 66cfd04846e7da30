/- A call, whatever it answers. -/
import Derived.Test.YtpgelocofoidnaaGall
import Derived.Test.YtpgelocofoidnaaGeoi
import Derived.StillTailTactics
set_option linter.unusedSimpArgs false
set_option linter.unusedSectionVars false
namespace Go.Proofs.Ytpgelocofoidnaa
open Go.RowKit
set_option linter.unusedVariables false
set_option maxRecDepth 100000

structure Stp where
  k : Int
  c : Int
  i : Int
  n : Int
  on : Bool
def stv (o : Stp) : Value := .agg #[.int .i64 o.k, .int .i64 o.c, .int .i64 o.i, .int .i64 o.n, .bool o.on]
def GS.only (s : GS) (o : Stp) : GS :=
  if o.k = 0 then s.enable o.c o.i o.on else if o.k = 1 then s.pend o.c o.i o.on else if o.k = 2 then s.line o.c o.i o.on else if o.k = 3 then s.rank o.c o.i o.n else if o.k = 4 then s.route o.i o.c
  else if o.k = 5 then s.mask o.c o.n else if o.k = 6 then s.send o.n o.i else if o.k = 7 then s.ack o.c else if o.k = 8 then s.eoi o.c o.i else s
def OnlyTo (K : Nat → Prop) (gb : Nat) (w : World) (s' : GS) (e : Ending) (w' : World) : Prop := e = .returned (.tuple #[]) ∧ Gk K w' gb s' ∧ Fr (Not K) w w'

set_option maxHeartbeats 1000000 in
theorem only_0 (K : Nat → Prop) (gb : Nat) (s : GS) (bx : Nat) (c i n : Int) (on : Bool) (w : World) (h : Gk K w gb s) (hx : K bx) (hb : w.cell? ⟨bx, 0, none⟩ = some (.pointer (some ⟨gb, 0, none⟩))) (m : Nat) (hm : m ≤ 1000) (hA : AtLe s m) :
    Calls Try.prog 29 #[.pointer (some ⟨bx, 0, none⟩), .agg #[.int .i64 0, .int .i64 c, .int .i64 i, .int .i64 n, .bool on]] w (OnlyTo K gb w (s.enable c i on)) := by
  have F := (Fr.refl Nil w).alloc (.cells #[.int .i64 0, .int .i64 c, .int .i64 i, .int .i64 n, .bool on] 52)
  have B := Blk.new w 52 #[.int .i64 0, .int .i64 c, .int .i64 i, .int .i64 n, .bool on]
  have q0 := B.cellv (i := 0) rfl
  have q1 := B.cellv (i := 1) rfl
  have q2 := B.cellv (i := 2) rfl
  have q3 := B.cellv (i := 3) rfl
  have q4 := B.cellv (i := 4) rfl
  have hb2 : (w.alloc (.cells #[.int .i64 0, .int .i64 c, .int .i64 i, .int .i64 n, .bool on] 52)).cell? ⟨bx, 0, none⟩ = some (.pointer (some ⟨gb, 0, none⟩)) := (F.cell (p := ⟨bx, 0, none⟩) (h.lt bx hx) id).trans hb
  have CT := Lib.hid (enable_ok K gb s c i on _ ((h.still F).still (Fr.refl Nil _).drew))
  have HF := Lib.hid F
  clear B h hx hb F hA
  go_enter Try.func29, Try.ntmps29
  go_upto_region 3 with fail
  generalize (w.alloc (.cells #[.int .i64 0, .int .i64 c, .int .i64 i, .int .i64 n, .bool on] 52)) = w1 at *
  go_still_tail 10, (by kernel_rfl)
  change wpList _ _ _ _ _ w1.drew
  go_wp2_with (go_at_call 15; refine CT.out.mono ?_; rintro e w2 ⟨rfl, g2, f2⟩; have G2 := Lib.hid g2; have F2 := Lib.hid f2; clear g2 f2)
  go_end0
  exact ⟨rfl, G2.out, (HF.out.nil.trans (Fr.refl _ _).drew).trans F2.out⟩

set_option maxHeartbeats 1000000 in
theorem only_1 (K : Nat → Prop) (gb : Nat) (s : GS) (bx : Nat) (c i n : Int) (on : Bool) (w : World) (h : Gk K w gb s) (hx : K bx) (hb : w.cell? ⟨bx, 0, none⟩ = some (.pointer (some ⟨gb, 0, none⟩))) (m : Nat) (hm : m ≤ 1000) (hA : AtLe s m) :
    Calls Try.prog 29 #[.pointer (some ⟨bx, 0, none⟩), .agg #[.int .i64 1, .int .i64 c, .int .i64 i, .int .i64 n, .bool on]] w (OnlyTo K gb w (s.pend c i on)) := by
  have F := (Fr.refl Nil w).alloc (.cells #[.int .i64 1, .int .i64 c, .int .i64 i, .int .i64 n, .bool on] 52)
  have B := Blk.new w 52 #[.int .i64 1, .int .i64 c, .int .i64 i, .int .i64 n, .bool on]
  have q0 := B.cellv (i := 0) rfl
  have q1 := B.cellv (i := 1) rfl
  have q2 := B.cellv (i := 2) rfl
  have q3 := B.cellv (i := 3) rfl
  have q4 := B.cellv (i := 4) rfl
  have hb2 : (w.alloc (.cells #[.int .i64 1, .int .i64 c, .int .i64 i, .int .i64 n, .bool on] 52)).cell? ⟨bx, 0, none⟩ = some (.pointer (some ⟨gb, 0, none⟩)) := (F.cell (p := ⟨bx, 0, none⟩) (h.lt bx hx) id).trans hb
  have CT := Lib.hid (pend_ok K gb s c i on _ ((h.still F).still (Fr.refl Nil _).drew))
  have HF := Lib.hid F
  clear B h hx hb F hA
  go_enter Try.func29, Try.ntmps29
  go_upto_region 5 with fail
  generalize (w.alloc (.cells #[.int .i64 1, .int .i64 c, .int .i64 i, .int .i64 n, .bool on] 52)) = w1 at *
  go_still_tail 10, (by kernel_rfl)
  change wpList _ _ _ _ _ w1.drew
  go_wp2_with (go_at_call 21; refine CT.out.mono ?_; rintro e w2 ⟨rfl, g2, f2⟩; have G2 := Lib.hid g2; have F2 := Lib.hid f2; clear g2 f2)
  go_end0
  exact ⟨rfl, G2.out, (HF.out.nil.trans (Fr.refl _ _).drew).trans F2.out⟩

set_option maxHeartbeats 1000000 in
theorem only_2 (K : Nat → Prop) (gb : Nat) (s : GS) (bx : Nat) (c i n : Int) (on : Bool) (w : World) (h : Gk K w gb s) (hx : K bx) (hb : w.cell? ⟨bx, 0, none⟩ = some (.pointer (some ⟨gb, 0, none⟩))) (m : Nat) (hm : m ≤ 1000) (hA : AtLe s m) :
    Calls Try.prog 29 #[.pointer (some ⟨bx, 0, none⟩), .agg #[.int .i64 2, .int .i64 c, .int .i64 i, .int .i64 n, .bool on]] w (OnlyTo K gb w (s.line c i on)) := by
  have F := (Fr.refl Nil w).alloc (.cells #[.int .i64 2, .int .i64 c, .int .i64 i, .int .i64 n, .bool on] 52)
  have B := Blk.new w 52 #[.int .i64 2, .int .i64 c, .int .i64 i, .int .i64 n, .bool on]
  have q0 := B.cellv (i := 0) rfl
  have q1 := B.cellv (i := 1) rfl
  have q2 := B.cellv (i := 2) rfl
  have q3 := B.cellv (i := 3) rfl
  have q4 := B.cellv (i := 4) rfl
  have hb2 : (w.alloc (.cells #[.int .i64 2, .int .i64 c, .int .i64 i, .int .i64 n, .bool on] 52)).cell? ⟨bx, 0, none⟩ = some (.pointer (some ⟨gb, 0, none⟩)) := (F.cell (p := ⟨bx, 0, none⟩) (h.lt bx hx) id).trans hb
  have CT := Lib.hid (line_ok K gb s c i on _ ((h.still F).still (Fr.refl Nil _).drew))
  have HF := Lib.hid F
  clear B h hx hb F hA
  go_enter Try.func29, Try.ntmps29
  go_upto_region 7 with fail
  generalize (w.alloc (.cells #[.int .i64 2, .int .i64 c, .int .i64 i, .int .i64 n, .bool on] 52)) = w1 at *
  go_still_tail 10, (by kernel_rfl)
  change wpList _ _ _ _ _ w1.drew
  go_wp2_with (go_at_call 14; refine CT.out.mono ?_; rintro e w2 ⟨rfl, g2, f2⟩; have G2 := Lib.hid g2; have F2 := Lib.hid f2; clear g2 f2)
  go_end0
  exact ⟨rfl, G2.out, (HF.out.nil.trans (Fr.refl _ _).drew).trans F2.out⟩

set_option maxHeartbeats 1000000 in
theorem only_3 (K : Nat → Prop) (gb : Nat) (s : GS) (bx : Nat) (c i n : Int) (on : Bool) (w : World) (h : Gk K w gb s) (hx : K bx) (hb : w.cell? ⟨bx, 0, none⟩ = some (.pointer (some ⟨gb, 0, none⟩))) (m : Nat) (hm : m ≤ 1000) (hA : AtLe s m) :
    Calls Try.prog 29 #[.pointer (some ⟨bx, 0, none⟩), .agg #[.int .i64 3, .int .i64 c, .int .i64 i, .int .i64 n, .bool on]] w (OnlyTo K gb w (s.rank c i n)) := by
  have F := (Fr.refl Nil w).alloc (.cells #[.int .i64 3, .int .i64 c, .int .i64 i, .int .i64 n, .bool on] 52)
  have B := Blk.new w 52 #[.int .i64 3, .int .i64 c, .int .i64 i, .int .i64 n, .bool on]
  have q0 := B.cellv (i := 0) rfl
  have q1 := B.cellv (i := 1) rfl
  have q2 := B.cellv (i := 2) rfl
  have q3 := B.cellv (i := 3) rfl
  have q4 := B.cellv (i := 4) rfl
  have hb2 : (w.alloc (.cells #[.int .i64 3, .int .i64 c, .int .i64 i, .int .i64 n, .bool on] 52)).cell? ⟨bx, 0, none⟩ = some (.pointer (some ⟨gb, 0, none⟩)) := (F.cell (p := ⟨bx, 0, none⟩) (h.lt bx hx) id).trans hb
  have CT := Lib.hid (rank_ok K gb s c i n _ ((h.still F).still (Fr.refl Nil _).drew))
  have HF := Lib.hid F
  clear B h hx hb F hA
  go_enter Try.func29, Try.ntmps29
  go_upto_region 9 with fail
  generalize (w.alloc (.cells #[.int .i64 3, .int .i64 c, .int .i64 i, .int .i64 n, .bool on] 52)) = w1 at *
  go_still_tail 10, (by kernel_rfl)
  change wpList _ _ _ _ _ w1.drew
  go_wp2_with (go_at_call 20; refine CT.out.mono ?_; rintro e w2 ⟨rfl, g2, f2⟩; have G2 := Lib.hid g2; have F2 := Lib.hid f2; clear g2 f2)
  go_end0
  exact ⟨rfl, G2.out, (HF.out.nil.trans (Fr.refl _ _).drew).trans F2.out⟩

set_option maxHeartbeats 1000000 in
theorem only_4 (K : Nat → Prop) (gb : Nat) (s : GS) (bx : Nat) (c i n : Int) (on : Bool) (w : World) (h : Gk K w gb s) (hx : K bx) (hb : w.cell? ⟨bx, 0, none⟩ = some (.pointer (some ⟨gb, 0, none⟩))) (m : Nat) (hm : m ≤ 1000) (hA : AtLe s m) :
    Calls Try.prog 29 #[.pointer (some ⟨bx, 0, none⟩), .agg #[.int .i64 4, .int .i64 c, .int .i64 i, .int .i64 n, .bool on]] w (OnlyTo K gb w (s.route i c)) := by
  have F := (Fr.refl Nil w).alloc (.cells #[.int .i64 4, .int .i64 c, .int .i64 i, .int .i64 n, .bool on] 52)
  have B := Blk.new w 52 #[.int .i64 4, .int .i64 c, .int .i64 i, .int .i64 n, .bool on]
  have q0 := B.cellv (i := 0) rfl
  have q1 := B.cellv (i := 1) rfl
  have q2 := B.cellv (i := 2) rfl
  have q3 := B.cellv (i := 3) rfl
  have q4 := B.cellv (i := 4) rfl
  have hb2 : (w.alloc (.cells #[.int .i64 4, .int .i64 c, .int .i64 i, .int .i64 n, .bool on] 52)).cell? ⟨bx, 0, none⟩ = some (.pointer (some ⟨gb, 0, none⟩)) := (F.cell (p := ⟨bx, 0, none⟩) (h.lt bx hx) id).trans hb
  have CT := Lib.hid (route_ok K gb s i c _ ((h.still F).still (Fr.refl Nil _).drew))
  have HF := Lib.hid F
  clear B h hx hb F hA
  go_enter Try.func29, Try.ntmps29
  go_upto_region 11 with fail
  generalize (w.alloc (.cells #[.int .i64 4, .int .i64 c, .int .i64 i, .int .i64 n, .bool on] 52)) = w1 at *
  go_still_tail 8, (by kernel_rfl)
  change wpList _ _ _ _ _ w1.drew
  go_wp2_with (go_at_call 45; refine CT.out.mono ?_; rintro e w2 ⟨rfl, g2, f2⟩; have G2 := Lib.hid g2; have F2 := Lib.hid f2; clear g2 f2)
  go_end0
  exact ⟨rfl, G2.out, (HF.out.nil.trans (Fr.refl _ _).drew).trans F2.out⟩

set_option maxHeartbeats 1000000 in
theorem only_5 (K : Nat → Prop) (gb : Nat) (s : GS) (bx : Nat) (c i n : Int) (on : Bool) (w : World) (h : Gk K w gb s) (hx : K bx) (hb : w.cell? ⟨bx, 0, none⟩ = some (.pointer (some ⟨gb, 0, none⟩))) (m : Nat) (hm : m ≤ 1000) (hA : AtLe s m) :
    Calls Try.prog 29 #[.pointer (some ⟨bx, 0, none⟩), .agg #[.int .i64 5, .int .i64 c, .int .i64 i, .int .i64 n, .bool on]] w (OnlyTo K gb w (s.mask c n)) := by
  have F := (Fr.refl Nil w).alloc (.cells #[.int .i64 5, .int .i64 c, .int .i64 i, .int .i64 n, .bool on] 52)
  have B := Blk.new w 52 #[.int .i64 5, .int .i64 c, .int .i64 i, .int .i64 n, .bool on]
  have q0 := B.cellv (i := 0) rfl
  have q1 := B.cellv (i := 1) rfl
  have q2 := B.cellv (i := 2) rfl
  have q3 := B.cellv (i := 3) rfl
  have q4 := B.cellv (i := 4) rfl
  have hb2 : (w.alloc (.cells #[.int .i64 5, .int .i64 c, .int .i64 i, .int .i64 n, .bool on] 52)).cell? ⟨bx, 0, none⟩ = some (.pointer (some ⟨gb, 0, none⟩)) := (F.cell (p := ⟨bx, 0, none⟩) (h.lt bx hx) id).trans hb
  have CT := Lib.hid (mask_ok K gb s c n _ ((h.still F).still (Fr.refl Nil _).drew))
  have HF := Lib.hid F
  clear B h hx hb F hA
  go_enter Try.func29, Try.ntmps29
  go_upto_region 13 with fail
  generalize (w.alloc (.cells #[.int .i64 5, .int .i64 c, .int .i64 i, .int .i64 n, .bool on] 52)) = w1 at *
  go_still_tail 8, (by kernel_rfl)
  change wpList _ _ _ _ _ w1.drew
  go_wp2_with (go_at_call 25; refine CT.out.mono ?_; rintro e w2 ⟨rfl, g2, f2⟩; have G2 := Lib.hid g2; have F2 := Lib.hid f2; clear g2 f2)
  go_end0
  exact ⟨rfl, G2.out, (HF.out.nil.trans (Fr.refl _ _).drew).trans F2.out⟩

set_option maxHeartbeats 1000000 in
theorem only_6 (K : Nat → Prop) (gb : Nat) (s : GS) (bx : Nat) (c i n : Int) (on : Bool) (w : World) (h : Gk K w gb s) (hx : K bx) (hb : w.cell? ⟨bx, 0, none⟩ = some (.pointer (some ⟨gb, 0, none⟩))) (m : Nat) (hm : m ≤ 1000) (hA : AtLe s m) :
    Calls Try.prog 29 #[.pointer (some ⟨bx, 0, none⟩), .agg #[.int .i64 6, .int .i64 c, .int .i64 i, .int .i64 n, .bool on]] w (OnlyTo K gb w (s.send n i)) := by
  have F := (Fr.refl Nil w).alloc (.cells #[.int .i64 6, .int .i64 c, .int .i64 i, .int .i64 n, .bool on] 52)
  have B := Blk.new w 52 #[.int .i64 6, .int .i64 c, .int .i64 i, .int .i64 n, .bool on]
  have q0 := B.cellv (i := 0) rfl
  have q1 := B.cellv (i := 1) rfl
  have q2 := B.cellv (i := 2) rfl
  have q3 := B.cellv (i := 3) rfl
  have q4 := B.cellv (i := 4) rfl
  have hb2 : (w.alloc (.cells #[.int .i64 6, .int .i64 c, .int .i64 i, .int .i64 n, .bool on] 52)).cell? ⟨bx, 0, none⟩ = some (.pointer (some ⟨gb, 0, none⟩)) := (F.cell (p := ⟨bx, 0, none⟩) (h.lt bx hx) id).trans hb
  have CT := Lib.hid (send_ok K gb s n i _ ((h.still F).still (Fr.refl Nil _).drew))
  have HF := Lib.hid F
  clear B h hx hb F hA
  go_enter Try.func29, Try.ntmps29
  go_upto_region 15 with fail
  generalize (w.alloc (.cells #[.int .i64 6, .int .i64 c, .int .i64 i, .int .i64 n, .bool on] 52)) = w1 at *
  go_still_tail 8, (by kernel_rfl)
  change wpList _ _ _ _ _ w1.drew
  go_wp2_with (go_at_call 27; refine CT.out.mono ?_; rintro e w2 ⟨rfl, g2, f2⟩; have G2 := Lib.hid g2; have F2 := Lib.hid f2; clear g2 f2)
  go_end0
  exact ⟨rfl, G2.out, (HF.out.nil.trans (Fr.refl _ _).drew).trans F2.out⟩

set_option maxHeartbeats 1000000 in
theorem only_7 (K : Nat → Prop) (gb : Nat) (s : GS) (bx : Nat) (c i n : Int) (on : Bool) (w : World) (h : Gk K w gb s) (hx : K bx) (hb : w.cell? ⟨bx, 0, none⟩ = some (.pointer (some ⟨gb, 0, none⟩))) (m : Nat) (hm : m ≤ 1000) (hA : AtLe s m) :
    Calls Try.prog 29 #[.pointer (some ⟨bx, 0, none⟩), .agg #[.int .i64 7, .int .i64 c, .int .i64 i, .int .i64 n, .bool on]] w (OnlyTo K gb w (s.ack c)) := by
  have F := (Fr.refl Nil w).alloc (.cells #[.int .i64 7, .int .i64 c, .int .i64 i, .int .i64 n, .bool on] 52)
  have B := Blk.new w 52 #[.int .i64 7, .int .i64 c, .int .i64 i, .int .i64 n, .bool on]
  have q0 := B.cellv (i := 0) rfl
  have q1 := B.cellv (i := 1) rfl
  have q2 := B.cellv (i := 2) rfl
  have q3 := B.cellv (i := 3) rfl
  have q4 := B.cellv (i := 4) rfl
  have hb2 : (w.alloc (.cells #[.int .i64 7, .int .i64 c, .int .i64 i, .int .i64 n, .bool on] 52)).cell? ⟨bx, 0, none⟩ = some (.pointer (some ⟨gb, 0, none⟩)) := (F.cell (p := ⟨bx, 0, none⟩) (h.lt bx hx) id).trans hb
  have CT := Lib.hid (ack_ok K gb s c _ ((h.still F).still (Fr.refl Nil _).drew) m hm hA)
  have HF := Lib.hid F
  clear B h hx hb F hA
  go_enter Try.func29, Try.ntmps29
  go_upto_region 17 with fail
  generalize (w.alloc (.cells #[.int .i64 7, .int .i64 c, .int .i64 i, .int .i64 n, .bool on] 52)) = w1 at *
  go_still_tail 6, (by kernel_rfl)
  change wpList _ _ _ _ _ w1.drew
  go_wp2_with (go_at_call 16; refine CT.out.mono ?_; rintro e w2 ⟨rfl, g2, f2⟩; have G2 := Lib.hid g2; have F2 := Lib.hid f2; clear g2 f2)
  go_end0
  exact ⟨rfl, G2.out, (HF.out.nil.trans (Fr.refl _ _).drew).trans F2.out⟩

set_option maxHeartbeats 1000000 in
theorem only_8 (K : Nat → Prop) (gb : Nat) (s : GS) (bx : Nat) (c i n : Int) (on : Bool) (w : World) (h : Gk K w gb s) (hx : K bx) (hb : w.cell? ⟨bx, 0, none⟩ = some (.pointer (some ⟨gb, 0, none⟩))) (m : Nat) (hm : m ≤ 1000) (hA : AtLe s m) :
    Calls Try.prog 29 #[.pointer (some ⟨bx, 0, none⟩), .agg #[.int .i64 8, .int .i64 c, .int .i64 i, .int .i64 n, .bool on]] w (OnlyTo K gb w (s.eoi c i)) := by
  have F := (Fr.refl Nil w).alloc (.cells #[.int .i64 8, .int .i64 c, .int .i64 i, .int .i64 n, .bool on] 52)
  have B := Blk.new w 52 #[.int .i64 8, .int .i64 c, .int .i64 i, .int .i64 n, .bool on]
  have q0 := B.cellv (i := 0) rfl
  have q1 := B.cellv (i := 1) rfl
  have q2 := B.cellv (i := 2) rfl
  have q3 := B.cellv (i := 3) rfl
  have q4 := B.cellv (i := 4) rfl
  have hb2 : (w.alloc (.cells #[.int .i64 8, .int .i64 c, .int .i64 i, .int .i64 n, .bool on] 52)).cell? ⟨bx, 0, none⟩ = some (.pointer (some ⟨gb, 0, none⟩)) := (F.cell (p := ⟨bx, 0, none⟩) (h.lt bx hx) id).trans hb
  have CT := Lib.hid (eoi_ok K gb s c i _ ((h.still F).still (Fr.refl Nil _).drew) m hm hA)
  have HF := Lib.hid F
  clear B h hx hb F hA
  go_enter Try.func29, Try.ntmps29
  go_upto_region 19 with fail
  generalize (w.alloc (.cells #[.int .i64 8, .int .i64 c, .int .i64 i, .int .i64 n, .bool on] 52)) = w1 at *
  go_still_tail 8, (by kernel_rfl)
  change wpList _ _ _ _ _ w1.drew
  go_wp2_with (go_at_call 17; refine CT.out.mono ?_; rintro e w2 ⟨rfl, g2, f2⟩; have G2 := Lib.hid g2; have F2 := Lib.hid f2; clear g2 f2)
  go_end0
  exact ⟨rfl, G2.out, (HF.out.nil.trans (Fr.refl _ _).drew).trans F2.out⟩

theorem only_no (K : Nat → Prop) (gb : Nat) (s : GS) (bx : Nat) (k c i n : Int) (on : Bool) (w : World) (h : Gk K w gb s) (h0 : (k == 0) = false) (h1 : (k == 1) = false) (h2 : (k == 2) = false) (h3 : (k == 3) = false) (h4 : (k == 4) = false) (h5 : (k == 5) = false) (h6 : (k == 6) = false) (h7 : (k == 7) = false) (h8 : (k == 8) = false) :
    Calls Try.prog 29 #[.pointer (some ⟨bx, 0, none⟩), .agg #[.int .i64 k, .int .i64 c, .int .i64 i, .int .i64 n, .bool on]] w (OnlyTo K gb w s) := by
  have F := (Fr.refl Nil w).alloc (.cells #[.int .i64 k, .int .i64 c, .int .i64 i, .int .i64 n, .bool on] 52)
  have B := Blk.new w 52 #[.int .i64 k, .int .i64 c, .int .i64 i, .int .i64 n, .bool on]
  have q0 := B.cellv (i := 0) rfl
  have HG := Lib.hid (h.still F)
  have HF := Lib.hid F
  clear B h F
  go_enter Try.func29, Try.ntmps29
  go_wp2
  go_end0
  exact ⟨rfl, HG.out, HF.out.nil⟩

theorem only_ok (K : Nat → Prop) (gb : Nat) (s : GS) (bx : Nat) (o : Stp) (w : World) (h : Gk K w gb s) (hx : K bx) (hb : w.cell? ⟨bx, 0, none⟩ = some (.pointer (some ⟨gb, 0, none⟩))) (m : Nat) (hm : m ≤ 1000) (hA : AtLe s m) :
    Calls Try.prog 29 #[.pointer (some ⟨bx, 0, none⟩), stv o] w (OnlyTo K gb w (s.only o)) := by
  obtain ⟨k, c, i, n, on⟩ := o
  unfold stv GS.only
  dsimp only
  by_cases h0 : k = 0
  · subst h0
    exact only_0 K gb s bx c i n on w h hx hb m hm hA
  rw [if_neg h0]
  by_cases h1 : k = 1
  · subst h1
    exact only_1 K gb s bx c i n on w h hx hb m hm hA
  rw [if_neg h1]
  by_cases h2 : k = 2
  · subst h2
    exact only_2 K gb s bx c i n on w h hx hb m hm hA
  rw [if_neg h2]
  by_cases h3 : k = 3
  · subst h3
    exact only_3 K gb s bx c i n on w h hx hb m hm hA
  rw [if_neg h3]
  by_cases h4 : k = 4
  · subst h4
    exact only_4 K gb s bx c i n on w h hx hb m hm hA
  rw [if_neg h4]
  by_cases h5 : k = 5
  · subst h5
    exact only_5 K gb s bx c i n on w h hx hb m hm hA
  rw [if_neg h5]
  by_cases h6 : k = 6
  · subst h6
    exact only_6 K gb s bx c i n on w h hx hb m hm hA
  rw [if_neg h6]
  by_cases h7 : k = 7
  · subst h7
    exact only_7 K gb s bx c i n on w h hx hb m hm hA
  rw [if_neg h7]
  by_cases h8 : k = 8
  · subst h8
    exact only_8 K gb s bx c i n on w h hx hb m hm hA
  rw [if_neg h8]
  exact only_no K gb s bx k c i n on w h (by simpa using h0) (by simpa using h1) (by simpa using h2) (by simpa using h3) (by simpa using h4) (by simpa using h5) (by simpa using h6) (by simpa using h7) (by simpa using h8)

end Go.Proofs.Ytpgelocofoidnaa
