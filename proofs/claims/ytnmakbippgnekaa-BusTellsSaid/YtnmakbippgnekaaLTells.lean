/- BusTells: the walk. -/
import Derived.Test.YtnmakbippgnekaaSa
import Derived.Test.YtnmakbippgnekaaPk
set_option linter.unusedSimpArgs false
set_option linter.unusedVariables false
set_option linter.unusedSectionVars false
namespace Go.Proofs.Ytnmakbippgnekaa
open Go.RowKit
set_option maxRecDepth 100000

/-- The bus beside the step's copy. -/
def Kx (K : Nat → Prop) (x : Nat) : Nat → Prop := fun k => K k ∨ k = x
theorem Bk.less {K K' : Nat → Prop} {w : World} {bb gb tb : Nat} {B : BS} (h : Bk K w bb gb tb B) (hs : ∀ k, K' k → K k) : Bk K' w bb gb tb B := by
  obtain ⟨tr, ov, h1, h2, h3⟩ := h.mem
  exact ⟨tr, ov, h1, h2.sub fun k hk => by
    rcases hk with e | e
    · exact .inl (hs k e)
    · exact .inr e, fun k hk => h3 k (hs k hk)⟩
structure Sx (w : World) (xb : Nat) (a0 a1 a2 a3 a4 : Int) : Prop where
  b : Blk w xb 30 #[.int .i64 a0, .int .i64 a1, .int .i64 a2, .int .i64 a3, .int .u64 a4]
def SxC (w : World) (xb : Nat) (a0 a1 a2 a3 a4 : Int) : Prop := w.cell? ⟨xb, 0, none⟩ = some (.int .i64 a0) ∧ w.cell? ⟨xb, 1, none⟩ = some (.int .i64 a1) ∧ w.cell? ⟨xb, 2, none⟩ = some (.int .i64 a2) ∧ w.cell? ⟨xb, 3, none⟩ = some (.int .i64 a3) ∧ w.cell? ⟨xb, 4, none⟩ = some (.int .u64 a4)
theorem Sx.cells {w : World} {xb : Nat} {a0 a1 a2 a3 a4 : Int} (h : Sx w xb a0 a1 a2 a3 a4) : SxC w xb a0 a1 a2 a3 a4 := ⟨h.b.cellv rfl, h.b.cellv rfl, h.b.cellv rfl, h.b.cellv rfl, h.b.cellv rfl⟩
theorem Sx.on {w w' : World} {K : Nat → Prop} {xb : Nat} {a0 a1 a2 a3 a4 : Int} (h : Sx w xb a0 a1 a2 a3 a4) (f : Fr (Not (Kx K xb)) w w') : Sx w' xb a0 a1 a2 a3 a4 := ⟨h.b.fr f fun hn => hn (.inr rfl)⟩
theorem Sx.fr0 {w w' : World} {xb : Nat} {a0 a1 a2 a3 a4 : Int} (h : Sx w xb a0 a1 a2 a3 a4) (f : Fr Nil w w') : Sx w' xb a0 a1 a2 a3 a4 := ⟨h.b.fr0 f⟩
theorem str_app (l : List UInt8) (b : UInt8) : (⟨l.toArray⟩ : ByteArray) ++ ⟨#[b]⟩ = ⟨(l ++ [b]).toArray⟩ := by
  apply ByteArray.ext
  rw [ByteArray.data_append]
  simp
theorem tell_in (B : BS) (c : Nat) (v : Int) (hc : c < B.t.n) : wrB B (c : Int) 150994944 v = { B with o := tellO B.o v } ∧ wrF B (c : Int) 150994944 = 0 := by
  obtain ⟨h1, h2⟩ := wrB_reg B (c : Int) 150994944 v 5 (okA_nat hc rfl) (by kernel_rfl)
  exact ⟨h1, h2⟩
theorem told_in (B : BS) (c : Nat) (hc : c < B.t.n) : rdB B (c : Int) 150994944 = ((B.o.length : Int), 0) := rdB_reg B (c : Int) 150994944 5 (okA_nat hc rfl) (by kernel_rfl)
set_option maxHeartbeats 4000000 in
theorem busTells_walk (a0 : Option Addr) (len cap : Nat) (V : Nat → Nat → Int) (w : World) (hl : len ≤ cap) (hcap : cap ≤ maxLen) (hs : SlRows [.i64, .i64, .i64, .i64, .u64] w a0 len V) :
    Calls Try.prog 3 #[.slice a0 len cap] w fun e w' => e = .returned (.bool true) ∧ Below w.heap.size w w' := by
  have KN := Lib.hid (known_ok w)
  have HS := Lib.hid hs
  have hlen : (len : Int) ≤ 9223372036854775807 := by simp only [maxLen] at hcap; omega
  clear hl hcap hs
  go_enter Try.func3, Try.ntmps3
  go_wp2_with fail
  refine KN.out.mono ?_
  rintro e wa ⟨rfl, f1⟩
  have F1 := Lib.hid f1
  clear f1 KN
  go_wp2_with fail
  refine (bw_new (w0 := w) F1.out.nil 2 rfl (by decide) (by decide)).mono ?_
  rintro e w1 ⟨bb, gb, tb, rfl, h1⟩
  have H1 := Lib.hid h1
  clear h1 F1
  go_wp2_with fail
  go_loopw [6, 7, 8] (fun s i _ wr => ∃ (k : Nat) (B : BS), k ≤ len ∧ k ≤ 200 ∧ s = .string ⟨B.o.toArray⟩ ∧ i = .int .i64 (k : Int) ∧ Bw w wr bb gb tb B ∧ B.t.n = 2 ∧ B.o.length ≤ k ∧ AtLe B.g 0) (fun _ i _ _ => 200 - (intOf i).toNat)
  case atStart => exact ⟨0, B0 2, Nat.zero_le _, by omega, rfl, rfl, H1.out, rfl, Nat.le_refl _, AtLe.b0 2⟩
  case round =>
    clear H1
    obtain ⟨k, B, hk, hk2, rfl, rfl, hW, hn, ho, ha⟩ := hrel
    have HW := Lib.hid hW
    have HB := Lib.hid (And.intro hn (And.intro ho ha))
    clear hW hn ho ha
    by_cases hlt : k < len ∧ k < 200
    · have HK := Lib.hid hlt
      have kn : (k : Int) < (len : Int) := by omega
      have k200 : (k : Int) < 200 := by omega
      obtain ⟨b, off, hab, hb, hcell⟩ := HS.out k hlt.1
      subst hab
      have hfc : ∀ i, wr.cell? ⟨b, off + k * 5 + i, none⟩ = w.cell? ⟨b, off + k * 5 + i, none⟩ := fun i => HW.out.fr.cell (p := ⟨b, off + k * 5 + i, none⟩) hb fun hn => hn hb
      have c0 := (hfc 0).trans (hcell 0 .i64 rfl).1
      have c1 := (hfc 1).trans (hcell 1 .i64 rfl).1
      have c2 := (hfc 2).trans (hcell 2 .i64 rfl).1
      have c3 := (hfc 3).trans (hcell 3 .i64 rfl).1
      have c4 := (hfc 4).trans (hcell 4 .u64 rfl).1
      rw [Nat.add_zero] at c0
      obtain ⟨p1, p2⟩ := i64_rng (hcell 1 .i64 rfl).2
      obtain ⟨p3, p4⟩ := i64_rng (hcell 3 .i64 rfl).2
      obtain ⟨v0, v1⟩ := u64_rng (hcell 4 .u64 rfl).2
      generalize V k 0 = x0 at *
      generalize V k 1 = x1 at *
      generalize V k 2 = x2 at *
      generalize V k 3 = x3 at *
      generalize V k 4 = x4 at *
      have XR := Lib.hid (And.intro (And.intro p1 p2) (And.intro (And.intro p3 p4) (And.intro v0 v1)))
      have M3 := Lib.hid (HW.out.mem.more (.cells #[.int .i64 x0, .int .i64 x1, .int .i64 x2, .int .i64 x3, .int .u64 x4] 30))
      have BX := Lib.hid (show Sx _ _ _ _ _ _ _ from ⟨Blk.new wr 30 #[.int .i64 x0, .int .i64 x1, .int .i64 x2, .int .i64 x3, .int .u64 x4]⟩)
      have F3 := Lib.hid (HW.out.fr.alloc (.cells #[.int .i64 x0, .int .i64 x1, .int .i64 x2, .int .i64 x3, .int .u64 x4] 30))
      clear hk hk2 hlt hcell hb hfc p1 p2 p3 p4 v0 v1
      go_upto_region 10 with fail
      generalize wr.alloc (.cells #[.int .i64 x0, .int .i64 x1, .int .i64 x2, .int .i64 x3, .int .u64 x4] 30) = w3 at *
      generalize wr.heap.size = xb at *
      clear c0 c1 c2 c3 c4 HW
      obtain ⟨q0, q1, q2, q3, q4⟩ := BX.out.cells
      have M3 := Lib.hid (show Bk (Kx (fun k => k < w.heap.size) xb) w3 bb gb tb B from M3.out)
      have F0 : Fr Nil w3 w3.drew := (Fr.refl Nil w3).drew
      cases hd : (x0 == 2)
      · have SN := Lib.hid (fun W => sysno_ok x3 W XR.out.2.1.1 XR.out.2.1.2)
        have SS := Lib.hid (fun sy W (f : Fr Nil w3 W) => setsys_ok x1 x2 sy x4 W (M3.out.still f) XR.out.2.2.1 XR.out.2.2.2 0 (by decide) HB.out.2.2)
        go_upto_region 14 with fail
        go_region_held3 (fun w' => w'.cell? ⟨xb, 0, none⟩ = some (.int .i64 x0) ∧ w'.cell? ⟨xb, 1, none⟩ = some (.int .i64 x1) ∧ w'.cell? ⟨xb, 2, none⟩ = some (.int .i64 x2) ∧ w'.cell? ⟨xb, 3, none⟩ = some (.int .i64 x3) ∧ w'.cell? ⟨xb, 4, none⟩ = some (.int .u64 x4)) (first | exact (BX.out.fr0 F0).cells | exact (BX.out.fr0 G4).cells | exact (BX.out.on G5).cells) (first | (go_at_call 12; refine (SN.out _).mono ?_; rintro e w4 ⟨sy, rfl, f4⟩; have G4 := F0.trans f4) | (go_at_call 11; refine (SS.out _ _ G4).mono ?_; rintro e w5 ⟨rfl, h5, f5⟩; have G5 : Fr (Not (Kx (fun k => k < w.heap.size) xb)) w3 w5 := G4.nil.trans f5) | fail)
        have H5 := Lib.hid h5
        have EO := Lib.hid (setS_o B x1 x2 sy x4)
        have EA := Lib.hid (HB.out.2.2.set_ x1 x2 sy x4)
        have BX5 := Lib.hid (BX.out.on G5)
        have F5 := Lib.hid (F3.out.trans (G5.mono fun k _ hn hk => hn (.inl hk)))
        clear SN SS q0 q1 q2 q3 q4 F0 f4 G4 h5 f5 G5 BX M3
        generalize setS B x1 x2 sy x4 = B5 at *
        obtain ⟨q0, q1, q2, q3, q4⟩ := BX5.out.cells
        have F0 : Fr Nil w5 w5.drew := (Fr.refl Nil w5).drew
        have AN := Lib.hid (fun W => addr_ok x3 W XR.out.2.1.1 XR.out.2.1.2)
        have RD := Lib.hid (fun a W (h0 : 0 ≤ a) (h1 : a ≤ 18446744073709551615) (f : Fr Nil w5 W) => read_ok x1 a W (H5.out.still f) h0 h1)
        go_upto_region 15 with fail
        go_region_held3 (fun w' => w'.cell? ⟨xb, 0, none⟩ = some (.int .i64 x0) ∧ w'.cell? ⟨xb, 1, none⟩ = some (.int .i64 x1) ∧ w'.cell? ⟨xb, 2, none⟩ = some (.int .i64 x2) ∧ w'.cell? ⟨xb, 3, none⟩ = some (.int .i64 x3) ∧ w'.cell? ⟨xb, 4, none⟩ = some (.int .u64 x4)) (first | exact (BX5.out.fr0 F0).cells | exact (BX5.out.fr0 G4).cells) (first | (go_at_call 14; refine (AN.out _).mono ?_; rintro e w6 ⟨ad, rfl, had, rfl⟩) | (go_at_call 13; refine (RD.out _ _ had.1 had.2 F0).mono ?_; rintro e w7 ⟨rfl, f7⟩; have G4 := F0.trans f7) | fail)
        have H7 := Lib.hid (show Bw w w7 bb gb tb B5 from ⟨(H5.out.still G4).less fun k hk => .inl hk, F5.out.trans G4.nil⟩)
        clear q0 q1 q2 q3 q4 F0 AN RD had G4 f7
        go_wp2_with fail
        go_roundw
        case rel => first | exact ⟨k + 1, B5, HK.out.1, HK.out.2, by rw [EO.out.1], by go_num, H7.out, EO.out.2.trans HB.out.1, by rw [EO.out.1]; have := HB.out.2.1; omega, EA.out⟩ | ((repeat apply Exists.intro); exact ⟨⟨k + 1, B5, HK.out.1, HK.out.2, by rw [EO.out.1], (show Value.int .i64 ((k : Int) + 1) = .int .i64 ((k + 1 : Nat) : Int) by simp), H7.out, EO.out.2.trans HB.out.1, by rw [EO.out.1]; have := HB.out.2.1; omega, EA.out⟩, rfl⟩)
        case measure => have := HK.out; simp [intOf]; omega
      · obtain ⟨c, hcp, hc⟩ := pk3 (x := x1) (n := 2) (by omega)
        have PI := fun W => pick_ok x1 2 W XR.out.1.1 XR.out.1.2 (by omega) (by omega)
        rw [show pk x1 2 = (c : Int) from hcp] at PI
        have PI := Lib.hid PI
        obtain ⟨T1, T2⟩ := tell_in B c x4 (by rw [HB.out.1]; exact hc)
        have WR := fun W (f : Fr Nil w3 W) => write_ok (c : Int) 150994944 x4 W (M3.out.still f) (by decide) (by decide) XR.out.2.2.1 XR.out.2.2.2
        rw [T1, T2] at WR
        have WR := Lib.hid WR
        have TO := Lib.hid (show tellO B.o x4 = B.o ++ [by8 x4] from by unfold tellO; rw [if_pos (by have := HB.out.2.1; have := HK.out; omega)])
        have TA := Lib.hid (T1 ▸ HB.out.2.2.wr (c : Int) 150994944 x4 : AtLe { B with o := tellO B.o x4 }.g 0)
        clear hcp hc T1 T2
        go_upto_region 11 with fail
        go_region_held3 (fun w' => w'.cell? ⟨xb, 0, none⟩ = some (.int .i64 x0) ∧ w'.cell? ⟨xb, 1, none⟩ = some (.int .i64 x1) ∧ w'.cell? ⟨xb, 2, none⟩ = some (.int .i64 x2) ∧ w'.cell? ⟨xb, 3, none⟩ = some (.int .i64 x3) ∧ w'.cell? ⟨xb, 4, none⟩ = some (.int .u64 x4)) (first | exact (BX.out.fr0 F0).cells | exact (BX.out.on G5).cells) (first | (go_at_call 10; refine (PI.out _).mono ?_; rintro e w4 ⟨rfl, rfl⟩) | (go_at_call 9; refine (WR.out _ F0).mono ?_; rintro e w5 ⟨rfl, h5, f5⟩; have G5 : Fr (Not (Kx (fun k => k < w.heap.size) xb)) w3 w5 := F0.nil.trans f5) | fail)
        have H5 := Lib.hid h5
        have BX5 := Lib.hid (BX.out.on G5)
        have F5 := Lib.hid (F3.out.trans (G5.mono fun k _ hn hk => hn (.inl hk)))
        clear PI WR q0 q1 q2 q3 q4 F0 h5 f5 G5 BX M3
        obtain ⟨q0, q1, q2, q3, q4⟩ := BX5.out.cells
        have NB := Blk.new w5 5 #[.int .u8 (x4 % 256)]
        have E := str_ok (w := w5.alloc (.cells #[.int .u8 (x4 % 256)] 5)) (ov := .slice (some ⟨w5.heap.size, 0, none⟩) 1 1) (l := [by8 x4]) (by
          have hw := Win.full (n := 1) (size := 1) NB rfl (by decide)
          show Win _ 5 1 _ 1 (bys [by8 x4])
          unfold bys
          rw [List.map_cons, List.map_nil, show ((by8 x4).toNat : Int) = x4 % 256 from by8_wrap x4]
          exact hw)
        clear NB
        have on : (9223372036854775807 < B.o.length + 1) = False := by have := HB.out.2.1; have := HK.out; simp; omega
        have H7 := Lib.hid (show Bw w (w5.alloc (.cells #[.int .u8 (x4 % 256)] 5)) bb gb tb { B with o := B.o ++ [by8 x4] } from ⟨(TO.out ▸ (H5.out.less fun k hk => .inl hk : Bk (fun k => k < w.heap.size) w5 bb gb tb { B with o := tellO B.o x4 }) : Bk _ _ _ _ _ { B with o := B.o ++ [by8 x4] }).still ((Fr.refl Nil w5).alloc _), F5.out.alloc _⟩)
        go_upto_region 8 with fail
        generalize w5.alloc (.cells #[.int .u8 (x4 % 256)] 5) = w7 at *
        clear E on q0 q1 q2 q3 q4
        go_wp2_with fail
        go_roundw
        case rel => first | exact ⟨k + 1, { B with o := B.o ++ [by8 x4] }, HK.out.1, HK.out.2, by rw [← str_app], by go_num, H7.out, HB.out.1, by simp; exact HB.out.2.1, TA.out⟩ | ((repeat apply Exists.intro); exact ⟨⟨k + 1, { B with o := B.o ++ [by8 x4] }, HK.out.1, HK.out.2, by rw [← str_app], (show Value.int .i64 ((k : Int) + 1) = .int .i64 ((k + 1 : Nat) : Int) by simp), H7.out, HB.out.1, by simp; exact HB.out.2.1, TA.out⟩, rfl⟩)
        case measure => have := HK.out; simp [intOf]; omega
    · have hx : decide (k < len) = false ∨ ((k : Int) < (len : Int) ∧ k = 200) := by
        by_cases h : k < len
        · exact .inr ⟨by omega, by omega⟩
        · exact .inl (by simpa using h)
      have RX := Lib.hid (told_in B 0 (by rw [HB.out.1]; decide))
      have ol : (B.o.length : Int) ≤ 200 := by have := HB.out.2.1; omega
      clear hk hk2 hlt
      rcases hx with x1 | ⟨x1, rfl⟩
      all_goals
        go_wp2_with fail
        refine (HW.out.read 0 150994944 (by decide) (by decide) RX.out).mono ?_
        rintro e w5 ⟨rfl, h5⟩
        have H5 := Lib.hid h5
        clear h5 HW
        go_wp2_with fail
        refine (H5.out.out rfl).mono ?_
        rintro e w6 ⟨rfl, h6⟩
        have H6 := Lib.hid h6
        clear h6 H5
        go_wp2_with fail
        go_ret
        exact ⟨rfl, H6.out.below⟩
end Go.Proofs.Ytnmakbippgnekaa
