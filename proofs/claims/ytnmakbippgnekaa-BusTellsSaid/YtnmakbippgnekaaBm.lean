/- The bus in memory: the controller, the timer, what the console was told. -/
import Derived.Test.YtnmakbippgnekaaGall
import Derived.Test.YtnmakbippgnekaaTKnow
import Derived.Test.YtnmakbippgnekaaBf
set_option linter.unusedSimpArgs false
set_option linter.unusedVariables false
set_option linter.unusedSectionVars false
namespace Go.Proofs.Ytnmakbippgnekaa
open Go.RowKit
set_option maxRecDepth 100000

structure BS where
  g : GS
  t : Tim.Ts
  o : List UInt8
def bys (l : List UInt8) : List Value := l.map fun x => .int .u8 (x.toNat : Int)
structure BAt (w : World) (bb gb tb tr : Nat) (ov : Value) (B : BS) : Prop where
  top : Blk w bb 60 #[.int .i64 (B.t.n : Int), .pointer (some ⟨gb, 0, none⟩), .pointer (some ⟨tb, 0, none⟩), ov]
  tim : Tim.TmAt w tb tr B.t
  right : Tim.Right B.t
  out : Win w 5 1 ov B.o.length (bys B.o)
  nc : B.g.c = B.t.n
  len : B.o.length ≤ 10000
def BK (K : Nat → Prop) (bb tb tr : Nat) (ov : Value) : Nat → Prop := fun k => K k ∨ k = bb ∨ k = tb ∨ k = tr ∨ ov.ownBlock = some k
structure Bk (K : Nat → Prop) (w : World) (bb gb tb : Nat) (B : BS) : Prop where
  mem : ∃ tr ov, BAt w bb gb tb tr ov B ∧ Gk (BK K bb tb tr ov) w gb B.g ∧ ∀ k, K k → k ≠ bb ∧ k ≠ tb ∧ k ≠ tr ∧ ov.ownBlock ≠ some k
/-- What a call leaves. -/
def Bn (K : Nat → Prop) (bb gb tb : Nat) (w : World) (B' : BS) (v : Value) (e : Ending) (w' : World) : Prop := e = .returned v ∧ Bk K w' bb gb tb B' ∧ Fr (Not K) w w'
section
variable {K : Nat → Prop} {w w' : World} {bb gb tb tr : Nat} {ov : Value} {B : BS}
theorem BAt.fr {S : Nat → Prop} (h : BAt w bb gb tb tr ov B) (f : Fr S w w') (h1 : ¬ S bb) (h2 : ¬ S tb) (h3 : ¬ S tr) (h4 : ∀ k, ov.ownBlock = some k → ¬ S k) : BAt w' bb gb tb tr ov B :=
  ⟨h.top.fr f h1, h.tim.fr f h2 h3, h.right, h.out.fr f h4, h.nc, h.len⟩
theorem Gk.fr {K' : Nat → Prop} {S : Nat → Prop} {s : GS} (h : Gk K w gb s) (f : Fr S w w') (hs : ∀ k, S k → K k) : Gk K w' gb s := by
  obtain ⟨cb, av, h1, h2⟩ := h.mem
  exact ⟨⟨cb, av, h1.fr f fun k hk hS => h2 k hk (hs k hS), h2⟩, fun k hk => Nat.lt_of_lt_of_le (h.lt k hk) f.size, h.c8, h.c1⟩
theorem Bk.still (h : Bk K w bb gb tb B) (f : Fr Nil w w') : Bk K w' bb gb tb B := by
  obtain ⟨tr, ov, h1, h2, h3⟩ := h.mem
  exact ⟨tr, ov, h1.fr f id id id fun _ _ => id, h2.still f, h3⟩
theorem Bn.refl (h : Bk K w bb gb tb B) (f : Fr Nil w w') (v : Value) : Bn K bb gb tb w B v (.returned v) w' := ⟨rfl, h.still f, f.nil⟩
theorem Bk.lt (h : Bk K w bb gb tb B) (k : Nat) (hk : K k) : k < w.heap.size := by
  obtain ⟨tr, ov, h1, h2, h3⟩ := h.mem
  exact h2.lt k (.inl hk)
theorem Bk.n8 (h : Bk K w bb gb tb B) : 1 ≤ B.t.n ∧ B.t.n ≤ 8 := by
  obtain ⟨tr, ov, h1, h2, h3⟩ := h.mem
  rw [← h1.nc]
  exact ⟨h2.c1, h2.c8⟩
theorem Bk.nc (h : Bk K w bb gb tb B) : B.g.c = B.t.n := by
  obtain ⟨tr, ov, h1, h2, h3⟩ := h.mem
  exact h1.nc
theorem Bk.right (h : Bk K w bb gb tb B) : Tim.Right B.t := by
  obtain ⟨tr, ov, h1, h2, h3⟩ := h.mem
  exact h1.right
/-- The cells of the bus itself. -/
theorem Bk.cells (h : Bk K w bb gb tb B) : w.cell? ⟨bb, 0, none⟩ = some (.int .i64 (B.t.n : Int)) ∧ w.cell? ⟨bb, 1, none⟩ = some (.pointer (some ⟨gb, 0, none⟩)) ∧ w.cell? ⟨bb, 2, none⟩ = some (.pointer (some ⟨tb, 0, none⟩)) := by
  obtain ⟨tr, ov, h1, h2, h3⟩ := h.mem
  exact ⟨h1.top.cellv rfl, h1.top.cellv rfl, h1.top.cellv rfl⟩
/-- A call of the controller. -/
theorem Bk.gic (h : Bk K w bb gb tb B) {f : FuncId} {args : Array Value} {s' : GS} {v : Value} (hc : ∀ K', Gk K' w gb B.g → Calls Try.prog f args w (Tn K' gb w s' v)) (he : s'.c = B.g.c) :
    Calls Try.prog f args w (Bn K bb gb tb w { B with g := s' } v) := by
  obtain ⟨tr, ov, h1, h2, h3⟩ := h.mem
  refine (hc _ h2).mono ?_
  rintro e w' ⟨rfl, g', f'⟩
  refine ⟨rfl, ⟨tr, ov, ?_, g', h3⟩, f'.mono fun k _ hk hK => hk (.inl hK)⟩
  have h1' := h1.fr f' (fun hn => hn (.inr (.inl rfl))) (fun hn => hn (.inr (.inr (.inl rfl)))) (fun hn => hn (.inr (.inr (.inr (.inl rfl))))) (fun k hk hn => hn (.inr (.inr (.inr (.inr hk)))))
  exact ⟨h1'.top, h1'.tim, h1'.right, h1'.out, he.trans h1.nc, h1'.len⟩
theorem Bk.gicR (h : Bk K w bb gb tb B) {f : FuncId} {args : Array Value} {v : Value} (hc : ∀ K', Gk K' w gb B.g → Calls Try.prog f args w fun e w' => e = .returned v ∧ w = w') :
    Calls Try.prog f args w fun e w' => e = .returned v ∧ w = w' := by
  obtain ⟨tr, ov, h1, h2, h3⟩ := h.mem
  exact hc _ h2
/-- A call of the timer. -/
theorem Bk.tim (h : Bk K w bb gb tb B) {f : FuncId} {args : Array Value} {s' : Tim.Ts} {v : Value} (hc : ∀ tr, Tim.TmAt w tb tr B.t → Calls Try.prog f args w (Tim.TmTo w tb tr s' v)) (he : s'.n = B.t.n) (hr : Tim.Right s') :
    Calls Try.prog f args w (Bn K bb gb tb w { B with t := s' } v) := by
  obtain ⟨tr, ov, h1, h2, h3⟩ := h.mem
  refine (hc _ h1.tim).mono ?_
  rintro e w' ⟨rfl, t', f'⟩
  have hb : ¬ Two tb tr bb := fun hk => by
    rcases hk with e | e
    · exact h1.top.ne_ h1.tim.top (by decide) e
    · exact h1.top.ne_ h1.tim.regs (by decide) e
  have ho : ∀ k, ov.ownBlock = some k → ¬ Two tb tr k := fun k hk h2 => by
    rcases h2 with e | e
    · exact h1.out.ne h1.tim.top (by decide) (by rw [← e]; exact hk)
    · exact h1.out.ne h1.tim.regs (by decide) (by rw [← e]; exact hk)
  refine ⟨rfl, ⟨tr, ov, ⟨?_, t', hr, h1.out.fr f' ho, h1.nc.trans he.symm, h1.len⟩, h2.fr (K' := K) f' fun k hk => ?_, h3⟩, f'.mono fun k _ hk hK => ?_⟩
  · have := h1.top.fr f' hb
    rw [← he] at this
    exact this
  · rcases hk with e | e
    · exact .inr (.inr (.inl e))
    · exact .inr (.inr (.inr (.inl e)))
  · rcases hk with e | e
    · exact (h3 k hK).2.1 e
    · exact (h3 k hK).2.2.1 e
theorem Bk.timR (h : Bk K w bb gb tb B) {f : FuncId} {args : Array Value} {v : Value} (hc : ∀ tr, Tim.TmAt w tb tr B.t → Calls Try.prog f args w fun e w' => e = .returned v ∧ Fr Nil w w') :
    Calls Try.prog f args w fun e w' => e = .returned v ∧ Fr Nil w w' := by
  obtain ⟨tr, ov, h1, h2, h3⟩ := h.mem
  exact hc _ h1.tim
end
end Go.Proofs.Ytnmakbippgnekaa
