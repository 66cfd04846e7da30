/- BusRanks: the walk. -/
import Derived.Test.YtnmakbippgnekaaPt
import Derived.Test.YtnmakbippgnekaaLBits
import Derived.Test.YtnmakbippgnekaaLaw
set_option linter.unusedSimpArgs false
set_option linter.unusedVariables false
set_option linter.unusedSectionVars false
namespace Go.Proofs.Ytnmakbippgnekaa
open Go.RowKit
set_option maxRecDepth 100000

/-! ### Arrays of words -/
def uarr (f : Nat → Int) : Array Value := ((List.range 64).map fun i => Value.int .u64 (f i)).toArray
theorem uarr_get {f : Nat → Int} {k : Nat} (h : k < 64) : (uarr f)[k]? = some (.int .u64 (f k)) := by
  simp [uarr, List.getElem?_map, List.getElem?_range h]
theorem uarr_set (f : Nat → Int) (k : Nat) (x : Int) : (uarr f).setIfInBounds k (.int .u64 x) = uarr (upd f k x) := by
  have h := map_range_set (fun i => Value.int .u64 (f i)) 64 k (.int .u64 x)
  unfold uarr
  rw [h]
  congr 2
  funext i
  by_cases hi : i = k
  · subst hi; simp [upd]
  · simp [upd, hi]
theorem uarr_congr {f g : Nat → Int} (h : ∀ k, k < 64 → f k = g k) : uarr f = uarr g := by
  unfold uarr
  congr 1
  exact List.map_congr_left fun k hk => by rw [h k (by simpa using hk)]
/-! ### A bus beside two arrays of the law's own -/
theorem Bk.more {K : Nat → Prop} {w : World} {bb gb tb : Nat} {B : BS} (h : Bk K w bb gb tb B) (o : Obj) : Bk (fun k => K k ∨ k = w.heap.size) (w.alloc o) bb gb tb B := by
  obtain ⟨tr, ov, h1, h2, h3⟩ := h.mem
  have f : Fr Nil w (w.alloc o) := (Fr.refl Nil w).alloc o
  have s1 : (w.alloc o).heap.size = w.heap.size + 1 := by simp
  refine ⟨tr, ov, h1.fr f id id id fun _ _ => id, (h2.grow f).sub fun k hk => ?_, fun k hk => ?_⟩
  · rcases hk with (e | e) | e | e | e | e
    · exact .inl (.inl e)
    · exact .inr (by omega)
    · exact .inl (.inr (.inl e))
    · exact .inl (.inr (.inr (.inl e)))
    · exact .inl (.inr (.inr (.inr (.inl e))))
    · exact .inl (.inr (.inr (.inr (.inr e))))
  · rcases hk with e | e
    · exact h3 k e
    · have a1 := h2.lt bb (.inr (.inl rfl))
      have a2 := h2.lt tb (.inr (.inr (.inl rfl)))
      have a3 := h2.lt tr (.inr (.inr (.inr (.inl rfl))))
      refine ⟨by omega, by omega, by omega, fun e2 => ?_⟩
      have := h2.lt k (.inr (.inr (.inr (.inr e2))))
      omega
theorem Bk.frK {K S : Nat → Prop} {w w' : World} {bb gb tb : Nat} {B : BS} (h : Bk K w bb gb tb B) (f : Fr S w w') (hs : ∀ k, S k → K k) : Bk K w' bb gb tb B := by
  obtain ⟨tr, ov, h1, h2, h3⟩ := h.mem
  exact ⟨tr, ov, h1.fr f (fun e => (h3 _ (hs _ e)).1 rfl) (fun e => (h3 _ (hs _ e)).2.1 rfl) (fun e => (h3 _ (hs _ e)).2.2.1 rfl) (fun k hk e => (h3 _ (hs _ e)).2.2.2 hk), h2.fr (K' := K) f fun k hk => .inl (hs k hk), h3⟩
def KR (w0 : World) (b1 b2 : Nat) : Nat → Prop := fun k => (k < w0.heap.size ∨ k = b1) ∨ k = b2
structure Rw (w0 w : World) (bb gb tb b1 b2 : Nat) (B : BS) (R T : Nat → Int) : Prop where
  mem : Bk (KR w0 b1 b2) w bb gb tb B
  r : Blk w b1 46 (uarr R)
  t : Blk w b2 46 (uarr T)
  ne : b1 ≠ b2
  n1 : w0.heap.size ≤ b1
  n2 : w0.heap.size ≤ b2
  fr : Fr (fun k => ¬ k < w0.heap.size) w0 w
section
variable {w0 w w' : World} {bb gb tb b1 b2 : Nat} {B B' : BS} {R T : Nat → Int} {v : Value} {f : FuncId} {args : Array Value}
def Rv (w0 : World) (bb gb tb b1 b2 : Nat) (B : BS) (R T : Nat → Int) (v : Value) (e : Ending) (w' : World) : Prop := e = .returned v ∧ Rw w0 w' bb gb tb b1 b2 B R T
theorem Rw.of (h : Rw w0 w bb gb tb b1 b2 B R T) (c : Calls Try.prog f args w (Bn (KR w0 b1 b2) bb gb tb w B' v)) : Calls Try.prog f args w (Rv w0 bb gb tb b1 b2 B' R T v) := by
  refine c.mono ?_
  rintro e w' ⟨rfl, h1, f1⟩
  exact ⟨rfl, h1, h.r.fr f1 fun hn => hn (.inl (.inr rfl)), h.t.fr f1 fun hn => hn (.inr rfl), h.ne, h.n1, h.n2, h.fr.trans (f1.mono fun k _ hn hk => hn (.inl (.inl hk)))⟩
theorem Rw.still (h : Rw w0 w bb gb tb b1 b2 B R T) (f : Fr Nil w w') : Rw w0 w' bb gb tb b1 b2 B R T := ⟨h.mem.still f, h.r.fr0 f, h.t.fr0 f, h.ne, h.n1, h.n2, h.fr.trans f.nil⟩
theorem Rw.ofR (h : Rw w0 w bb gb tb b1 b2 B R T) (c : Calls Try.prog f args w fun e w' => e = .returned v ∧ Fr Nil w w') : Calls Try.prog f args w (Rv w0 bb gb tb b1 b2 B R T v) := by
  refine c.mono ?_
  rintro e w' ⟨rfl, f1⟩
  exact ⟨rfl, h.still f1⟩
theorem Rw.setR (h : Rw w0 w bb gb tb b1 b2 B R T) (k : Nat) (x : Int) : Rw w0 (w.setCell ⟨b1, k, none⟩ (.int .u64 x)) bb gb tb b1 b2 B (upd R k x) T := by
  have f1 : Fr (One b1) w (w.setCell ⟨b1, k, none⟩ (.int .u64 x)) := (Fr.refl _ w).set1 _
  exact ⟨h.mem.frK f1 fun i hi => .inl (.inr hi), (h.r.set_ k _).cast (uarr_set R k x), h.t.fr f1 (fun e => h.ne e.symm), h.ne, h.n1, h.n2, h.fr.trans (f1.mono fun i _ hi hk => by have e : i = b1 := hi; have := h.n1; omega)⟩
theorem Rw.setT (h : Rw w0 w bb gb tb b1 b2 B R T) (k : Nat) (x : Int) : Rw w0 (w.setCell ⟨b2, k, none⟩ (.int .u64 x)) bb gb tb b1 b2 B R (upd T k x) := by
  have f1 : Fr (One b2) w (w.setCell ⟨b2, k, none⟩ (.int .u64 x)) := (Fr.refl _ w).set1 _
  exact ⟨h.mem.frK f1 fun i hi => .inr hi, h.r.fr f1 (fun e => h.ne e), (h.t.set_ k _).cast (uarr_set T k x), h.ne, h.n1, h.n2, h.fr.trans (f1.mono fun i _ hi hk => by have e : i = b2 := hi; have := h.n2; omega)⟩
theorem Rw.write (h : Rw w0 w bb gb tb b1 b2 B R T) (c a x : Int) (a0 : 0 ≤ a) (a1 : a ≤ 18446744073709551615) (x0 : 0 ≤ x) (x1 : x ≤ 18446744073709551615) {y : Int} (hy : wrF B c a = y) {B' : BS} (hB : wrB B c a x = B') :
    Calls Try.prog 9 #[.pointer (some ⟨bb, 0, none⟩), .int .i64 c, .int .u64 a, .int .u64 x] w (Rv w0 bb gb tb b1 b2 B' R T (.int .i64 y)) := by
  subst hy
  subst hB
  exact h.of (write_ok c a x w h.mem a0 a1 x0 x1)
theorem Rw.read (h : Rw w0 w bb gb tb b1 b2 B R T) (c a : Int) (a0 : 0 ≤ a) (a1 : a ≤ 18446744073709551615) {x y : Int} (hx : rdB B c a = (x, y)) :
    Calls Try.prog 13 #[.pointer (some ⟨bb, 0, none⟩), .int .i64 c, .int .u64 a] w (Rv w0 bb gb tb b1 b2 B R T (.tuple #[.int .u64 x, .int .i64 y])) := by
  have := read_ok c a w h.mem a0 a1
  rw [hx] at this
  exact h.ofR this
theorem Rw.below (h : Rw w0 w bb gb tb b1 b2 B R T) : Below w0.heap.size w0 w := h.fr.below (Nat.le_refl _) fun k hk hn => hn hk
end
theorem Rw.start {w0 w : World} {bb gb tb : Nat} {B : BS} (h : Bw w0 w bb gb tb B) :
    Rw w0 ((w.alloc (.cells #[.int .u64 0, .int .u64 0, .int .u64 0, .int .u64 0, .int .u64 0, .int .u64 0, .int .u64 0, .int .u64 0, .int .u64 0, .int .u64 0, .int .u64 0, .int .u64 0, .int .u64 0, .int .u64 0, .int .u64 0, .int .u64 0, .int .u64 0, .int .u64 0, .int .u64 0, .int .u64 0, .int .u64 0, .int .u64 0, .int .u64 0, .int .u64 0, .int .u64 0, .int .u64 0, .int .u64 0, .int .u64 0, .int .u64 0, .int .u64 0, .int .u64 0, .int .u64 0, .int .u64 0, .int .u64 0, .int .u64 0, .int .u64 0, .int .u64 0, .int .u64 0, .int .u64 0, .int .u64 0, .int .u64 0, .int .u64 0, .int .u64 0, .int .u64 0, .int .u64 0, .int .u64 0, .int .u64 0, .int .u64 0, .int .u64 0, .int .u64 0, .int .u64 0, .int .u64 0, .int .u64 0, .int .u64 0, .int .u64 0, .int .u64 0, .int .u64 0, .int .u64 0, .int .u64 0, .int .u64 0, .int .u64 0, .int .u64 0, .int .u64 0, .int .u64 0] 46)).alloc (.cells #[.int .u64 0, .int .u64 0, .int .u64 0, .int .u64 0, .int .u64 0, .int .u64 0, .int .u64 0, .int .u64 0, .int .u64 0, .int .u64 0, .int .u64 0, .int .u64 0, .int .u64 0, .int .u64 0, .int .u64 0, .int .u64 0, .int .u64 0, .int .u64 0, .int .u64 0, .int .u64 0, .int .u64 0, .int .u64 0, .int .u64 0, .int .u64 0, .int .u64 0, .int .u64 0, .int .u64 0, .int .u64 0, .int .u64 0, .int .u64 0, .int .u64 0, .int .u64 0, .int .u64 0, .int .u64 0, .int .u64 0, .int .u64 0, .int .u64 0, .int .u64 0, .int .u64 0, .int .u64 0, .int .u64 0, .int .u64 0, .int .u64 0, .int .u64 0, .int .u64 0, .int .u64 0, .int .u64 0, .int .u64 0, .int .u64 0, .int .u64 0, .int .u64 0, .int .u64 0, .int .u64 0, .int .u64 0, .int .u64 0, .int .u64 0, .int .u64 0, .int .u64 0, .int .u64 0, .int .u64 0, .int .u64 0, .int .u64 0, .int .u64 0, .int .u64 0] 46)) bb gb tb w.heap.size (w.heap.size + 1) B (fun _ => 0) (fun _ => 0) := by
  have hs := h.fr.size
  have f2 : Fr Nil w ((w.alloc (.cells #[.int .u64 0, .int .u64 0, .int .u64 0, .int .u64 0, .int .u64 0, .int .u64 0, .int .u64 0, .int .u64 0, .int .u64 0, .int .u64 0, .int .u64 0, .int .u64 0, .int .u64 0, .int .u64 0, .int .u64 0, .int .u64 0, .int .u64 0, .int .u64 0, .int .u64 0, .int .u64 0, .int .u64 0, .int .u64 0, .int .u64 0, .int .u64 0, .int .u64 0, .int .u64 0, .int .u64 0, .int .u64 0, .int .u64 0, .int .u64 0, .int .u64 0, .int .u64 0, .int .u64 0, .int .u64 0, .int .u64 0, .int .u64 0, .int .u64 0, .int .u64 0, .int .u64 0, .int .u64 0, .int .u64 0, .int .u64 0, .int .u64 0, .int .u64 0, .int .u64 0, .int .u64 0, .int .u64 0, .int .u64 0, .int .u64 0, .int .u64 0, .int .u64 0, .int .u64 0, .int .u64 0, .int .u64 0, .int .u64 0, .int .u64 0, .int .u64 0, .int .u64 0, .int .u64 0, .int .u64 0, .int .u64 0, .int .u64 0, .int .u64 0, .int .u64 0] 46)).alloc (.cells #[.int .u64 0, .int .u64 0, .int .u64 0, .int .u64 0, .int .u64 0, .int .u64 0, .int .u64 0, .int .u64 0, .int .u64 0, .int .u64 0, .int .u64 0, .int .u64 0, .int .u64 0, .int .u64 0, .int .u64 0, .int .u64 0, .int .u64 0, .int .u64 0, .int .u64 0, .int .u64 0, .int .u64 0, .int .u64 0, .int .u64 0, .int .u64 0, .int .u64 0, .int .u64 0, .int .u64 0, .int .u64 0, .int .u64 0, .int .u64 0, .int .u64 0, .int .u64 0, .int .u64 0, .int .u64 0, .int .u64 0, .int .u64 0, .int .u64 0, .int .u64 0, .int .u64 0, .int .u64 0, .int .u64 0, .int .u64 0, .int .u64 0, .int .u64 0, .int .u64 0, .int .u64 0, .int .u64 0, .int .u64 0, .int .u64 0, .int .u64 0, .int .u64 0, .int .u64 0, .int .u64 0, .int .u64 0, .int .u64 0, .int .u64 0, .int .u64 0, .int .u64 0, .int .u64 0, .int .u64 0, .int .u64 0, .int .u64 0, .int .u64 0, .int .u64 0] 46)) := ((Fr.refl Nil w).alloc _).alloc _
  have m := (h.mem.more (.cells #[.int .u64 0, .int .u64 0, .int .u64 0, .int .u64 0, .int .u64 0, .int .u64 0, .int .u64 0, .int .u64 0, .int .u64 0, .int .u64 0, .int .u64 0, .int .u64 0, .int .u64 0, .int .u64 0, .int .u64 0, .int .u64 0, .int .u64 0, .int .u64 0, .int .u64 0, .int .u64 0, .int .u64 0, .int .u64 0, .int .u64 0, .int .u64 0, .int .u64 0, .int .u64 0, .int .u64 0, .int .u64 0, .int .u64 0, .int .u64 0, .int .u64 0, .int .u64 0, .int .u64 0, .int .u64 0, .int .u64 0, .int .u64 0, .int .u64 0, .int .u64 0, .int .u64 0, .int .u64 0, .int .u64 0, .int .u64 0, .int .u64 0, .int .u64 0, .int .u64 0, .int .u64 0, .int .u64 0, .int .u64 0, .int .u64 0, .int .u64 0, .int .u64 0, .int .u64 0, .int .u64 0, .int .u64 0, .int .u64 0, .int .u64 0, .int .u64 0, .int .u64 0, .int .u64 0, .int .u64 0, .int .u64 0, .int .u64 0, .int .u64 0, .int .u64 0] 46)).more (.cells #[.int .u64 0, .int .u64 0, .int .u64 0, .int .u64 0, .int .u64 0, .int .u64 0, .int .u64 0, .int .u64 0, .int .u64 0, .int .u64 0, .int .u64 0, .int .u64 0, .int .u64 0, .int .u64 0, .int .u64 0, .int .u64 0, .int .u64 0, .int .u64 0, .int .u64 0, .int .u64 0, .int .u64 0, .int .u64 0, .int .u64 0, .int .u64 0, .int .u64 0, .int .u64 0, .int .u64 0, .int .u64 0, .int .u64 0, .int .u64 0, .int .u64 0, .int .u64 0, .int .u64 0, .int .u64 0, .int .u64 0, .int .u64 0, .int .u64 0, .int .u64 0, .int .u64 0, .int .u64 0, .int .u64 0, .int .u64 0, .int .u64 0, .int .u64 0, .int .u64 0, .int .u64 0, .int .u64 0, .int .u64 0, .int .u64 0, .int .u64 0, .int .u64 0, .int .u64 0, .int .u64 0, .int .u64 0, .int .u64 0, .int .u64 0, .int .u64 0, .int .u64 0, .int .u64 0, .int .u64 0, .int .u64 0, .int .u64 0, .int .u64 0, .int .u64 0] 46)
  have e : (w.alloc (.cells #[.int .u64 0, .int .u64 0, .int .u64 0, .int .u64 0, .int .u64 0, .int .u64 0, .int .u64 0, .int .u64 0, .int .u64 0, .int .u64 0, .int .u64 0, .int .u64 0, .int .u64 0, .int .u64 0, .int .u64 0, .int .u64 0, .int .u64 0, .int .u64 0, .int .u64 0, .int .u64 0, .int .u64 0, .int .u64 0, .int .u64 0, .int .u64 0, .int .u64 0, .int .u64 0, .int .u64 0, .int .u64 0, .int .u64 0, .int .u64 0, .int .u64 0, .int .u64 0, .int .u64 0, .int .u64 0, .int .u64 0, .int .u64 0, .int .u64 0, .int .u64 0, .int .u64 0, .int .u64 0, .int .u64 0, .int .u64 0, .int .u64 0, .int .u64 0, .int .u64 0, .int .u64 0, .int .u64 0, .int .u64 0, .int .u64 0, .int .u64 0, .int .u64 0, .int .u64 0, .int .u64 0, .int .u64 0, .int .u64 0, .int .u64 0, .int .u64 0, .int .u64 0, .int .u64 0, .int .u64 0, .int .u64 0, .int .u64 0, .int .u64 0, .int .u64 0] 46)).heap.size = w.heap.size + 1 := by simp
  rw [e] at m
  refine ⟨m, ((Blk.new w 46 #[.int .u64 0, .int .u64 0, .int .u64 0, .int .u64 0, .int .u64 0, .int .u64 0, .int .u64 0, .int .u64 0, .int .u64 0, .int .u64 0, .int .u64 0, .int .u64 0, .int .u64 0, .int .u64 0, .int .u64 0, .int .u64 0, .int .u64 0, .int .u64 0, .int .u64 0, .int .u64 0, .int .u64 0, .int .u64 0, .int .u64 0, .int .u64 0, .int .u64 0, .int .u64 0, .int .u64 0, .int .u64 0, .int .u64 0, .int .u64 0, .int .u64 0, .int .u64 0, .int .u64 0, .int .u64 0, .int .u64 0, .int .u64 0, .int .u64 0, .int .u64 0, .int .u64 0, .int .u64 0, .int .u64 0, .int .u64 0, .int .u64 0, .int .u64 0, .int .u64 0, .int .u64 0, .int .u64 0, .int .u64 0, .int .u64 0, .int .u64 0, .int .u64 0, .int .u64 0, .int .u64 0, .int .u64 0, .int .u64 0, .int .u64 0, .int .u64 0, .int .u64 0, .int .u64 0, .int .u64 0, .int .u64 0, .int .u64 0, .int .u64 0, .int .u64 0]).alloc _).cast (by kernel_rfl), (Blk.new2 w (.cells #[.int .u64 0, .int .u64 0, .int .u64 0, .int .u64 0, .int .u64 0, .int .u64 0, .int .u64 0, .int .u64 0, .int .u64 0, .int .u64 0, .int .u64 0, .int .u64 0, .int .u64 0, .int .u64 0, .int .u64 0, .int .u64 0, .int .u64 0, .int .u64 0, .int .u64 0, .int .u64 0, .int .u64 0, .int .u64 0, .int .u64 0, .int .u64 0, .int .u64 0, .int .u64 0, .int .u64 0, .int .u64 0, .int .u64 0, .int .u64 0, .int .u64 0, .int .u64 0, .int .u64 0, .int .u64 0, .int .u64 0, .int .u64 0, .int .u64 0, .int .u64 0, .int .u64 0, .int .u64 0, .int .u64 0, .int .u64 0, .int .u64 0, .int .u64 0, .int .u64 0, .int .u64 0, .int .u64 0, .int .u64 0, .int .u64 0, .int .u64 0, .int .u64 0, .int .u64 0, .int .u64 0, .int .u64 0, .int .u64 0, .int .u64 0, .int .u64 0, .int .u64 0, .int .u64 0, .int .u64 0, .int .u64 0, .int .u64 0, .int .u64 0, .int .u64 0] 46) 46 #[.int .u64 0, .int .u64 0, .int .u64 0, .int .u64 0, .int .u64 0, .int .u64 0, .int .u64 0, .int .u64 0, .int .u64 0, .int .u64 0, .int .u64 0, .int .u64 0, .int .u64 0, .int .u64 0, .int .u64 0, .int .u64 0, .int .u64 0, .int .u64 0, .int .u64 0, .int .u64 0, .int .u64 0, .int .u64 0, .int .u64 0, .int .u64 0, .int .u64 0, .int .u64 0, .int .u64 0, .int .u64 0, .int .u64 0, .int .u64 0, .int .u64 0, .int .u64 0, .int .u64 0, .int .u64 0, .int .u64 0, .int .u64 0, .int .u64 0, .int .u64 0, .int .u64 0, .int .u64 0, .int .u64 0, .int .u64 0, .int .u64 0, .int .u64 0, .int .u64 0, .int .u64 0, .int .u64 0, .int .u64 0, .int .u64 0, .int .u64 0, .int .u64 0, .int .u64 0, .int .u64 0, .int .u64 0, .int .u64 0, .int .u64 0, .int .u64 0, .int .u64 0, .int .u64 0, .int .u64 0, .int .u64 0, .int .u64 0, .int .u64 0, .int .u64 0]).cast (by kernel_rfl), by omega, hs, by omega, h.fr.trans f2.nil⟩
/-! ### Ranks and routes, plain -/
structure Pr (B : BS) (c : Nat) (R T : Nat → Int) : Prop where
  n : B.t.n = 4
  gc : B.g.c = 4
  rk : ∀ id, id < 64 → (B.g.get c id).rk = R id ∧ 0 ≤ R id ∧ R id ≤ 255
  too : ∀ id, 32 ≤ id → id < 64 → (B.g.get c id).dst = T id ∧ 0 ≤ T id ∧ T id < 4
theorem Pr.start (c : Nat) : Pr (B0 4) c (fun _ => 160) (fun _ => 0) :=
  ⟨rfl, rfl, fun id hi => ⟨by show ((new 4).get c id).rk = 160; unfold GS.get new; split <;> rfl, by decide, by decide⟩, fun id h1 h2 => ⟨by show ((new 4).get c id).dst = 0; unfold GS.get new; split <;> rfl, by decide, by decide⟩⟩
theorem put_sh (s : GS) (c c' id : Nat) (y : I) (h : 32 ≤ id) : (s.put c id y).get c' id = y := by
  unfold GS.put GS.get
  rw [if_neg (by omega), if_neg (by omega)]
  exact upd_same _ _ _
theorem Pr.rank {B : BS} {c : Nat} {R T : Nat → Int} (h : Pr B c R T) (hc : c < 4) (id : Nat) (hi : id < 64) (x : Int) (x0 : 0 ≤ x) (x1 : x ≤ 255) : Pr { B with g := B.g.rank (c : Int) (id : Int) x } c (upd R id x) T := by
  have e : B.g.rank (c : Int) (id : Int) x = B.g.put c id { B.g.get c id with rk := x } := by
    unfold GS.rank
    rw [if_pos (by simp; omega), setF_nat (by rw [h.gc]; exact hc) hi]
  refine ⟨h.n, (rank_c _ _ _ _).trans h.gc, fun k hk => ?_, fun k h1 h2 => ?_⟩
  · show ((B.g.rank _ _ _).get c k).rk = _ ∧ _
    rw [e]
    by_cases ek : k = id
    · subst ek
      rw [GS.get_put_eq, upd_same]
      exact ⟨rfl, x0, x1⟩
    · rw [GS.get_put_ne _ _ _ _ _ _ ek, upd_other _ _ ek]
      exact h.rk k hk
  · show ((B.g.rank _ _ _).get c k).dst = _ ∧ _
    rw [e]
    by_cases ek : k = id
    · subst ek
      rw [GS.get_put_eq]
      exact h.too k h1 h2
    · rw [GS.get_put_ne _ _ _ _ _ _ ek]
      exact h.too k h1 h2
theorem Pr.route {B : BS} {c : Nat} {R T : Nat → Int} (h : Pr B c R T) (hc : c < 4) (id : Nat) (hi : id < 64) (h32 : 32 ≤ id) (x : Int) (x0 : 0 ≤ x) (x1 : x < 4) : Pr { B with g := B.g.route (id : Int) x } c R (upd T id x) := by
  obtain ⟨d, rfl⟩ : ∃ d : Nat, x = (d : Int) := ⟨x.toNat, by omega⟩
  have e : B.g.route (id : Int) (d : Int) = B.g.put d id { B.g.get d id with dst := (d : Int) } := by
    unfold GS.route
    rw [if_pos (by simp; omega), setF_nat (by rw [h.gc]; omega) hi]
  refine ⟨h.n, (route_c _ _ _).trans h.gc, fun k hk => ?_, fun k h1 h2 => ?_⟩
  · show ((B.g.route _ _).get c k).rk = _ ∧ _
    rw [e]
    by_cases ek : k = id
    · subst ek
      rw [put_sh _ _ _ _ _ h32, GS.get_sh _ d c _ h32]
      exact h.rk k hk
    · rw [GS.get_put_ne _ _ _ _ _ _ ek]
      exact h.rk k hk
  · show ((B.g.route _ _).get c k).dst = _ ∧ _
    rw [e]
    by_cases ek : k = id
    · subst ek
      rw [put_sh _ _ _ _ _ h32, upd_same]
      exact ⟨rfl, x0, x1⟩
    · rw [GS.get_put_ne _ _ _ _ _ _ ek, upd_other _ _ ek]
      exact h.too k h1 h2
theorem where3 : ∀ id : Nat, id < 64 → whereP (134218240 + 8 * (id : Int)) = some 3 := by decide
theorem where4 : ∀ id : Nat, id < 32 → whereP (134218752 + 8 * (id : Int)) = some 4 := by decide
theorem where4' {id : Nat} (h1 : 32 ≤ id) (h2 : id < 64) : whereP (134218752 + 8 * ((id : Int) - 32)) = some 4 := by
  rw [show (id : Int) - 32 = ((id - 32 : Nat) : Int) by omega]
  exact where4 _ (by omega)
theorem wr3 (B : BS) (c id : Nat) (v : Int) (hn : B.t.n = 4) (hc : c < 4) (hi : id < 64) : wrB B (c : Int) (134218240 + 8 * (id : Int)) v = { B with g := B.g.rank (c : Int) (id : Int) (v % 256) } ∧ wrF B (c : Int) (134218240 + 8 * (id : Int)) = 0 := by
  obtain ⟨h1, h2⟩ := wrB_reg B (c : Int) (134218240 + 8 * (id : Int)) v 3 (okA_nat (by rw [hn]; exact hc) (by omega)) (where3 id hi)
  have e : regK (134218240 + 8 * (id : Int)) 3 = (id : Int) := by unfold regK; simp [plAt, pls]; omega
  rw [e] at h1
  exact ⟨h1, h2⟩
theorem wr4 (B : BS) (c id : Nat) (v : Int) (hn : B.t.n = 4) (hc : c < 4) (h32 : 32 ≤ id) (hi : id < 64) : wrB B (c : Int) (134218752 + 8 * ((id : Int) - 32)) v = { B with g := if decide (v < 4) = true then B.g.route (id : Int) v else B.g } ∧ wrF B (c : Int) (134218752 + 8 * ((id : Int) - 32)) = 0 := by
  obtain ⟨h1, h2⟩ := wrB_reg B (c : Int) (134218752 + 8 * ((id : Int) - 32)) v 4 (okA_nat (by rw [hn]; exact hc) (by omega)) (where4' h32 hi)
  have e : regK (134218752 + 8 * ((id : Int) - 32)) 4 = (id : Int) - 32 := by unfold regK; simp [plAt, pls]; omega
  rw [e] at h1
  refine ⟨h1.trans ?_, h2⟩
  unfold wrReg
  simp only
  rw [hn, show (id : Int) - 32 + 32 = (id : Int) by omega]
  rfl
theorem rd3 {B : BS} {c id : Nat} {R T : Nat → Int} (h : Pr B c R T) (hc : c < 4) (hi : id < 64) : rdB B (c : Int) (134218240 + 8 * (id : Int)) = (R id, 0) ∧ B.g.rate (c : Int) (id : Int) = R id := by
  have h1 := rdB_reg B (c : Int) (134218240 + 8 * (id : Int)) 3 (okA_nat (by rw [h.n]; exact hc) (by omega)) (where3 id hi)
  have e : regK (134218240 + 8 * (id : Int)) 3 = (id : Int) := by unfold regK; simp [plAt, pls]; omega
  obtain ⟨r1, r2, r3⟩ := h.rk id hi
  have e2 : B.g.rate (c : Int) (id : Int) = R id := by
    unfold GS.rate
    rw [if_pos (by unfold okI thereB; rw [h.gc]; simp; omega)]
    exact r1
  rw [e] at h1
  refine ⟨h1.trans ?_, e2⟩
  show (IntKind.u64.wrap (B.g.rate _ _), _) = _
  rw [e2, IntKind.wrap_u64, show R id % 18446744073709551616 = R id by omega]
theorem rd4 {B : BS} {c id : Nat} {R T : Nat → Int} (h : Pr B c R T) (hc : c < 4) (h32 : 32 ≤ id) (hi : id < 64) : rdB B (c : Int) (134218752 + 8 * ((id : Int) - 32)) = (T id, 0) := by
  have h1 := rdB_reg B (c : Int) (134218752 + 8 * ((id : Int) - 32)) 4 (okA_nat (by rw [h.n]; exact hc) (by omega)) (where4' h32 hi)
  have e : regK (134218752 + 8 * ((id : Int) - 32)) 4 = (id : Int) - 32 := by unfold regK; simp [plAt, pls]; omega
  obtain ⟨r1, r2, r3⟩ := h.too id h32 hi
  rw [e] at h1
  refine h1.trans ?_
  show (IntKind.u64.wrap (B.g.goes ((id : Int) - 32 + 32)), _) = _
  rw [show (id : Int) - 32 + 32 = (id : Int) by omega]
  have e2 : B.g.goes (id : Int) = T id := by
    unfold GS.goes
    rw [if_pos (by unfold okI thereB; rw [h.gc]; simp; omega)]
    show (B.g.get 0 id).dst = _
    rw [GS.get_sh _ 0 c _ h32]
    exact r1
  rw [e2, IntKind.wrap_u64, show T id % 18446744073709551616 = T id by omega]
def ini (k : Nat) : Nat → Int := fun i => if i < k then 160 else 0
theorem ini_next (k : Nat) : upd (ini k) k 160 = ini (k + 1) := by
  funext i
  unfold upd ini
  by_cases e : i = k
  · subst e; simp
  · by_cases h : i < k
    · simp [e, h]; omega
    · simp [e, h]; omega

end Go.Proofs.Ytnmakbippgnekaa
