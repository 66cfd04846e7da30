/- A core's state as a value: 49 cells. -/
import Derived.Test.YtiaflkabnaofpaaRows
import Derived.Test.YtiaflkabnaofpaaBase
namespace Go.Proofs.Ytiaflkabnaofpaa
open Go.RowKit
set_option linter.unusedVariables false

structure Cr where
  X : Nat → Int
  S0 : Int
  S1 : Int
  PC : Int
  N : Bool
  Z : Bool
  C : Bool
  V : Bool
  EL : Int
  M : Bool
  Spsr : Int
  Elr : Int
  Esr : Int
  Far : Int
  Vbar : Int
  Tpidr : Int
  Id : Int
  Wait : Int
  Ev : Bool

def cv (c : Cr) : Array Value := #[.int .u64 (c.X 0), .int .u64 (c.X 1), .int .u64 (c.X 2), .int .u64 (c.X 3), .int .u64 (c.X 4), .int .u64 (c.X 5), .int .u64 (c.X 6), .int .u64 (c.X 7), .int .u64 (c.X 8), .int .u64 (c.X 9), .int .u64 (c.X 10), .int .u64 (c.X 11), .int .u64 (c.X 12), .int .u64 (c.X 13), .int .u64 (c.X 14), .int .u64 (c.X 15), .int .u64 (c.X 16), .int .u64 (c.X 17), .int .u64 (c.X 18), .int .u64 (c.X 19), .int .u64 (c.X 20), .int .u64 (c.X 21), .int .u64 (c.X 22), .int .u64 (c.X 23), .int .u64 (c.X 24), .int .u64 (c.X 25), .int .u64 (c.X 26), .int .u64 (c.X 27), .int .u64 (c.X 28), .int .u64 (c.X 29), .int .u64 (c.X 30), .int .u64 (c.S0), .int .u64 (c.S1), .int .u64 (c.PC), .bool (c.N), .bool (c.Z), .bool (c.C), .bool (c.V), .int .i64 (c.EL), .bool (c.M), .int .u64 (c.Spsr), .int .u64 (c.Elr), .int .u64 (c.Esr), .int .u64 (c.Far), .int .u64 (c.Vbar), .int .u64 (c.Tpidr), .int .i64 (c.Id), .int .i64 (c.Wait), .bool (c.Ev)]
theorem cv_0 (c : Cr) : (cv c)[0]? = some (.int .u64 (c.X 0)) := rfl
theorem cv_1 (c : Cr) : (cv c)[1]? = some (.int .u64 (c.X 1)) := rfl
theorem cv_2 (c : Cr) : (cv c)[2]? = some (.int .u64 (c.X 2)) := rfl
theorem cv_3 (c : Cr) : (cv c)[3]? = some (.int .u64 (c.X 3)) := rfl
theorem cv_4 (c : Cr) : (cv c)[4]? = some (.int .u64 (c.X 4)) := rfl
theorem cv_5 (c : Cr) : (cv c)[5]? = some (.int .u64 (c.X 5)) := rfl
theorem cv_6 (c : Cr) : (cv c)[6]? = some (.int .u64 (c.X 6)) := rfl
theorem cv_7 (c : Cr) : (cv c)[7]? = some (.int .u64 (c.X 7)) := rfl
theorem cv_8 (c : Cr) : (cv c)[8]? = some (.int .u64 (c.X 8)) := rfl
theorem cv_9 (c : Cr) : (cv c)[9]? = some (.int .u64 (c.X 9)) := rfl
theorem cv_10 (c : Cr) : (cv c)[10]? = some (.int .u64 (c.X 10)) := rfl
theorem cv_11 (c : Cr) : (cv c)[11]? = some (.int .u64 (c.X 11)) := rfl
theorem cv_12 (c : Cr) : (cv c)[12]? = some (.int .u64 (c.X 12)) := rfl
theorem cv_13 (c : Cr) : (cv c)[13]? = some (.int .u64 (c.X 13)) := rfl
theorem cv_14 (c : Cr) : (cv c)[14]? = some (.int .u64 (c.X 14)) := rfl
theorem cv_15 (c : Cr) : (cv c)[15]? = some (.int .u64 (c.X 15)) := rfl
theorem cv_16 (c : Cr) : (cv c)[16]? = some (.int .u64 (c.X 16)) := rfl
theorem cv_17 (c : Cr) : (cv c)[17]? = some (.int .u64 (c.X 17)) := rfl
theorem cv_18 (c : Cr) : (cv c)[18]? = some (.int .u64 (c.X 18)) := rfl
theorem cv_19 (c : Cr) : (cv c)[19]? = some (.int .u64 (c.X 19)) := rfl
theorem cv_20 (c : Cr) : (cv c)[20]? = some (.int .u64 (c.X 20)) := rfl
theorem cv_21 (c : Cr) : (cv c)[21]? = some (.int .u64 (c.X 21)) := rfl
theorem cv_22 (c : Cr) : (cv c)[22]? = some (.int .u64 (c.X 22)) := rfl
theorem cv_23 (c : Cr) : (cv c)[23]? = some (.int .u64 (c.X 23)) := rfl
theorem cv_24 (c : Cr) : (cv c)[24]? = some (.int .u64 (c.X 24)) := rfl
theorem cv_25 (c : Cr) : (cv c)[25]? = some (.int .u64 (c.X 25)) := rfl
theorem cv_26 (c : Cr) : (cv c)[26]? = some (.int .u64 (c.X 26)) := rfl
theorem cv_27 (c : Cr) : (cv c)[27]? = some (.int .u64 (c.X 27)) := rfl
theorem cv_28 (c : Cr) : (cv c)[28]? = some (.int .u64 (c.X 28)) := rfl
theorem cv_29 (c : Cr) : (cv c)[29]? = some (.int .u64 (c.X 29)) := rfl
theorem cv_30 (c : Cr) : (cv c)[30]? = some (.int .u64 (c.X 30)) := rfl
theorem cv_31 (c : Cr) : (cv c)[31]? = some (.int .u64 (c.S0)) := rfl
theorem cv_32 (c : Cr) : (cv c)[32]? = some (.int .u64 (c.S1)) := rfl
theorem cv_33 (c : Cr) : (cv c)[33]? = some (.int .u64 (c.PC)) := rfl
theorem cv_34 (c : Cr) : (cv c)[34]? = some (.bool (c.N)) := rfl
theorem cv_35 (c : Cr) : (cv c)[35]? = some (.bool (c.Z)) := rfl
theorem cv_36 (c : Cr) : (cv c)[36]? = some (.bool (c.C)) := rfl
theorem cv_37 (c : Cr) : (cv c)[37]? = some (.bool (c.V)) := rfl
theorem cv_38 (c : Cr) : (cv c)[38]? = some (.int .i64 (c.EL)) := rfl
theorem cv_39 (c : Cr) : (cv c)[39]? = some (.bool (c.M)) := rfl
theorem cv_40 (c : Cr) : (cv c)[40]? = some (.int .u64 (c.Spsr)) := rfl
theorem cv_41 (c : Cr) : (cv c)[41]? = some (.int .u64 (c.Elr)) := rfl
theorem cv_42 (c : Cr) : (cv c)[42]? = some (.int .u64 (c.Esr)) := rfl
theorem cv_43 (c : Cr) : (cv c)[43]? = some (.int .u64 (c.Far)) := rfl
theorem cv_44 (c : Cr) : (cv c)[44]? = some (.int .u64 (c.Vbar)) := rfl
theorem cv_45 (c : Cr) : (cv c)[45]? = some (.int .u64 (c.Tpidr)) := rfl
theorem cv_46 (c : Cr) : (cv c)[46]? = some (.int .i64 (c.Id)) := rfl
theorem cv_47 (c : Cr) : (cv c)[47]? = some (.int .i64 (c.Wait)) := rfl
theorem cv_48 (c : Cr) : (cv c)[48]? = some (.bool (c.Ev)) := rfl
theorem cv_size (c : Cr) : (cv c).size = 49 := rfl
theorem cv_X (c : Cr) {k : Nat} (h : k < 31) : (cv c)[k]? = some (.int .u64 (c.X k)) := by
  have : k = 0 ∨ k = 1 ∨ k = 2 ∨ k = 3 ∨ k = 4 ∨ k = 5 ∨ k = 6 ∨ k = 7 ∨ k = 8 ∨ k = 9 ∨ k = 10 ∨ k = 11 ∨ k = 12 ∨ k = 13 ∨ k = 14 ∨ k = 15 ∨ k = 16 ∨ k = 17 ∨ k = 18 ∨ k = 19 ∨ k = 20 ∨ k = 21 ∨ k = 22 ∨ k = 23 ∨ k = 24 ∨ k = 25 ∨ k = 26 ∨ k = 27 ∨ k = 28 ∨ k = 29 ∨ k = 30 := by omega
  rcases this with rfl | rfl | rfl | rfl | rfl | rfl | rfl | rfl | rfl | rfl | rfl | rfl | rfl | rfl | rfl | rfl | rfl | rfl | rfl | rfl | rfl | rfl | rfl | rfl | rfl | rfl | rfl | rfl | rfl | rfl | rfl <;> rfl
theorem cv_setX (c : Cr) {k : Nat} (h : k < 31) (v : Int) : (cv c).setIfInBounds k (.int .u64 v) = cv { c with X := upd c.X k v } := by
  have : k = 0 ∨ k = 1 ∨ k = 2 ∨ k = 3 ∨ k = 4 ∨ k = 5 ∨ k = 6 ∨ k = 7 ∨ k = 8 ∨ k = 9 ∨ k = 10 ∨ k = 11 ∨ k = 12 ∨ k = 13 ∨ k = 14 ∨ k = 15 ∨ k = 16 ∨ k = 17 ∨ k = 18 ∨ k = 19 ∨ k = 20 ∨ k = 21 ∨ k = 22 ∨ k = 23 ∨ k = 24 ∨ k = 25 ∨ k = 26 ∨ k = 27 ∨ k = 28 ∨ k = 29 ∨ k = 30 := by omega
  rcases this with rfl | rfl | rfl | rfl | rfl | rfl | rfl | rfl | rfl | rfl | rfl | rfl | rfl | rfl | rfl | rfl | rfl | rfl | rfl | rfl | rfl | rfl | rfl | rfl | rfl | rfl | rfl | rfl | rfl | rfl | rfl <;> rfl
theorem cv_setS0 (c : Cr) (v : Int) : (cv c).setIfInBounds 31 (.int .u64 v) = cv { c with S0 := v } := rfl
theorem cv_setS1 (c : Cr) (v : Int) : (cv c).setIfInBounds 32 (.int .u64 v) = cv { c with S1 := v } := rfl
theorem cv_setPC (c : Cr) (v : Int) : (cv c).setIfInBounds 33 (.int .u64 v) = cv { c with PC := v } := rfl
theorem cv_setN (c : Cr) (v : Bool) : (cv c).setIfInBounds 34 (.bool v) = cv { c with N := v } := rfl
theorem cv_setZ (c : Cr) (v : Bool) : (cv c).setIfInBounds 35 (.bool v) = cv { c with Z := v } := rfl
theorem cv_setC (c : Cr) (v : Bool) : (cv c).setIfInBounds 36 (.bool v) = cv { c with C := v } := rfl
theorem cv_setV (c : Cr) (v : Bool) : (cv c).setIfInBounds 37 (.bool v) = cv { c with V := v } := rfl
theorem cv_setEL (c : Cr) (v : Int) : (cv c).setIfInBounds 38 (.int .i64 v) = cv { c with EL := v } := rfl
theorem cv_setM (c : Cr) (v : Bool) : (cv c).setIfInBounds 39 (.bool v) = cv { c with M := v } := rfl
theorem cv_setSpsr (c : Cr) (v : Int) : (cv c).setIfInBounds 40 (.int .u64 v) = cv { c with Spsr := v } := rfl
theorem cv_setElr (c : Cr) (v : Int) : (cv c).setIfInBounds 41 (.int .u64 v) = cv { c with Elr := v } := rfl
theorem cv_setEsr (c : Cr) (v : Int) : (cv c).setIfInBounds 42 (.int .u64 v) = cv { c with Esr := v } := rfl
theorem cv_setFar (c : Cr) (v : Int) : (cv c).setIfInBounds 43 (.int .u64 v) = cv { c with Far := v } := rfl
theorem cv_setVbar (c : Cr) (v : Int) : (cv c).setIfInBounds 44 (.int .u64 v) = cv { c with Vbar := v } := rfl
theorem cv_setTpidr (c : Cr) (v : Int) : (cv c).setIfInBounds 45 (.int .u64 v) = cv { c with Tpidr := v } := rfl
theorem cv_setId (c : Cr) (v : Int) : (cv c).setIfInBounds 46 (.int .i64 v) = cv { c with Id := v } := rfl
theorem cv_setWait (c : Cr) (v : Int) : (cv c).setIfInBounds 47 (.int .i64 v) = cv { c with Wait := v } := rfl
theorem cv_setEv (c : Cr) (v : Bool) : (cv c).setIfInBounds 48 (.bool v) = cv { c with Ev := v } := rfl
attribute [local go_sem] cv_0 cv_1 cv_2 cv_3 cv_4 cv_5 cv_6 cv_7 cv_8 cv_9 cv_10 cv_11 cv_12 cv_13 cv_14 cv_15 cv_16 cv_17 cv_18 cv_19 cv_20 cv_21 cv_22 cv_23 cv_24 cv_25 cv_26 cv_27 cv_28 cv_29 cv_30 cv_31 cv_32 cv_33 cv_34 cv_35 cv_36 cv_37 cv_38 cv_39 cv_40 cv_41 cv_42 cv_43 cv_44 cv_45 cv_46 cv_47 cv_48
end Go.Proofs.Ytiaflkabnaofpaa
