/- Part of the proof of LifecycleStays: walks and plain words, merged. -/
import Derived.Test.YtjkfobmfddfjhaaDoorBLifecycleStaysb
import Derived.Test.YtjkfobmfddfjhaaDoorBLifecycleStaysd
import Derived.Test.YtjkfobmfddfjhaaDoorBLifecycleStaysc
set_option linter.unusedVariables false
set_option linter.unusedSimpArgs false

set_option linter.unusedVariables false
set_option linter.unusedSimpArgs false
namespace Go.Proofs.YtjkfobmfddfjhaaDoorX
open Go Go.RowKit Go.Proofs
set_option maxRecDepth 100000
attribute [local go_sem ↓] stepsK_build stepsK_bs appendS
attribute [local go_sem] String.reduceEq String.reduceNe reduceCtorEq Int.reduceEq Nat.reduceAdd Nat.reduceSub Nat.reduceMul Nat.reduceLT Nat.reduceLeDiff Nat.reduceEqDiff Nat.reduceBEq Int.reduceToNat Int.reduceLT Int.reduceLE Int.reduceGT Int.reduceGE Int.reduceAdd Int.reduceSub Int.reduceMul Int.reduceNeg Int.reduceBEq Int.reduceBNe Int.reducePow Int.reduceDiv Int.reduceMod Int.reduceTDiv Int.reduceTMod Int.reduceNatCast
/-! ### lifecycle.Due -/
def F22_S4 (a1 : List ((List UInt8) × (Int) × (Bool) × (Int))) (a2 : List (Int)) (x9 : List ((Int) × (List UInt8) × (Int))) (x6 : Int) (x32 : Bool) (x33 : List ((List UInt8) × (List UInt8) × (Bool) × (Int) × (Int) × (Int))) (x34 : Int) (x35 : List UInt8) (x36 : Int) (x37 : Bool) (x38 : Int) : St := ⟨[.junk, .sl 4 false (List.map eT57 a1), .sl 1 false (List.map (eI .i64) a2), .junk, .ref 0 0 0 0, .junk, .junk, .ref 1 0 0 0, .junk, .rsl 2 3 0 x9.length, .junk, .ref 3 0 0 0, .junk, .junk, .junk, .junk, .junk, .junk, .junk, .junk, .junk, .junk, .junk, .junk, .junk, .junk, .junk, .junk, .junk, .junk, .junk, .junk, .sl 4 false (List.map eT57 a1), .imm (.int .i64 (a1.length : Int)), .imm (.int .i64 x6), .junk, .junk, .junk, .junk, .junk, .junk, .junk, .junk, .junk, .junk, .junk, .junk, .junk, .junk, .junk, .junk, .junk, .junk, .junk, .junk, .junk, .junk, .junk, .junk, .junk, .junk, .junk, .junk, .junk, .junk, .junk, .junk, .junk, .junk, .junk, .junk, .junk, .junk, .junk, .junk, .junk, .junk, .junk, .junk, .junk, .junk, .junk, .junk, .junk, .junk, .junk, .junk, .junk, .junk, .junk, .junk, .junk, .junk, .junk, .junk, .junk, .junk, .junk, .junk, .junk, .junk, .junk, .junk, .junk, .junk, .junk, .junk, .imm (.bool x32), .junk, .junk, .junk, .junk, .junk, .junk, .junk, .junk, .junk, .junk, .junk, .junk, .junk, .junk, .junk, .junk, .junk, .junk, .junk, .junk, .junk, .junk, .junk, .junk, .junk], [some (.box 40 (.sl 6 false (List.map eT55 x33)) false), some (.box 3 (.imm (.int .i64 x34)) false), some (.buf 54 3 (List.map eT53 x9) 0), some (.box 58 (.agg [.imm (.string (bs x35)), .imm (.int .i64 x36), .imm (.bool x37), .imm (.int .i64 x38)]) false)]⟩
def F22_S3 (a1 : List ((List UInt8) × (Int) × (Bool) × (Int))) (a2 : List (Int)) (x9 : List ((Int) × (List UInt8) × (Int))) (x6 : Int) (x20 : Bool) (x21 : List ((List UInt8) × (List UInt8) × (Bool) × (Int) × (Int) × (Int))) (x22 : Int) (x23 : List UInt8) (x24 : Int) (x25 : Bool) (x26 : Int) : St := ⟨[.junk, .sl 4 false (List.map eT57 a1), .sl 1 false (List.map (eI .i64) a2), .junk, .ref 0 0 0 0, .junk, .junk, .ref 1 0 0 0, .junk, .rsl 2 3 0 x9.length, .imm (.int .i64 x6), .ref 3 0 0 0, .imm (.bool true), .junk, .fn 43 [.ref 0 0 0 0, .ref 3 0 0 0, .ref 1 0 0 0], .junk, .fn 49 [], .junk, .junk, .junk, .junk, .junk, .junk, .junk, .junk, .junk, .junk, .junk, .junk, .junk, .junk, .junk, .sl 4 false (List.map eT57 a1), .imm (.int .i64 (a1.length : Int)), .imm (.int .i64 x6), .junk, .junk, .junk, .junk, .junk, .junk, .junk, .junk, .junk, .junk, .junk, .junk, .junk, .junk, .junk, .junk, .junk, .junk, .junk, .junk, .junk, .junk, .junk, .junk, .junk, .junk, .junk, .junk, .junk, .junk, .junk, .junk, .junk, .junk, .junk, .junk, .junk, .imm (.bool x20), .junk, .junk, .junk, .junk, .junk, .junk, .junk, .junk, .junk, .junk, .junk, .junk, .junk, .junk, .junk, .junk, .junk, .junk, .junk, .junk, .junk, .junk, .junk, .junk, .junk, .junk, .junk, .junk, .junk, .junk, .junk, .junk, .junk, .junk, .junk, .junk, .junk, .junk, .junk, .junk, .junk, .junk, .junk, .junk, .junk, .junk, .junk, .junk, .junk, .junk, .junk, .junk, .junk, .junk, .junk, .junk, .junk, .junk, .junk, .junk], [some (.box 40 (.sl 6 false (List.map eT55 x21)) false), some (.box 3 (.imm (.int .i64 x22)) false), some (.buf 54 3 (List.map eT53 x9) 0), some (.box 58 (.agg [.imm (.string (bs x23)), .imm (.int .i64 x24), .imm (.bool x25), .imm (.int .i64 x26)]) false)]⟩
def F22_S2 (a1 : List ((List UInt8) × (Int) × (Bool) × (Int))) (a2 : List (Int)) (x9 : List ((Int) × (List UInt8) × (Int))) (x6 : Int) (x7 : List ((List UInt8) × (List UInt8) × (Bool) × (Int) × (Int) × (Int))) (x8 : Int) (x15 : Bool) : St := ⟨[.junk, .sl 4 false (List.map eT57 a1), .sl 1 false (List.map (eI .i64) a2), .junk, .ref 0 0 0 0, .junk, .junk, .ref 1 0 0 0, .junk, .rsl 2 3 0 x9.length, .imm (.int .i64 x6), .ref 3 0 0 0, .imm (.bool true), .imm (.bool x15), .junk, .junk, .junk, .junk, .junk, .junk, .junk, .junk, .junk, .junk, .junk, .junk, .junk, .junk, .junk, .junk, .junk, .junk, .sl 4 false (List.map eT57 a1), .imm (.int .i64 (a1.length : Int)), .imm (.int .i64 x6), .junk, .junk, .junk, .junk, .junk, .junk, .junk, .junk, .junk, .junk, .junk, .junk, .junk, .junk, .junk, .junk, .junk, .junk, .junk, .junk, .junk, .junk, .junk, .junk, .junk, .junk, .junk, .junk, .junk, .junk, .junk, .junk, .junk, .junk, .junk, .junk, .junk, .junk, .junk, .junk, .junk, .junk, .junk, .junk, .junk, .junk, .junk, .junk, .junk, .junk, .junk, .junk, .junk, .junk, .junk, .junk, .junk, .junk, .junk, .junk, .junk, .junk, .junk, .junk, .junk, .junk, .junk, .junk, .junk, .junk, .junk, .junk, .junk, .junk, .junk, .junk, .junk, .junk, .junk, .junk, .junk, .junk, .junk, .junk, .junk, .junk, .junk, .junk, .junk, .junk, .junk, .junk, .junk, .junk, .junk, .junk, .junk, .junk], [some (.box 40 (.sl 6 false (List.map eT55 x7)) false), some (.box 3 (.imm (.int .i64 x8)) false), some (.buf 54 3 (List.map eT53 x9) 0), some (.box 58 (.agg [.imm (.string (bs ((a1.getD x6.toNat default).1))), .imm (.int .i64 ((a1.getD x6.toNat default).2.1)), .imm (.bool ((a1.getD x6.toNat default).2.2.1)), .imm (.int .i64 ((a1.getD x6.toNat default).2.2.2))]) false)]⟩
def F22_S7 (a1 : List ((List UInt8) × (Int) × (Bool) × (Int))) (a2 : List (Int)) (x9 : List ((Int) × (List UInt8) × (Int))) (x6 : Int) (x71 : Bool) (x72 : List ((List UInt8) × (List UInt8) × (Bool) × (Int) × (Int) × (Int))) (x73 : Int) (x74 : List UInt8) (x75 : Int) (x76 : Bool) (x77 : Int) : St := ⟨[.junk, .sl 4 false (List.map eT57 a1), .sl 1 false (List.map (eI .i64) a2), .junk, .ref 0 0 0 0, .junk, .junk, .ref 1 0 0 0, .junk, .rsl 2 3 0 x9.length, .junk, .ref 3 0 0 0, .junk, .junk, .junk, .junk, .junk, .junk, .junk, .junk, .junk, .junk, .junk, .junk, .junk, .junk, .junk, .junk, .junk, .junk, .junk, .junk, .sl 4 false (List.map eT57 a1), .imm (.int .i64 (a1.length : Int)), .imm (.int .i64 x6), .junk, .junk, .junk, .junk, .junk, .junk, .junk, .junk, .junk, .junk, .junk, .junk, .junk, .junk, .junk, .junk, .junk, .junk, .junk, .junk, .junk, .junk, .junk, .junk, .junk, .junk, .junk, .junk, .junk, .junk, .junk, .junk, .junk, .junk, .junk, .junk, .junk, .junk, .junk, .junk, .junk, .junk, .junk, .junk, .junk, .junk, .junk, .junk, .junk, .junk, .junk, .junk, .junk, .junk, .junk, .junk, .junk, .junk, .junk, .junk, .junk, .junk, .junk, .junk, .junk, .junk, .junk, .junk, .junk, .junk, .junk, .junk, .imm (.bool x71), .junk, .junk, .junk, .junk, .junk, .junk, .junk, .junk, .junk, .junk, .junk, .junk, .junk, .junk, .junk, .junk, .junk, .junk, .junk, .junk, .junk, .junk, .junk, .junk, .junk], [some (.box 40 (.sl 6 false (List.map eT55 x72)) false), some (.box 3 (.imm (.int .i64 x73)) false), some (.buf 54 3 (List.map eT53 x9) 0), some (.box 58 (.agg [.imm (.string (bs x74)), .imm (.int .i64 x75), .imm (.bool x76), .imm (.int .i64 x77)]) false)]⟩
def F22_S6 (a1 : List ((List UInt8) × (Int) × (Bool) × (Int))) (a2 : List (Int)) (x9 : List ((Int) × (List UInt8) × (Int))) (x6 : Int) (x58 : Bool) (x59 : List ((List UInt8) × (List UInt8) × (Bool) × (Int) × (Int) × (Int))) (x60 : Int) (x61 : List UInt8) (x62 : Int) (x63 : Bool) (x64 : Int) : St := ⟨[.junk, .sl 4 false (List.map eT57 a1), .sl 1 false (List.map (eI .i64) a2), .junk, .ref 0 0 0 0, .junk, .junk, .ref 1 0 0 0, .junk, .rsl 2 3 0 x9.length, .imm (.int .i64 x6), .ref 3 0 0 0, .imm (.bool (!(((a1.getD (IntKind.wrap .i64 (x6 - (1 : Int))).toNat default).1) == ((a1.getD x6.toNat default).1)))), .junk, .fn 43 [.ref 0 0 0 0, .ref 3 0 0 0, .ref 1 0 0 0], .junk, .fn 49 [], .junk, .junk, .junk, .junk, .junk, .junk, .junk, .junk, .junk, .junk, .junk, .junk, .junk, .junk, .junk, .sl 4 false (List.map eT57 a1), .imm (.int .i64 (a1.length : Int)), .imm (.int .i64 x6), .junk, .junk, .junk, .junk, .junk, .junk, .junk, .junk, .junk, .junk, .junk, .junk, .junk, .junk, .junk, .junk, .junk, .junk, .junk, .junk, .junk, .junk, .junk, .junk, .junk, .junk, .junk, .junk, .junk, .junk, .junk, .junk, .junk, .junk, .junk, .junk, .junk, .imm (.bool x58), .junk, .junk, .junk, .junk, .junk, .junk, .junk, .junk, .junk, .junk, .junk, .junk, .junk, .junk, .junk, .junk, .junk, .junk, .junk, .junk, .junk, .junk, .junk, .junk, .junk, .junk, .junk, .junk, .junk, .junk, .junk, .junk, .junk, .junk, .junk, .junk, .junk, .junk, .junk, .junk, .junk, .junk, .junk, .junk, .junk, .junk, .junk, .junk, .junk, .junk, .junk, .junk, .junk, .junk, .junk, .junk, .junk, .junk, .junk, .junk], [some (.box 40 (.sl 6 false (List.map eT55 x59)) false), some (.box 3 (.imm (.int .i64 x60)) false), some (.buf 54 3 (List.map eT53 x9) 0), some (.box 58 (.agg [.imm (.string (bs x61)), .imm (.int .i64 x62), .imm (.bool x63), .imm (.int .i64 x64)]) false)]⟩
def F22_S5 (a1 : List ((List UInt8) × (Int) × (Bool) × (Int))) (a2 : List (Int)) (x9 : List ((Int) × (List UInt8) × (Int))) (x6 : Int) (x7 : List ((List UInt8) × (List UInt8) × (Bool) × (Int) × (Int) × (Int))) (x8 : Int) (x45 : Bool) : St := ⟨[.junk, .sl 4 false (List.map eT57 a1), .sl 1 false (List.map (eI .i64) a2), .junk, .ref 0 0 0 0, .junk, .junk, .ref 1 0 0 0, .junk, .rsl 2 3 0 x9.length, .imm (.int .i64 x6), .ref 3 0 0 0, .imm (.bool (!(((a1.getD (IntKind.wrap .i64 (x6 - (1 : Int))).toNat default).1) == ((a1.getD x6.toNat default).1)))), .imm (.bool x45), .junk, .junk, .junk, .junk, .junk, .junk, .junk, .junk, .junk, .junk, .junk, .junk, .junk, .junk, .junk, .junk, .junk, .junk, .sl 4 false (List.map eT57 a1), .imm (.int .i64 (a1.length : Int)), .imm (.int .i64 x6), .junk, .junk, .junk, .junk, .junk, .junk, .junk, .junk, .junk, .junk, .junk, .junk, .junk, .junk, .junk, .junk, .junk, .junk, .junk, .junk, .junk, .junk, .junk, .junk, .junk, .junk, .junk, .junk, .junk, .junk, .junk, .junk, .junk, .junk, .junk, .junk, .junk, .junk, .junk, .junk, .junk, .junk, .junk, .junk, .junk, .junk, .junk, .junk, .junk, .junk, .junk, .junk, .junk, .junk, .junk, .junk, .junk, .junk, .junk, .junk, .junk, .junk, .junk, .junk, .junk, .junk, .junk, .junk, .junk, .junk, .junk, .junk, .junk, .junk, .junk, .junk, .junk, .junk, .junk, .junk, .junk, .junk, .junk, .junk, .junk, .junk, .junk, .junk, .junk, .junk, .junk, .junk, .junk, .junk, .junk, .junk, .junk, .junk], [some (.box 40 (.sl 6 false (List.map eT55 x7)) false), some (.box 3 (.imm (.int .i64 x8)) false), some (.buf 54 3 (List.map eT53 x9) 0), some (.box 58 (.agg [.imm (.string (bs ((a1.getD x6.toNat default).1))), .imm (.int .i64 ((a1.getD x6.toNat default).2.1)), .imm (.bool ((a1.getD x6.toNat default).2.2.1)), .imm (.int .i64 ((a1.getD x6.toNat default).2.2.2))]) false)]⟩
def F22_S1 (a1 : List ((List UInt8) × (Int) × (Bool) × (Int))) (a2 : List (Int)) (x6 : Int) (x7 : List ((List UInt8) × (List UInt8) × (Bool) × (Int) × (Int) × (Int))) (x8 : Int) (x9 : List ((Int) × (List UInt8) × (Int))) : St := ⟨[.junk, .sl 4 false (List.map eT57 a1), .sl 1 false (List.map (eI .i64) a2), .junk, .ref 0 0 0 0, .junk, .junk, .ref 1 0 0 0, .junk, .rsl 2 3 0 x9.length, .junk, .junk, .junk, .junk, .junk, .junk, .junk, .junk, .junk, .junk, .junk, .junk, .junk, .junk, .junk, .junk, .junk, .junk, .junk, .junk, .junk, .junk, .sl 4 false (List.map eT57 a1), .imm (.int .i64 (a1.length : Int)), .imm (.int .i64 x6), .junk, .junk, .junk, .junk, .junk, .junk, .junk, .junk, .junk, .junk, .junk, .junk, .junk, .junk, .junk, .junk, .junk, .junk, .junk, .junk, .junk, .junk, .junk, .junk, .junk, .junk, .junk, .junk, .junk, .junk, .junk, .junk, .junk, .junk, .junk, .junk, .junk, .junk, .junk, .junk, .junk, .junk, .junk, .junk, .junk, .junk, .junk, .junk, .junk, .junk, .junk, .junk, .junk, .junk, .junk, .junk, .junk, .junk, .junk, .junk, .junk, .junk, .junk, .junk, .junk, .junk, .junk, .junk, .junk, .junk, .junk, .junk, .junk, .junk, .junk, .junk, .junk, .junk, .junk, .junk, .junk, .junk, .junk, .junk, .junk, .junk, .junk, .junk, .junk, .junk, .junk, .junk, .junk, .junk, .junk, .junk, .junk, .junk], [some (.box 40 (.sl 6 false (List.map eT55 x7)) false), some (.box 3 (.imm (.int .i64 x8)) false), some (.buf 54 3 (List.map eT53 x9) 0)]⟩
mutual
def F22_J4 (m1 : Nat) (a1 : List ((List UInt8) × (Int) × (Bool) × (Int))) (a2 : List (Int)) (x9 : List ((Int) × (List UInt8) × (Int))) (x6 : Int) (x32 : Bool) (x33 : List ((List UInt8) × (List UInt8) × (Bool) × (Int) × (Int) × (Int))) (x34 : Int) (x35 : List UInt8) (x36 : Int) (x37 : Bool) (x38 : Int) : Option (List ((Int) × (List UInt8) × (Int))) := iteB x32 (grd ((x9.length + 1) ≤ 549755813888) (F22_L1 m1 a1 a2 (IntKind.wrap .i64 (x6 + (1 : Int))) x33 x34 (x9 ++ [((1 : Int), x35, x36)]))) (F22_L1 m1 a1 a2 (IntKind.wrap .i64 (x6 + (1 : Int))) x33 x34 x9)
def F22_J3 (m1 : Nat) (a1 : List ((List UInt8) × (Int) × (Bool) × (Int))) (a2 : List (Int)) (x9 : List ((Int) × (List UInt8) × (Int))) (x6 : Int) (x20 : Bool) (x21 : List ((List UInt8) × (List UInt8) × (Bool) × (Int) × (Int) × (Int))) (x22 : Int) (x23 : List UInt8) (x24 : Int) (x25 : Bool) (x26 : Int) : Option (List ((Int) × (List UInt8) × (Int))) := iteB x20 (grd ((x9.length + 1) ≤ 549755813888) (F22_L1 m1 a1 a2 (IntKind.wrap .i64 (x6 + (1 : Int))) x21 x22 (x9 ++ [((2 : Int), x23, x24)]))) (iteB (!x25) (grd (0 ≤ x6 ∧ x6 < (a2.length : Int)) ((F50000043 m1 (a2.getD x6.toNat default) x21 (x23, x24, x25, x26) x22).bind fun v31 => F22_J4 m1 a1 a2 x9 x6 v31.1 v31.2.1 v31.2.2.2 v31.2.2.1.1 v31.2.2.1.2.1 v31.2.2.1.2.2.1 v31.2.2.1.2.2.2)) (F22_J4 m1 a1 a2 x9 x6 false x21 x22 x23 x24 x25 x26))
def F22_J2 (m1 : Nat) (a1 : List ((List UInt8) × (Int) × (Bool) × (Int))) (a2 : List (Int)) (x9 : List ((Int) × (List UInt8) × (Int))) (x6 : Int) (x7 : List ((List UInt8) × (List UInt8) × (Bool) × (Int) × (Int) × (Int))) (x8 : Int) (x15 : Bool) : Option (List ((Int) × (List UInt8) × (Int))) := iteB x15 (iteB ((a1.getD x6.toNat default).2.2.1) (grd (0 ≤ x6 ∧ x6 < (a2.length : Int)) ((F50000043 m1 (a2.getD x6.toNat default) x7 ((a1.getD x6.toNat default).1, (a1.getD x6.toNat default).2.1, (a1.getD x6.toNat default).2.2.1, (a1.getD x6.toNat default).2.2.2) x8).bind fun v19 => F22_J3 m1 a1 a2 x9 x6 v19.1 v19.2.1 v19.2.2.2 v19.2.2.1.1 v19.2.2.1.2.1 v19.2.2.1.2.2.1 v19.2.2.1.2.2.2)) (F22_J3 m1 a1 a2 x9 x6 false x7 x8 ((a1.getD x6.toNat default).1) ((a1.getD x6.toNat default).2.1) ((a1.getD x6.toNat default).2.2.1) ((a1.getD x6.toNat default).2.2.2))) (F22_J3 m1 a1 a2 x9 x6 false x7 x8 ((a1.getD x6.toNat default).1) ((a1.getD x6.toNat default).2.1) ((a1.getD x6.toNat default).2.2.1) ((a1.getD x6.toNat default).2.2.2))
def F22_J7 (m1 : Nat) (a1 : List ((List UInt8) × (Int) × (Bool) × (Int))) (a2 : List (Int)) (x9 : List ((Int) × (List UInt8) × (Int))) (x6 : Int) (x71 : Bool) (x72 : List ((List UInt8) × (List UInt8) × (Bool) × (Int) × (Int) × (Int))) (x73 : Int) (x74 : List UInt8) (x75 : Int) (x76 : Bool) (x77 : Int) : Option (List ((Int) × (List UInt8) × (Int))) := iteB x71 (grd ((x9.length + 1) ≤ 549755813888) (F22_L1 m1 a1 a2 (IntKind.wrap .i64 (x6 + (1 : Int))) x72 x73 (x9 ++ [((1 : Int), x74, x75)]))) (F22_L1 m1 a1 a2 (IntKind.wrap .i64 (x6 + (1 : Int))) x72 x73 x9)
def F22_J6 (m1 : Nat) (a1 : List ((List UInt8) × (Int) × (Bool) × (Int))) (a2 : List (Int)) (x9 : List ((Int) × (List UInt8) × (Int))) (x6 : Int) (x58 : Bool) (x59 : List ((List UInt8) × (List UInt8) × (Bool) × (Int) × (Int) × (Int))) (x60 : Int) (x61 : List UInt8) (x62 : Int) (x63 : Bool) (x64 : Int) : Option (List ((Int) × (List UInt8) × (Int))) := iteB x58 (grd ((x9.length + 1) ≤ 549755813888) (F22_L1 m1 a1 a2 (IntKind.wrap .i64 (x6 + (1 : Int))) x59 x60 (x9 ++ [((2 : Int), x61, x62)]))) (iteB (!(((a1.getD (IntKind.wrap .i64 (x6 - (1 : Int))).toNat default).1) == ((a1.getD x6.toNat default).1))) (iteB (!x63) (grd (0 ≤ x6 ∧ x6 < (a2.length : Int)) ((F50000043 m1 (a2.getD x6.toNat default) x59 (x61, x62, x63, x64) x60).bind fun v70 => F22_J7 m1 a1 a2 x9 x6 v70.1 v70.2.1 v70.2.2.2 v70.2.2.1.1 v70.2.2.1.2.1 v70.2.2.1.2.2.1 v70.2.2.1.2.2.2)) (F22_J7 m1 a1 a2 x9 x6 false x59 x60 x61 x62 x63 x64)) (F22_J7 m1 a1 a2 x9 x6 false x59 x60 x61 x62 x63 x64))
def F22_J5 (m1 : Nat) (a1 : List ((List UInt8) × (Int) × (Bool) × (Int))) (a2 : List (Int)) (x9 : List ((Int) × (List UInt8) × (Int))) (x6 : Int) (x7 : List ((List UInt8) × (List UInt8) × (Bool) × (Int) × (Int) × (Int))) (x8 : Int) (x45 : Bool) : Option (List ((Int) × (List UInt8) × (Int))) := iteB (!(!(((a1.getD (IntKind.wrap .i64 (x6 - (1 : Int))).toNat default).1) == ((a1.getD x6.toNat default).1)))) (grd (0 ≤ (IntKind.wrap .i64 (x6 - (1 : Int))) ∧ (IntKind.wrap .i64 (x6 - (1 : Int))) < (a2.length : Int)) ((F49000043 m1 (a2.getD (IntKind.wrap .i64 (x6 - (1 : Int))).toNat default) x7 ((a1.getD x6.toNat default).1, (a1.getD x6.toNat default).2.1, (a1.getD x6.toNat default).2.2.1, (a1.getD x6.toNat default).2.2.2) x8).bind fun v48 => iteB v48.1 (F22_J6 m1 a1 a2 x9 x6 v48.1 v48.2.1 v48.2.2.2 v48.2.2.1.1 v48.2.2.1.2.1 v48.2.2.1.2.2.1 v48.2.2.1.2.2.2) (iteB x45 (iteB v48.2.2.1.2.2.1 (grd (0 ≤ x6 ∧ x6 < (a2.length : Int)) ((F50000043 m1 (a2.getD x6.toNat default) v48.2.1 (v48.2.2.1.1, v48.2.2.1.2.1, v48.2.2.1.2.2.1, v48.2.2.1.2.2.2) v48.2.2.2).bind fun v53 => F22_J6 m1 a1 a2 x9 x6 v53.1 v53.2.1 v53.2.2.2 v53.2.2.1.1 v53.2.2.1.2.1 v53.2.2.1.2.2.1 v53.2.2.1.2.2.2)) (F22_J6 m1 a1 a2 x9 x6 false v48.2.1 v48.2.2.2 v48.2.2.1.1 v48.2.2.1.2.1 v48.2.2.1.2.2.1 v48.2.2.1.2.2.2)) (F22_J6 m1 a1 a2 x9 x6 false v48.2.1 v48.2.2.2 v48.2.2.1.1 v48.2.2.1.2.1 v48.2.2.1.2.2.1 v48.2.2.1.2.2.2)))) (iteB x45 (iteB ((a1.getD x6.toNat default).2.2.1) (grd (0 ≤ x6 ∧ x6 < (a2.length : Int)) ((F50000043 m1 (a2.getD x6.toNat default) x7 ((a1.getD x6.toNat default).1, (a1.getD x6.toNat default).2.1, (a1.getD x6.toNat default).2.2.1, (a1.getD x6.toNat default).2.2.2) x8).bind fun v57 => F22_J6 m1 a1 a2 x9 x6 v57.1 v57.2.1 v57.2.2.2 v57.2.2.1.1 v57.2.2.1.2.1 v57.2.2.1.2.2.1 v57.2.2.1.2.2.2)) (F22_J6 m1 a1 a2 x9 x6 false x7 x8 ((a1.getD x6.toNat default).1) ((a1.getD x6.toNat default).2.1) ((a1.getD x6.toNat default).2.2.1) ((a1.getD x6.toNat default).2.2.2))) (F22_J6 m1 a1 a2 x9 x6 false x7 x8 ((a1.getD x6.toNat default).1) ((a1.getD x6.toNat default).2.1) ((a1.getD x6.toNat default).2.2.1) ((a1.getD x6.toNat default).2.2.2)))
def F22_L1 : Nat → (List ((List UInt8) × (Int) × (Bool) × (Int))) → (List (Int)) → (Int) → (List ((List UInt8) × (List UInt8) × (Bool) × (Int) × (Int) × (Int))) → (Int) → (List ((Int) × (List UInt8) × (Int))) → Option (List ((Int) × (List UInt8) × (Int)))
 | 0, _, _, _, _, _, _ => none
 | m1 + 1, a1, a2, x6, x7, x8, x9 => iteB (decide (x6 < (a1.length : Int))) (grd (0 ≤ x6 ∧ x6 < (a1.length : Int)) (iteB (x6 == (0 : Int)) (iteB ((IntKind.wrap .i64 (x6 + (1 : Int))) == (a1.length : Int)) (F22_J2 m1 a1 a2 x9 x6 x7 x8 true) (grd (0 ≤ (IntKind.wrap .i64 (x6 + (1 : Int))) ∧ (IntKind.wrap .i64 (x6 + (1 : Int))) < (a1.length : Int)) (F22_J2 m1 a1 a2 x9 x6 x7 x8 (!(((a1.getD (IntKind.wrap .i64 (x6 + (1 : Int))).toNat default).1) == ((a1.getD x6.toNat default).1)))))) (grd (0 ≤ (IntKind.wrap .i64 (x6 - (1 : Int))) ∧ (IntKind.wrap .i64 (x6 - (1 : Int))) < (a1.length : Int)) (iteB (!(((a1.getD (IntKind.wrap .i64 (x6 - (1 : Int))).toNat default).1) == ((a1.getD x6.toNat default).1))) (iteB ((IntKind.wrap .i64 (x6 + (1 : Int))) == (a1.length : Int)) (F22_J5 m1 a1 a2 x9 x6 x7 x8 true) (grd (0 ≤ (IntKind.wrap .i64 (x6 + (1 : Int))) ∧ (IntKind.wrap .i64 (x6 + (1 : Int))) < (a1.length : Int)) (F22_J5 m1 a1 a2 x9 x6 x7 x8 (!(((a1.getD (IntKind.wrap .i64 (x6 + (1 : Int))).toNat default).1) == ((a1.getD x6.toNat default).1)))))) (F22_J5 m1 a1 a2 x9 x6 x7 x8 false))))) (some x9)
end
def F22 (n : Nat) (a0 : List ((List UInt8) × (List UInt8) × (Bool) × (Int) × (Int) × (Int))) (a1 : List ((List UInt8) × (Int) × (Bool) × (Int))) (a2 : List (Int)) (a3 : Int) : Option (List ((Int) × (List UInt8) × (Int))) := iteB ((a2.length : Int) != (a1.length : Int)) (some []) ((F42 n a1).bind fun v2 => iteB (!v2) (some []) ((F27 n a0).bind fun v4 => iteB (!v4) (some []) (F22_L1 n a1 a2 (0 : Int) a0 a3 [])))
set_option maxHeartbeats 4000000 in
theorem F22_ok : ∀ (n : Nat) (a0 : List ((List UInt8) × (List UInt8) × (Bool) × (Int) × (Int) × (Int))) (a1 : List ((List UInt8) × (Int) × (Bool) × (Int))) (a2 : List (Int)) (a3 : Int) (r : List ((Int) × (List UInt8) × (Int))), F22 n a0 a1 a2 a3 = some r → FnC Tryd.prog 22 [.sl 6 false (List.map eT55 a0), .sl 4 false (List.map eT57 a1), .sl 1 false (List.map (eI .i64) a2), .imm (.int .i64 a3)] (.sl 3 false (List.map eT53 r))
 | n, a0, a1, a2, a3, r, h => by
  unfold F22 at h
  refine FnC.goX mixed Tryd.func22 (by kernel_rfl) rfl ?_
  simp only [Tryd.ntmps22, List.length_cons, List.length_nil, List.replicate, List.cons_append, List.nil_append, Nat.reduceAdd, Nat.reduceSub]
  refine runX_seq ?_
  refine runX_regionC fun C hC => ?_
  try simp -implicitDefEqProofs (maxSteps := 4000000) (disch := first | omega | decide | (simp only [go_sem]; omega)) only [go_sem, ↓reduceIte]
  repeat (with_reducible refine And.intro (by first | assumption | omega | (simp; done) | (simp; omega)) ?_)
  refine toEnd hC ?_
  refine endX_seq ?_
  refine runX_seq ?_
  refine runX_seq ?_
  refine runX_regionC fun C hC => ?_
  try simp -implicitDefEqProofs (maxSteps := 4000000) (disch := first | omega | decide | (simp only [go_sem]; omega)) only [go_sem, ↓reduceIte]
  repeat (with_reducible refine And.intro (by first | assumption | omega | (simp; done) | (simp; omega)) ?_)
  rcases iteB_some h with ⟨c1, h⟩ | ⟨c1, h⟩
  ·refine guardK_F c1 ?_
   try simp -implicitDefEqProofs (maxSteps := 4000000) (disch := first | omega | decide | (simp only [go_sem]; omega)) only [go_sem, ↓reduceIte]
   repeat (with_reducible refine And.intro (by first | assumption | omega | (simp; done) | (simp; omega)) ?_)
   refine toEnd hC ?_
   refine endX_seq ?_
   refine runX_condT rfl rfl ?_
   refine runX_seq ?_
   refine runX_regionC fun C hC => ?_
   try simp -implicitDefEqProofs (maxSteps := 4000000) (disch := first | omega | decide | (simp only [go_sem]; omega)) only [go_sem, ↓reduceIte]
   repeat (with_reducible refine And.intro (by first | assumption | omega | (simp; done) | (simp; omega)) ?_)
   refine toEnd hC ?_
   refine endX_seq ?_
   refine runX_ret ?_
   refine endX_seqR ?_
   refine endX_q ?_
   obtain rfl := Option.some.inj h
   show RetW _ _ _ _ _
   simp only [RetW]
   (try simp -implicitDefEqProofs (maxSteps := 4000000) (disch := first | omega | decide | (simp only [go_sem]; omega)) only [go_sem, ↓reduceIte])
   (try simp (disch := omega) only [if_pos, Nat.sub_zero])
   first | exact leT_refl _ | (refine ⟨rfl, ?_⟩; first | exact leT_refl _ | exact leT_sl | exact leT_sln | exact leT_nil | (refine leT_tup (by repeat (first | exact leL_refl _ | refine leL_cons (by first | exact leT_refl _ | exact leT_virt | exact leT_junk _ | exact leT_sl | exact leT_sln | exact leT_nil | (refine leT_agg (by repeat (first | exact leL_refl _ | refine leL_cons (by first | exact leT_refl _ | exact leT_sl | exact leT_sln | exact leT_nil) ?_)))) ?_))) | (refine leT_agg (by repeat (first | exact leL_refl _ | refine leL_cons (by first | exact leT_refl _ | exact leT_virt | exact leT_junk _ | exact leT_sl | exact leT_sln | exact leT_nil | (refine leT_agg (by repeat (first | exact leL_refl _ | refine leL_cons (by first | exact leT_refl _ | exact leT_sl | exact leT_sln | exact leT_nil) ?_)))) ?_)))) | (first | exact leT_refl _ | exact leT_sl | exact leT_sln | exact leT_nil | (refine leT_tup (by repeat (first | exact leL_refl _ | refine leL_cons (by first | exact leT_refl _ | exact leT_virt | exact leT_junk _ | exact leT_sl | exact leT_sln | exact leT_nil | (refine leT_agg (by repeat (first | exact leL_refl _ | refine leL_cons (by first | exact leT_refl _ | exact leT_sl | exact leT_sln | exact leT_nil) ?_)))) ?_))) | (refine leT_agg (by repeat (first | exact leL_refl _ | refine leL_cons (by first | exact leT_refl _ | exact leT_virt | exact leT_junk _ | exact leT_sl | exact leT_sln | exact leT_nil | (refine leT_agg (by repeat (first | exact leL_refl _ | refine leL_cons (by first | exact leT_refl _ | exact leT_sl | exact leT_sln | exact leT_nil) ?_)))) ?_)))) | (simp only [List.append_assoc, List.cons_append, List.nil_append]; exact leT_refl _) | (rw [List.take_of_length_le (by simp)]; (try simp only [List.append_assoc, List.cons_append, List.nil_append]); exact leT_refl _)
  ·refine guardK_T c1 ?_
   obtain ⟨v2, h2, h⟩ := bnd_some h
   try simp -implicitDefEqProofs (maxSteps := 4000000) (disch := first | omega | decide | (simp only [go_sem]; omega)) only [go_sem, ↓reduceIte]
   repeat (with_reducible refine And.intro (by first | assumption | omega | (simp; done) | (simp; omega)) ?_)
   refine callG_X (by first | rfl | (simp only [go_sem]; done) | (simp only [closedL, closedT, Bool.and_true]; exact closedL_map _ (fun _ => by first | rfl | (simp only [go_sem]; done)) _)) (F42_ok n a1 _ h2) (by repeat (first | exact leL_refl _ | refine leL_cons (by first | exact leT_refl _ | exact leT_virt | exact leT_junk _ | exact leT_sl | exact leT_sln | exact leT_nil | (refine leT_agg (by repeat (first | exact leL_refl _ | refine leL_cons (by first | exact leT_refl _ | exact leT_sl | exact leT_sln | exact leT_nil) ?_)))) ?_)) ?_
   try simp -implicitDefEqProofs (maxSteps := 4000000) (disch := first | omega | decide | (simp only [go_sem]; omega)) only [go_sem, ↓reduceIte]
   repeat (with_reducible refine And.intro (by first | assumption | omega | (simp; done) | (simp; omega)) ?_)
   rcases iteB_some h with ⟨c3, h⟩ | ⟨c3, h⟩
   ·refine guardK_F c3 ?_
    try simp -implicitDefEqProofs (maxSteps := 4000000) (disch := first | omega | decide | (simp only [go_sem]; omega)) only [go_sem, ↓reduceIte]
    repeat (with_reducible refine And.intro (by first | assumption | omega | (simp; done) | (simp; omega)) ?_)
    refine toEnd hC ?_
    refine endX_seq ?_
    refine runX_condT rfl rfl ?_
    refine runX_seq ?_
    refine runX_regionC fun C hC => ?_
    try simp -implicitDefEqProofs (maxSteps := 4000000) (disch := first | omega | decide | (simp only [go_sem]; omega)) only [go_sem, ↓reduceIte]
    repeat (with_reducible refine And.intro (by first | assumption | omega | (simp; done) | (simp; omega)) ?_)
    refine toEnd hC ?_
    refine endX_seq ?_
    refine runX_ret ?_
    refine endX_seqR ?_
    refine endX_q ?_
    obtain rfl := Option.some.inj h
    show RetW _ _ _ _ _
    simp only [RetW]
    (try simp -implicitDefEqProofs (maxSteps := 4000000) (disch := first | omega | decide | (simp only [go_sem]; omega)) only [go_sem, ↓reduceIte])
    (try simp (disch := omega) only [if_pos, Nat.sub_zero])
    first | exact leT_refl _ | (refine ⟨rfl, ?_⟩; first | exact leT_refl _ | exact leT_sl | exact leT_sln | exact leT_nil | (refine leT_tup (by repeat (first | exact leL_refl _ | refine leL_cons (by first | exact leT_refl _ | exact leT_virt | exact leT_junk _ | exact leT_sl | exact leT_sln | exact leT_nil | (refine leT_agg (by repeat (first | exact leL_refl _ | refine leL_cons (by first | exact leT_refl _ | exact leT_sl | exact leT_sln | exact leT_nil) ?_)))) ?_))) | (refine leT_agg (by repeat (first | exact leL_refl _ | refine leL_cons (by first | exact leT_refl _ | exact leT_virt | exact leT_junk _ | exact leT_sl | exact leT_sln | exact leT_nil | (refine leT_agg (by repeat (first | exact leL_refl _ | refine leL_cons (by first | exact leT_refl _ | exact leT_sl | exact leT_sln | exact leT_nil) ?_)))) ?_)))) | (first | exact leT_refl _ | exact leT_sl | exact leT_sln | exact leT_nil | (refine leT_tup (by repeat (first | exact leL_refl _ | refine leL_cons (by first | exact leT_refl _ | exact leT_virt | exact leT_junk _ | exact leT_sl | exact leT_sln | exact leT_nil | (refine leT_agg (by repeat (first | exact leL_refl _ | refine leL_cons (by first | exact leT_refl _ | exact leT_sl | exact leT_sln | exact leT_nil) ?_)))) ?_))) | (refine leT_agg (by repeat (first | exact leL_refl _ | refine leL_cons (by first | exact leT_refl _ | exact leT_virt | exact leT_junk _ | exact leT_sl | exact leT_sln | exact leT_nil | (refine leT_agg (by repeat (first | exact leL_refl _ | refine leL_cons (by first | exact leT_refl _ | exact leT_sl | exact leT_sln | exact leT_nil) ?_)))) ?_)))) | (simp only [List.append_assoc, List.cons_append, List.nil_append]; exact leT_refl _) | (rw [List.take_of_length_le (by simp)]; (try simp only [List.append_assoc, List.cons_append, List.nil_append]); exact leT_refl _)
   ·refine guardK_T c3 ?_
    obtain ⟨v4, h4, h⟩ := bnd_some h
    try simp -implicitDefEqProofs (maxSteps := 4000000) (disch := first | omega | decide | (simp only [go_sem]; omega)) only [go_sem, ↓reduceIte]
    repeat (with_reducible refine And.intro (by first | assumption | omega | (simp; done) | (simp; omega)) ?_)
    refine callG_X (by first | rfl | (simp only [go_sem]; done) | (simp only [closedL, closedT, Bool.and_true]; exact closedL_map _ (fun _ => by first | rfl | (simp only [go_sem]; done)) _)) (F27_ok n a0 _ h4) (by repeat (first | exact leL_refl _ | refine leL_cons (by first | exact leT_refl _ | exact leT_virt | exact leT_junk _ | exact leT_sl | exact leT_sln | exact leT_nil | (refine leT_agg (by repeat (first | exact leL_refl _ | refine leL_cons (by first | exact leT_refl _ | exact leT_sl | exact leT_sln | exact leT_nil) ?_)))) ?_)) ?_
    try simp -implicitDefEqProofs (maxSteps := 4000000) (disch := first | omega | decide | (simp only [go_sem]; omega)) only [go_sem, ↓reduceIte]
    repeat (with_reducible refine And.intro (by first | assumption | omega | (simp; done) | (simp; omega)) ?_)
    refine toEnd hC ?_
    refine endX_seq ?_
    rcases iteB_some h with ⟨c5, h⟩ | ⟨c5, h⟩
    ·refine runX_condT rfl c5 ?_
     refine runX_seq ?_
     refine runX_regionC fun C hC => ?_
     try simp -implicitDefEqProofs (maxSteps := 4000000) (disch := first | omega | decide | (simp only [go_sem]; omega)) only [go_sem, ↓reduceIte]
     repeat (with_reducible refine And.intro (by first | assumption | omega | (simp; done) | (simp; omega)) ?_)
     refine toEnd hC ?_
     refine endX_seq ?_
     refine runX_ret ?_
     refine endX_seqR ?_
     refine endX_q ?_
     obtain rfl := Option.some.inj h
     show RetW _ _ _ _ _
     simp only [RetW]
     (try simp -implicitDefEqProofs (maxSteps := 4000000) (disch := first | omega | decide | (simp only [go_sem]; omega)) only [go_sem, ↓reduceIte])
     (try simp (disch := omega) only [if_pos, Nat.sub_zero])
     first | exact leT_refl _ | (refine ⟨rfl, ?_⟩; first | exact leT_refl _ | exact leT_sl | exact leT_sln | exact leT_nil | (refine leT_tup (by repeat (first | exact leL_refl _ | refine leL_cons (by first | exact leT_refl _ | exact leT_virt | exact leT_junk _ | exact leT_sl | exact leT_sln | exact leT_nil | (refine leT_agg (by repeat (first | exact leL_refl _ | refine leL_cons (by first | exact leT_refl _ | exact leT_sl | exact leT_sln | exact leT_nil) ?_)))) ?_))) | (refine leT_agg (by repeat (first | exact leL_refl _ | refine leL_cons (by first | exact leT_refl _ | exact leT_virt | exact leT_junk _ | exact leT_sl | exact leT_sln | exact leT_nil | (refine leT_agg (by repeat (first | exact leL_refl _ | refine leL_cons (by first | exact leT_refl _ | exact leT_sl | exact leT_sln | exact leT_nil) ?_)))) ?_)))) | (first | exact leT_refl _ | exact leT_sl | exact leT_sln | exact leT_nil | (refine leT_tup (by repeat (first | exact leL_refl _ | refine leL_cons (by first | exact leT_refl _ | exact leT_virt | exact leT_junk _ | exact leT_sl | exact leT_sln | exact leT_nil | (refine leT_agg (by repeat (first | exact leL_refl _ | refine leL_cons (by first | exact leT_refl _ | exact leT_sl | exact leT_sln | exact leT_nil) ?_)))) ?_))) | (refine leT_agg (by repeat (first | exact leL_refl _ | refine leL_cons (by first | exact leT_refl _ | exact leT_virt | exact leT_junk _ | exact leT_sl | exact leT_sln | exact leT_nil | (refine leT_agg (by repeat (first | exact leL_refl _ | refine leL_cons (by first | exact leT_refl _ | exact leT_sl | exact leT_sln | exact leT_nil) ?_)))) ?_)))) | (simp only [List.append_assoc, List.cons_append, List.nil_append]; exact leT_refl _) | (rw [List.take_of_length_le (by simp)]; (try simp only [List.append_assoc, List.cons_append, List.nil_append]); exact leT_refl _)
    ·refine runX_condF rfl c5 ?_
     refine runX_skip ?_
     refine endX_seq ?_
     refine runX_seq ?_
     refine runX_regionC fun C hC => ?_
     try simp -implicitDefEqProofs (maxSteps := 4000000) (disch := first | omega | decide | (simp only [go_sem]; omega)) only [go_sem, ↓reduceIte]
     repeat (with_reducible refine And.intro (by first | assumption | omega | (simp; done) | (simp; omega)) ?_)
     refine toEnd hC ?_
     refine endX_seq ?_
     refine runX_seq ?_
     refine runX_seq ?_
     refine runX_regionC fun C hC => ?_
     try simp -implicitDefEqProofs (maxSteps := 4000000) (disch := first | omega | decide | (simp only [go_sem]; omega)) only [go_sem, ↓reduceIte]
     repeat (with_reducible refine And.intro (by first | assumption | omega | (simp; done) | (simp; omega)) ?_)
     refine toEnd hC ?_
     refine endX_seq ?_
     refine runX_block ?_
     refine runX_loop [1, 2, 4, 7, 9, 32, 33, 34] (fun m S => ∃ (x6 : Int) (x7 : List ((List UInt8) × (List UInt8) × (Bool) × (Int) × (Int) × (Int))) (x8 : Int) (x9 : List ((Int) × (List UInt8) × (Int))), S = F22_S1 a1 a2 x6 x7 x8 x9 ∧ m ≤ n ∧ F22_L1 m a1 a2 x6 x7 x8 x9 = some r) n ⟨F22_S1 a1 a2 (0 : Int) a0 a3 [], ?_, (0 : Int), a0, a3, [], rfl, Nat.le_refl _, h⟩ ?_
     ·(try simp -implicitDefEqProofs (maxSteps := 4000000) (disch := first | omega | decide | (simp only [go_sem]; omega)) only [go_sem, ↓reduceIte])
      simp only [F22_S1]
      refine leS_trans (leS_pad _ _ 1) ?_
      simp only [List.replicate, List.cons_append, List.nil_append]
      refine leS_virt 2 54 3 rfl ?_ ?_ rfl
      ·repeat (first | exact leL_refl _ | refine leL_cons (by first | exact leT_refl _ | exact leT_virt | exact leT_junk _ | exact leT_sl | exact leT_sln | exact leT_nil | (refine leT_agg (by repeat (first | exact leL_refl _ | refine leL_cons (by first | exact leT_refl _ | exact leT_sl | exact leT_sln | exact leT_nil) ?_)))) ?_)
      ·repeat (first | exact leOs_refl _ | refine leOs.cons (by first | exact leO.same _ | (refine leO.box (leT_agg (by repeat (first | exact leL_refl _ | refine leL_cons (by first | exact leT_refl _ | exact leT_virt | exact leT_junk _ | exact leT_sl | exact leT_sln | exact leT_nil | (refine leT_agg (by repeat (first | exact leL_refl _ | refine leL_cons (by first | exact leT_refl _ | exact leT_sl | exact leT_sln | exact leT_nil) ?_)))) ?_))) rfl) | (refine leO.box (by first | exact leT_virt | exact leT_sl | exact leT_sln) rfl)) ?_)
     ·clear h
      rintro m1 S ⟨x6, x7, x8, x9, rfl, hm1, h⟩
      cases m1 with
      | zero => first | cases (show (none : Option _) = some _ from h) | (rw [F22_L1] at h; cases h)
      | succ m1 =>
       rw [F22_L1] at h
       simp only [F22_S1]
       refine runX_seq ?_
       refine runX_regionC fun C hC => ?_
       try simp -implicitDefEqProofs (maxSteps := 4000000) (disch := first | omega | decide | (simp only [go_sem]; omega)) only [go_sem, ↓reduceIte]
       repeat (with_reducible refine And.intro (by first | assumption | omega | (simp; done) | (simp; omega)) ?_)
       refine toEnd hC ?_
       refine endX_seq ?_
       refine runX_seq ?_
       rcases iteB_some h with ⟨c10, h⟩ | ⟨c10, h⟩
       ·refine runX_condT rfl c10 ?_
        refine runX_skip ?_
        refine endX_seq ?_
        refine runX_seq ?_
        refine runX_block ?_
        refine runX_seq ?_
        refine runX_regionC fun C hC => ?_
        obtain ⟨g11, h⟩ := grd_some h
        try simp -implicitDefEqProofs (maxSteps := 4000000) (disch := first | omega | decide | (simp only [go_sem]; omega)) only [go_sem, ↓reduceIte]
        repeat (with_reducible refine And.intro (by first | assumption | omega | (simp; done) | (simp; omega)) ?_)
        refine toEnd hC ?_
        refine endX_seq ?_
        refine runX_seq ?_
        refine runX_drawC mixed (by kernel_rfl) fun C hC => ?_
        try simp -implicitDefEqProofs (maxSteps := 4000000) (disch := first | omega | decide | (simp only [go_sem]; omega)) only [go_sem, ↓reduceIte]
        repeat (with_reducible refine And.intro (by first | assumption | omega | (simp; done) | (simp; omega)) ?_)
        rcases iteB_some h with ⟨c12, h⟩ | ⟨c12, h⟩
        ·refine guardD_F c12 ?_
         try simp -implicitDefEqProofs (maxSteps := 4000000) (disch := first | omega | decide | (simp only [go_sem]; omega)) only [go_sem, ↓reduceIte]
         repeat (with_reducible refine And.intro (by first | assumption | omega | (simp; done) | (simp; omega)) ?_)
         refine toEnd hC ?_
         refine endX_seq ?_
         refine runX_meet [1, 2, 4, 7, 9, 10, 11, 12, 13, 32, 33, 34] (fun S => ∃ (x15 : Bool), S = F22_S2 a1 a2 x9 x6 x7 x8 x15 ∧ F22_J2 m1 a1 a2 x9 x6 x7 x8 x15 = some r) ?_ ?_
         ·refine runX_drawC mixed (by kernel_rfl) fun C hC => ?_
          try simp -implicitDefEqProofs (maxSteps := 4000000) (disch := first | omega | decide | (simp only [go_sem]; omega)) only [go_sem, ↓reduceIte]
          repeat (with_reducible refine And.intro (by first | assumption | omega | (simp; done) | (simp; omega)) ?_)
          rcases iteB_some h with ⟨c13, h⟩ | ⟨c13, h⟩
          ·refine guardD_F c13 ?_
           try simp -implicitDefEqProofs (maxSteps := 4000000) (disch := first | omega | decide | (simp only [go_sem]; omega)) only [go_sem, ↓reduceIte]
           repeat (with_reducible refine And.intro (by first | assumption | omega | (simp; done) | (simp; omega)) ?_)
           refine toEnd hC ?_
           refine endX_q (meetQ_normal ⟨F22_S2 a1 a2 x9 x6 x7 x8 true, ?_, true, rfl, h⟩)
           simp only [F22_S2]
           (try simp -implicitDefEqProofs (maxSteps := 4000000) (disch := first | omega | decide | (simp only [go_sem]; omega)) only [go_sem, ↓reduceIte])
           first | exact leS_refl _ | (refine leS_le ?_ ?_ <;> first | exact leL_refl _ | exact leOs_refl _ | (simp only [List.append_assoc, List.cons_append, List.nil_append]; exact leOs_refl _) | (repeat (first | exact leL_refl _ | refine leL_cons (by first | exact leT_refl _ | exact leT_virt | exact leT_junk _ | exact leT_sl | exact leT_sln | exact leT_nil | (refine leT_agg (by repeat (first | exact leL_refl _ | refine leL_cons (by first | exact leT_refl _ | exact leT_sl | exact leT_sln | exact leT_nil) ?_)))) ?_)))
          ·refine guardD_T c13 ?_
           obtain ⟨g14, h⟩ := grd_some h
           try simp -implicitDefEqProofs (maxSteps := 4000000) (disch := first | omega | decide | (simp only [go_sem]; omega)) only [go_sem, ↓reduceIte]
           repeat (with_reducible refine And.intro (by first | assumption | omega | (simp; done) | (simp; omega)) ?_)
           refine toEnd hC ?_
           refine endX_q (meetQ_normal ⟨F22_S2 a1 a2 x9 x6 x7 x8 (!(((a1.getD (IntKind.wrap .i64 (x6 + (1 : Int))).toNat default).1) == ((a1.getD x6.toNat default).1))), ?_, (!(((a1.getD (IntKind.wrap .i64 (x6 + (1 : Int))).toNat default).1) == ((a1.getD x6.toNat default).1))), rfl, h⟩)
           simp only [F22_S2]
           (try simp -implicitDefEqProofs (maxSteps := 4000000) (disch := first | omega | decide | (simp only [go_sem]; omega)) only [go_sem, ↓reduceIte])
           first | exact leS_refl _ | (refine leS_le ?_ ?_ <;> first | exact leL_refl _ | exact leOs_refl _ | (simp only [List.append_assoc, List.cons_append, List.nil_append]; exact leOs_refl _) | (repeat (first | exact leL_refl _ | refine leL_cons (by first | exact leT_refl _ | exact leT_virt | exact leT_junk _ | exact leT_sl | exact leT_sln | exact leT_nil | (refine leT_agg (by repeat (first | exact leL_refl _ | refine leL_cons (by first | exact leT_refl _ | exact leT_sl | exact leT_sln | exact leT_nil) ?_)))) ?_)))
         ·clear h
          rintro S ⟨x15, rfl, h⟩
          rw [F22_J2] at h
          simp only [F22_S2]
          refine runX_seq ?_
          refine runX_regionC fun C hC => ?_
          try simp -implicitDefEqProofs (maxSteps := 4000000) (disch := first | omega | decide | (simp only [go_sem]; omega)) only [go_sem, ↓reduceIte]
          repeat (with_reducible refine And.intro (by first | assumption | omega | (simp; done) | (simp; omega)) ?_)
          refine toEnd hC ?_
          refine endX_seq ?_
          refine runX_seq ?_
          refine runX_regionC fun C hC => ?_
          try simp -implicitDefEqProofs (maxSteps := 4000000) (disch := first | omega | decide | (simp only [go_sem]; omega)) only [go_sem, ↓reduceIte]
          repeat (with_reducible refine And.intro (by first | assumption | omega | (simp; done) | (simp; omega)) ?_)
          refine toEnd hC ?_
          refine endX_seq ?_
          refine runX_seq ?_
          refine runX_regionC fun C hC => ?_
          try simp -implicitDefEqProofs (maxSteps := 4000000) (disch := first | omega | decide | (simp only [go_sem]; omega)) only [go_sem, ↓reduceIte]
          repeat (with_reducible refine And.intro (by first | assumption | omega | (simp; done) | (simp; omega)) ?_)
          refine toEnd hC ?_
          refine endX_seq ?_
          refine runX_block ?_
          refine runX_meet [1, 2, 4, 7, 9, 10, 11, 12, 14, 16, 32, 33, 34, 72] (fun S => ∃ (x20 : Bool) (x21 : List ((List UInt8) × (List UInt8) × (Bool) × (Int) × (Int) × (Int))) (x22 : Int) (x23 : List UInt8) (x24 : Int) (x25 : Bool) (x26 : Int), S = F22_S3 a1 a2 x9 x6 x20 x21 x22 x23 x24 x25 x26 ∧ F22_J3 m1 a1 a2 x9 x6 x20 x21 x22 x23 x24 x25 x26 = some r) ?_ ?_
          ·refine runX_seq ?_
           refine runX_regionC fun C hC => ?_
           try simp -implicitDefEqProofs (maxSteps := 4000000) (disch := first | omega | decide | (simp only [go_sem]; omega)) only [go_sem, ↓reduceIte]
           repeat (with_reducible refine And.intro (by first | assumption | omega | (simp; done) | (simp; omega)) ?_)
           refine toEnd hC ?_
           refine endX_seq ?_
           refine runX_condF rfl rfl ?_
           refine runX_regionC fun C hC => ?_
           try simp -implicitDefEqProofs (maxSteps := 4000000) (disch := first | omega | decide | (simp only [go_sem]; omega)) only [go_sem, ↓reduceIte]
           repeat (with_reducible refine And.intro (by first | assumption | omega | (simp; done) | (simp; omega)) ?_)
           rcases iteB_some h with ⟨c16, h⟩ | ⟨c16, h⟩
           ·refine guardK_T c16 ?_
            try simp -implicitDefEqProofs (maxSteps := 4000000) (disch := first | omega | decide | (simp only [go_sem]; omega)) only [go_sem, ↓reduceIte]
            repeat (with_reducible refine And.intro (by first | assumption | omega | (simp; done) | (simp; omega)) ?_)
            rcases iteB_some h with ⟨c17, h⟩ | ⟨c17, h⟩
            ·refine guardK_T c17 ?_
             obtain ⟨g18, h⟩ := grd_some h
             obtain ⟨v19, h19, h⟩ := bnd_some h
             try simp -implicitDefEqProofs (maxSteps := 4000000) (disch := first | omega | decide | (simp only [go_sem]; omega)) only [go_sem, ↓reduceIte]
             repeat (with_reducible refine And.intro (by first | assumption | omega | (simp; done) | (simp; omega)) ?_)
             refine callR_X [0, 3, 1] (F50000043_ok m1 (a2.getD x6.toNat default) x7 ((a1.getD x6.toNat default).1, (a1.getD x6.toNat default).2.1, (a1.getD x6.toNat default).2.2.1, (a1.getD x6.toNat default).2.2.2) x8 _ h19) (by decide) (by (try simp -implicitDefEqProofs (maxSteps := 4000000) (disch := first | omega | decide | (simp only [go_sem]; omega)) only [go_sem, ↓reduceIte]); repeat (first | exact trivial | refine And.intro ?_ ?_ | exact fun _ => trivial | exact fun _ _ => trivial | exact fun _ _ h => h | rfl | decide)) (by (try simp -implicitDefEqProofs (maxSteps := 4000000) (disch := first | omega | decide | (simp only [go_sem]; omega)) only [go_sem, ↓reduceIte]); repeat (first | exact leL_refl _ | refine leL_cons (by first | exact leT_refl _ | exact leT_virt | exact leT_junk _ | exact leT_sl | exact leT_sln | exact leT_nil | (refine leT_agg (by repeat (first | exact leL_refl _ | refine leL_cons (by first | exact leT_refl _ | exact leT_sl | exact leT_sln | exact leT_nil) ?_)))) ?_)) ?_
             try simp -implicitDefEqProofs (maxSteps := 4000000) (disch := first | omega | decide | (simp only [go_sem]; omega)) only [go_sem, ↓reduceIte]
             repeat (with_reducible refine And.intro (by first | assumption | omega | (simp; done) | (simp; omega)) ?_)
             refine toEnd hC ?_
             refine endX_q (meetQ_normal ⟨F22_S3 a1 a2 x9 x6 v19.1 v19.2.1 v19.2.2.2 v19.2.2.1.1 v19.2.2.1.2.1 v19.2.2.1.2.2.1 v19.2.2.1.2.2.2, ?_, v19.1, v19.2.1, v19.2.2.2, v19.2.2.1.1, v19.2.2.1.2.1, v19.2.2.1.2.2.1, v19.2.2.1.2.2.2, rfl, h⟩)
             simp only [F22_S3]
             (try simp -implicitDefEqProofs (maxSteps := 4000000) (disch := first | omega | decide | (simp only [go_sem]; omega)) only [go_sem, ↓reduceIte])
             first | exact leS_refl _ | (refine leS_le ?_ ?_ <;> first | exact leL_refl _ | exact leOs_refl _ | (simp only [List.append_assoc, List.cons_append, List.nil_append]; exact leOs_refl _) | (repeat (first | exact leL_refl _ | refine leL_cons (by first | exact leT_refl _ | exact leT_virt | exact leT_junk _ | exact leT_sl | exact leT_sln | exact leT_nil | (refine leT_agg (by repeat (first | exact leL_refl _ | refine leL_cons (by first | exact leT_refl _ | exact leT_sl | exact leT_sln | exact leT_nil) ?_)))) ?_)))
            ·refine guardK_F c17 ?_
             try simp -implicitDefEqProofs (maxSteps := 4000000) (disch := first | omega | decide | (simp only [go_sem]; omega)) only [go_sem, ↓reduceIte]
             repeat (with_reducible refine And.intro (by first | assumption | omega | (simp; done) | (simp; omega)) ?_)
             refine toEnd hC ?_
             refine endX_q (meetQ_normal ⟨F22_S3 a1 a2 x9 x6 false x7 x8 ((a1.getD x6.toNat default).1) ((a1.getD x6.toNat default).2.1) ((a1.getD x6.toNat default).2.2.1) ((a1.getD x6.toNat default).2.2.2), ?_, false, x7, x8, ((a1.getD x6.toNat default).1), ((a1.getD x6.toNat default).2.1), ((a1.getD x6.toNat default).2.2.1), ((a1.getD x6.toNat default).2.2.2), rfl, h⟩)
             simp only [F22_S3]
             (try simp -implicitDefEqProofs (maxSteps := 4000000) (disch := first | omega | decide | (simp only [go_sem]; omega)) only [go_sem, ↓reduceIte])
             first | exact leS_refl _ | (refine leS_le ?_ ?_ <;> first | exact leL_refl _ | exact leOs_refl _ | (simp only [List.append_assoc, List.cons_append, List.nil_append]; exact leOs_refl _) | (repeat (first | exact leL_refl _ | refine leL_cons (by first | exact leT_refl _ | exact leT_virt | exact leT_junk _ | exact leT_sl | exact leT_sln | exact leT_nil | (refine leT_agg (by repeat (first | exact leL_refl _ | refine leL_cons (by first | exact leT_refl _ | exact leT_sl | exact leT_sln | exact leT_nil) ?_)))) ?_)))
           ·refine guardK_F c16 ?_
            try simp -implicitDefEqProofs (maxSteps := 4000000) (disch := first | omega | decide | (simp only [go_sem]; omega)) only [go_sem, ↓reduceIte]
            repeat (with_reducible refine And.intro (by first | assumption | omega | (simp; done) | (simp; omega)) ?_)
            refine toEnd hC ?_
            refine endX_q (meetQ_normal ⟨F22_S3 a1 a2 x9 x6 false x7 x8 ((a1.getD x6.toNat default).1) ((a1.getD x6.toNat default).2.1) ((a1.getD x6.toNat default).2.2.1) ((a1.getD x6.toNat default).2.2.2), ?_, false, x7, x8, ((a1.getD x6.toNat default).1), ((a1.getD x6.toNat default).2.1), ((a1.getD x6.toNat default).2.2.1), ((a1.getD x6.toNat default).2.2.2), rfl, h⟩)
            simp only [F22_S3]
            (try simp -implicitDefEqProofs (maxSteps := 4000000) (disch := first | omega | decide | (simp only [go_sem]; omega)) only [go_sem, ↓reduceIte])
            first | exact leS_refl _ | (refine leS_le ?_ ?_ <;> first | exact leL_refl _ | exact leOs_refl _ | (simp only [List.append_assoc, List.cons_append, List.nil_append]; exact leOs_refl _) | (repeat (first | exact leL_refl _ | refine leL_cons (by first | exact leT_refl _ | exact leT_virt | exact leT_junk _ | exact leT_sl | exact leT_sln | exact leT_nil | (refine leT_agg (by repeat (first | exact leL_refl _ | refine leL_cons (by first | exact leT_refl _ | exact leT_sl | exact leT_sln | exact leT_nil) ?_)))) ?_)))
          ·clear h
           rintro S ⟨x20, x21, x22, x23, x24, x25, x26, rfl, h⟩
           rw [F22_J3] at h
           simp only [F22_S3]
           rcases iteB_some h with ⟨c27, h⟩ | ⟨c27, h⟩
           ·refine runX_condT rfl c27 ?_
            refine runX_regionC fun C hC => ?_
            try simp -implicitDefEqProofs (maxSteps := 4000000) (disch := first | omega | decide | (simp only [go_sem]; omega)) only [go_sem, ↓reduceIte]
            repeat (with_reducible refine And.intro (by first | assumption | omega | (simp; done) | (simp; omega)) ?_)
            refine bldG_of [.imm (.int .i64 (2 : Int)), .imm (.string (bs x23)), .imm (.int .i64 x24)] (by kernel_rfl) ?_
            try simp -implicitDefEqProofs (maxSteps := 4000000) (disch := first | omega | decide | (simp only [go_sem]; omega)) only [go_sem, ↓reduceIte]
            repeat (with_reducible refine And.intro (by first | assumption | omega | (simp; done) | (simp; omega)) ?_)
            refine bs_go <| buildX_val ?_
            obtain ⟨g28, h⟩ := grd_some h
            try simp -implicitDefEqProofs (maxSteps := 4000000) (disch := first | omega | decide | (simp only [go_sem]; omega)) only [go_sem, ↓reduceIte]
            repeat (with_reducible refine And.intro (by first | assumption | omega | (simp; done) | (simp; omega)) ?_)
            refine toEnd hC ?_
            refine endX_blk ?_
            refine endX_blk ?_
            refine endX_seq ?_
            refine runX_regionC fun C hC => ?_
            try simp -implicitDefEqProofs (maxSteps := 4000000) (disch := first | omega | decide | (simp only [go_sem]; omega)) only [go_sem, ↓reduceIte]
            repeat (with_reducible refine And.intro (by first | assumption | omega | (simp; done) | (simp; omega)) ?_)
            refine toEnd hC ?_
            refine endX_q (roundQ_normal ⟨m1, by omega, F22_S1 a1 a2 (IntKind.wrap .i64 (x6 + (1 : Int))) x21 x22 (x9 ++ [((2 : Int), x23, x24)]), ?_, (IntKind.wrap .i64 (x6 + (1 : Int))), x21, x22, (x9 ++ [((2 : Int), x23, x24)]), rfl, by omega, h⟩)
            simp only [F22_S1]
            (try simp -implicitDefEqProofs (maxSteps := 4000000) (disch := first | omega | decide | (simp only [go_sem]; omega)) only [go_sem, ↓reduceIte])
            first | exact leS_refl _ | (refine leS_le ?_ ?_ <;> first | exact leL_refl _ | exact leOs_refl _ | (simp only [List.append_assoc, List.cons_append, List.nil_append]; exact leOs_refl _) | (repeat (first | exact leL_refl _ | refine leL_cons (by first | exact leT_refl _ | exact leT_virt | exact leT_junk _ | exact leT_sl | exact leT_sln | exact leT_nil | (refine leT_agg (by repeat (first | exact leL_refl _ | refine leL_cons (by first | exact leT_refl _ | exact leT_sl | exact leT_sln | exact leT_nil) ?_)))) ?_)))
           ·refine runX_condF rfl c27 ?_
            refine runX_meet [1, 2, 4, 7, 9, 11, 32, 33, 34, 107] (fun S => ∃ (x32 : Bool) (x33 : List ((List UInt8) × (List UInt8) × (Bool) × (Int) × (Int) × (Int))) (x34 : Int) (x35 : List UInt8) (x36 : Int) (x37 : Bool) (x38 : Int), S = F22_S4 a1 a2 x9 x6 x32 x33 x34 x35 x36 x37 x38 ∧ F22_J4 m1 a1 a2 x9 x6 x32 x33 x34 x35 x36 x37 x38 = some r) ?_ ?_
            ·refine runX_regionC fun C hC => ?_
             try simp -implicitDefEqProofs (maxSteps := 4000000) (disch := first | omega | decide | (simp only [go_sem]; omega)) only [go_sem, ↓reduceIte]
             repeat (with_reducible refine And.intro (by first | assumption | omega | (simp; done) | (simp; omega)) ?_)
             rcases iteB_some h with ⟨c29, h⟩ | ⟨c29, h⟩
             ·refine guardK_T c29 ?_
              obtain ⟨g30, h⟩ := grd_some h
              obtain ⟨v31, h31, h⟩ := bnd_some h
              try simp -implicitDefEqProofs (maxSteps := 4000000) (disch := first | omega | decide | (simp only [go_sem]; omega)) only [go_sem, ↓reduceIte]
              repeat (with_reducible refine And.intro (by first | assumption | omega | (simp; done) | (simp; omega)) ?_)
              refine callR_X [0, 3, 1] (F50000043_ok m1 (a2.getD x6.toNat default) x21 (x23, x24, x25, x26) x22 _ h31) (by decide) (by (try simp -implicitDefEqProofs (maxSteps := 4000000) (disch := first | omega | decide | (simp only [go_sem]; omega)) only [go_sem, ↓reduceIte]); repeat (first | exact trivial | refine And.intro ?_ ?_ | exact fun _ => trivial | exact fun _ _ => trivial | exact fun _ _ h => h | rfl | decide)) (by (try simp -implicitDefEqProofs (maxSteps := 4000000) (disch := first | omega | decide | (simp only [go_sem]; omega)) only [go_sem, ↓reduceIte]); repeat (first | exact leL_refl _ | refine leL_cons (by first | exact leT_refl _ | exact leT_virt | exact leT_junk _ | exact leT_sl | exact leT_sln | exact leT_nil | (refine leT_agg (by repeat (first | exact leL_refl _ | refine leL_cons (by first | exact leT_refl _ | exact leT_sl | exact leT_sln | exact leT_nil) ?_)))) ?_)) ?_
              try simp -implicitDefEqProofs (maxSteps := 4000000) (disch := first | omega | decide | (simp only [go_sem]; omega)) only [go_sem, ↓reduceIte]
              repeat (with_reducible refine And.intro (by first | assumption | omega | (simp; done) | (simp; omega)) ?_)
              refine toEnd hC ?_
              refine endX_q (meetQ_normal ⟨F22_S4 a1 a2 x9 x6 v31.1 v31.2.1 v31.2.2.2 v31.2.2.1.1 v31.2.2.1.2.1 v31.2.2.1.2.2.1 v31.2.2.1.2.2.2, ?_, v31.1, v31.2.1, v31.2.2.2, v31.2.2.1.1, v31.2.2.1.2.1, v31.2.2.1.2.2.1, v31.2.2.1.2.2.2, rfl, h⟩)
              simp only [F22_S4]
              (try simp -implicitDefEqProofs (maxSteps := 4000000) (disch := first | omega | decide | (simp only [go_sem]; omega)) only [go_sem, ↓reduceIte])
              first | exact leS_refl _ | (refine leS_le ?_ ?_ <;> first | exact leL_refl _ | exact leOs_refl _ | (simp only [List.append_assoc, List.cons_append, List.nil_append]; exact leOs_refl _) | (repeat (first | exact leL_refl _ | refine leL_cons (by first | exact leT_refl _ | exact leT_virt | exact leT_junk _ | exact leT_sl | exact leT_sln | exact leT_nil | (refine leT_agg (by repeat (first | exact leL_refl _ | refine leL_cons (by first | exact leT_refl _ | exact leT_sl | exact leT_sln | exact leT_nil) ?_)))) ?_)))
             ·refine guardK_F c29 ?_
              try simp -implicitDefEqProofs (maxSteps := 4000000) (disch := first | omega | decide | (simp only [go_sem]; omega)) only [go_sem, ↓reduceIte]
              repeat (with_reducible refine And.intro (by first | assumption | omega | (simp; done) | (simp; omega)) ?_)
              refine toEnd hC ?_
              refine endX_q (meetQ_normal ⟨F22_S4 a1 a2 x9 x6 false x21 x22 x23 x24 x25 x26, ?_, false, x21, x22, x23, x24, x25, x26, rfl, h⟩)
              simp only [F22_S4]
              (try simp -implicitDefEqProofs (maxSteps := 4000000) (disch := first | omega | decide | (simp only [go_sem]; omega)) only [go_sem, ↓reduceIte])
              first | exact leS_refl _ | (refine leS_le ?_ ?_ <;> first | exact leL_refl _ | exact leOs_refl _ | (simp only [List.append_assoc, List.cons_append, List.nil_append]; exact leOs_refl _) | (repeat (first | exact leL_refl _ | refine leL_cons (by first | exact leT_refl _ | exact leT_virt | exact leT_junk _ | exact leT_sl | exact leT_sln | exact leT_nil | (refine leT_agg (by repeat (first | exact leL_refl _ | refine leL_cons (by first | exact leT_refl _ | exact leT_sl | exact leT_sln | exact leT_nil) ?_)))) ?_)))
            ·clear h
             rintro S ⟨x32, x33, x34, x35, x36, x37, x38, rfl, h⟩
             rw [F22_J4] at h
             simp only [F22_S4]
             rcases iteB_some h with ⟨c39, h⟩ | ⟨c39, h⟩
             ·refine runX_condT rfl c39 ?_
              refine runX_regionC fun C hC => ?_
              try simp -implicitDefEqProofs (maxSteps := 4000000) (disch := first | omega | decide | (simp only [go_sem]; omega)) only [go_sem, ↓reduceIte]
              repeat (with_reducible refine And.intro (by first | assumption | omega | (simp; done) | (simp; omega)) ?_)
              refine bldG_of [.imm (.int .i64 (1 : Int)), .imm (.string (bs x35)), .imm (.int .i64 x36)] (by kernel_rfl) ?_
              try simp -implicitDefEqProofs (maxSteps := 4000000) (disch := first | omega | decide | (simp only [go_sem]; omega)) only [go_sem, ↓reduceIte]
              repeat (with_reducible refine And.intro (by first | assumption | omega | (simp; done) | (simp; omega)) ?_)
              refine bs_go <| buildX_val ?_
              obtain ⟨g40, h⟩ := grd_some h
              try simp -implicitDefEqProofs (maxSteps := 4000000) (disch := first | omega | decide | (simp only [go_sem]; omega)) only [go_sem, ↓reduceIte]
              repeat (with_reducible refine And.intro (by first | assumption | omega | (simp; done) | (simp; omega)) ?_)
              refine toEnd hC ?_
              refine endX_blk ?_
              refine endX_blk ?_
              refine endX_seq ?_
              refine runX_regionC fun C hC => ?_
              try simp -implicitDefEqProofs (maxSteps := 4000000) (disch := first | omega | decide | (simp only [go_sem]; omega)) only [go_sem, ↓reduceIte]
              repeat (with_reducible refine And.intro (by first | assumption | omega | (simp; done) | (simp; omega)) ?_)
              refine toEnd hC ?_
              refine endX_q (roundQ_normal ⟨m1, by omega, F22_S1 a1 a2 (IntKind.wrap .i64 (x6 + (1 : Int))) x33 x34 (x9 ++ [((1 : Int), x35, x36)]), ?_, (IntKind.wrap .i64 (x6 + (1 : Int))), x33, x34, (x9 ++ [((1 : Int), x35, x36)]), rfl, by omega, h⟩)
              simp only [F22_S1]
              (try simp -implicitDefEqProofs (maxSteps := 4000000) (disch := first | omega | decide | (simp only [go_sem]; omega)) only [go_sem, ↓reduceIte])
              first | exact leS_refl _ | (refine leS_le ?_ ?_ <;> first | exact leL_refl _ | exact leOs_refl _ | (simp only [List.append_assoc, List.cons_append, List.nil_append]; exact leOs_refl _) | (repeat (first | exact leL_refl _ | refine leL_cons (by first | exact leT_refl _ | exact leT_virt | exact leT_junk _ | exact leT_sl | exact leT_sln | exact leT_nil | (refine leT_agg (by repeat (first | exact leL_refl _ | refine leL_cons (by first | exact leT_refl _ | exact leT_sl | exact leT_sln | exact leT_nil) ?_)))) ?_)))
             ·refine runX_condF rfl c39 ?_
              refine runX_skip ?_
              refine endX_blk ?_
              refine endX_blk ?_
              refine endX_seq ?_
              refine runX_regionC fun C hC => ?_
              try simp -implicitDefEqProofs (maxSteps := 4000000) (disch := first | omega | decide | (simp only [go_sem]; omega)) only [go_sem, ↓reduceIte]
              repeat (with_reducible refine And.intro (by first | assumption | omega | (simp; done) | (simp; omega)) ?_)
              refine toEnd hC ?_
              refine endX_q (roundQ_normal ⟨m1, by omega, F22_S1 a1 a2 (IntKind.wrap .i64 (x6 + (1 : Int))) x33 x34 x9, ?_, (IntKind.wrap .i64 (x6 + (1 : Int))), x33, x34, x9, rfl, by omega, h⟩)
              simp only [F22_S1]
              (try simp -implicitDefEqProofs (maxSteps := 4000000) (disch := first | omega | decide | (simp only [go_sem]; omega)) only [go_sem, ↓reduceIte])
              first | exact leS_refl _ | (refine leS_le ?_ ?_ <;> first | exact leL_refl _ | exact leOs_refl _ | (simp only [List.append_assoc, List.cons_append, List.nil_append]; exact leOs_refl _) | (repeat (first | exact leL_refl _ | refine leL_cons (by first | exact leT_refl _ | exact leT_virt | exact leT_junk _ | exact leT_sl | exact leT_sln | exact leT_nil | (refine leT_agg (by repeat (first | exact leL_refl _ | refine leL_cons (by first | exact leT_refl _ | exact leT_sl | exact leT_sln | exact leT_nil) ?_)))) ?_)))
        ·refine guardD_T c12 ?_
         obtain ⟨g41, h⟩ := grd_some h
         try simp -implicitDefEqProofs (maxSteps := 4000000) (disch := first | omega | decide | (simp only [go_sem]; omega)) only [go_sem, ↓reduceIte]
         repeat (with_reducible refine And.intro (by first | assumption | omega | (simp; done) | (simp; omega)) ?_)
         refine toEnd hC ?_
         refine endX_seq ?_
         refine runX_meet [1, 2, 4, 7, 9, 10, 11, 12, 13, 32, 33, 34] (fun S => ∃ (x45 : Bool), S = F22_S5 a1 a2 x9 x6 x7 x8 x45 ∧ F22_J5 m1 a1 a2 x9 x6 x7 x8 x45 = some r) ?_ ?_
         ·refine runX_drawC mixed (by kernel_rfl) fun C hC => ?_
          try simp -implicitDefEqProofs (maxSteps := 4000000) (disch := first | omega | decide | (simp only [go_sem]; omega)) only [go_sem, ↓reduceIte]
          repeat (with_reducible refine And.intro (by first | assumption | omega | (simp; done) | (simp; omega)) ?_)
          rcases iteB_some h with ⟨c42, h⟩ | ⟨c42, h⟩
          ·refine guardD_T c42 ?_
           try simp -implicitDefEqProofs (maxSteps := 4000000) (disch := first | omega | decide | (simp only [go_sem]; omega)) only [go_sem, ↓reduceIte]
           repeat (with_reducible refine And.intro (by first | assumption | omega | (simp; done) | (simp; omega)) ?_)
           rcases iteB_some h with ⟨c43, h⟩ | ⟨c43, h⟩
           ·refine guardD_F c43 ?_
            try simp -implicitDefEqProofs (maxSteps := 4000000) (disch := first | omega | decide | (simp only [go_sem]; omega)) only [go_sem, ↓reduceIte]
            repeat (with_reducible refine And.intro (by first | assumption | omega | (simp; done) | (simp; omega)) ?_)
            refine toEnd hC ?_
            refine endX_q (meetQ_normal ⟨F22_S5 a1 a2 x9 x6 x7 x8 true, ?_, true, rfl, h⟩)
            simp only [F22_S5]
            (try simp -implicitDefEqProofs (maxSteps := 4000000) (disch := first | omega | decide | (simp only [go_sem]; omega)) only [go_sem, ↓reduceIte])
            first | exact leS_refl _ | (refine leS_le ?_ ?_ <;> first | exact leL_refl _ | exact leOs_refl _ | (simp only [List.append_assoc, List.cons_append, List.nil_append]; exact leOs_refl _) | (repeat (first | exact leL_refl _ | refine leL_cons (by first | exact leT_refl _ | exact leT_virt | exact leT_junk _ | exact leT_sl | exact leT_sln | exact leT_nil | (refine leT_agg (by repeat (first | exact leL_refl _ | refine leL_cons (by first | exact leT_refl _ | exact leT_sl | exact leT_sln | exact leT_nil) ?_)))) ?_)))
           ·refine guardD_T c43 ?_
            obtain ⟨g44, h⟩ := grd_some h
            try simp -implicitDefEqProofs (maxSteps := 4000000) (disch := first | omega | decide | (simp only [go_sem]; omega)) only [go_sem, ↓reduceIte]
            repeat (with_reducible refine And.intro (by first | assumption | omega | (simp; done) | (simp; omega)) ?_)
            refine toEnd hC ?_
            refine endX_q (meetQ_normal ⟨F22_S5 a1 a2 x9 x6 x7 x8 (!(((a1.getD (IntKind.wrap .i64 (x6 + (1 : Int))).toNat default).1) == ((a1.getD x6.toNat default).1))), ?_, (!(((a1.getD (IntKind.wrap .i64 (x6 + (1 : Int))).toNat default).1) == ((a1.getD x6.toNat default).1))), rfl, h⟩)
            simp only [F22_S5]
            (try simp -implicitDefEqProofs (maxSteps := 4000000) (disch := first | omega | decide | (simp only [go_sem]; omega)) only [go_sem, ↓reduceIte])
            first | exact leS_refl _ | (refine leS_le ?_ ?_ <;> first | exact leL_refl _ | exact leOs_refl _ | (simp only [List.append_assoc, List.cons_append, List.nil_append]; exact leOs_refl _) | (repeat (first | exact leL_refl _ | refine leL_cons (by first | exact leT_refl _ | exact leT_virt | exact leT_junk _ | exact leT_sl | exact leT_sln | exact leT_nil | (refine leT_agg (by repeat (first | exact leL_refl _ | refine leL_cons (by first | exact leT_refl _ | exact leT_sl | exact leT_sln | exact leT_nil) ?_)))) ?_)))
          ·refine guardD_F c42 ?_
           try simp -implicitDefEqProofs (maxSteps := 4000000) (disch := first | omega | decide | (simp only [go_sem]; omega)) only [go_sem, ↓reduceIte]
           repeat (with_reducible refine And.intro (by first | assumption | omega | (simp; done) | (simp; omega)) ?_)
           refine toEnd hC ?_
           refine endX_q (meetQ_normal ⟨F22_S5 a1 a2 x9 x6 x7 x8 false, ?_, false, rfl, h⟩)
           simp only [F22_S5]
           (try simp -implicitDefEqProofs (maxSteps := 4000000) (disch := first | omega | decide | (simp only [go_sem]; omega)) only [go_sem, ↓reduceIte])
           first | exact leS_refl _ | (refine leS_le ?_ ?_ <;> first | exact leL_refl _ | exact leOs_refl _ | (simp only [List.append_assoc, List.cons_append, List.nil_append]; exact leOs_refl _) | (repeat (first | exact leL_refl _ | refine leL_cons (by first | exact leT_refl _ | exact leT_virt | exact leT_junk _ | exact leT_sl | exact leT_sln | exact leT_nil | (refine leT_agg (by repeat (first | exact leL_refl _ | refine leL_cons (by first | exact leT_refl _ | exact leT_sl | exact leT_sln | exact leT_nil) ?_)))) ?_)))
         ·clear h
          rintro S ⟨x45, rfl, h⟩
          rw [F22_J5] at h
          simp only [F22_S5]
          refine runX_seq ?_
          refine runX_regionC fun C hC => ?_
          try simp -implicitDefEqProofs (maxSteps := 4000000) (disch := first | omega | decide | (simp only [go_sem]; omega)) only [go_sem, ↓reduceIte]
          repeat (with_reducible refine And.intro (by first | assumption | omega | (simp; done) | (simp; omega)) ?_)
          refine toEnd hC ?_
          refine endX_seq ?_
          refine runX_seq ?_
          refine runX_regionC fun C hC => ?_
          try simp -implicitDefEqProofs (maxSteps := 4000000) (disch := first | omega | decide | (simp only [go_sem]; omega)) only [go_sem, ↓reduceIte]
          repeat (with_reducible refine And.intro (by first | assumption | omega | (simp; done) | (simp; omega)) ?_)
          refine toEnd hC ?_
          refine endX_seq ?_
          refine runX_seq ?_
          refine runX_regionC fun C hC => ?_
          try simp -implicitDefEqProofs (maxSteps := 4000000) (disch := first | omega | decide | (simp only [go_sem]; omega)) only [go_sem, ↓reduceIte]
          repeat (with_reducible refine And.intro (by first | assumption | omega | (simp; done) | (simp; omega)) ?_)
          refine toEnd hC ?_
          refine endX_seq ?_
          refine runX_block ?_
          refine runX_meet [1, 2, 4, 7, 9, 10, 11, 12, 14, 16, 32, 33, 34, 72] (fun S => ∃ (x58 : Bool) (x59 : List ((List UInt8) × (List UInt8) × (Bool) × (Int) × (Int) × (Int))) (x60 : Int) (x61 : List UInt8) (x62 : Int) (x63 : Bool) (x64 : Int), S = F22_S6 a1 a2 x9 x6 x58 x59 x60 x61 x62 x63 x64 ∧ F22_J6 m1 a1 a2 x9 x6 x58 x59 x60 x61 x62 x63 x64 = some r) ?_ ?_
          ·refine runX_seq ?_
           refine runX_regionC fun C hC => ?_
           try simp -implicitDefEqProofs (maxSteps := 4000000) (disch := first | omega | decide | (simp only [go_sem]; omega)) only [go_sem, ↓reduceIte]
           repeat (with_reducible refine And.intro (by first | assumption | omega | (simp; done) | (simp; omega)) ?_)
           rcases iteB_some h with ⟨c46, h⟩ | ⟨c46, h⟩
           ·refine guardK_T c46 ?_
            obtain ⟨g47, h⟩ := grd_some h
            obtain ⟨v48, h48, h⟩ := bnd_some h
            try simp -implicitDefEqProofs (maxSteps := 4000000) (disch := first | omega | decide | (simp only [go_sem]; omega)) only [go_sem, ↓reduceIte]
            repeat (with_reducible refine And.intro (by first | assumption | omega | (simp; done) | (simp; omega)) ?_)
            refine callR_X [0, 3, 1] (F49000043_ok m1 (a2.getD (IntKind.wrap .i64 (x6 - (1 : Int))).toNat default) x7 ((a1.getD x6.toNat default).1, (a1.getD x6.toNat default).2.1, (a1.getD x6.toNat default).2.2.1, (a1.getD x6.toNat default).2.2.2) x8 _ h48) (by decide) (by (try simp -implicitDefEqProofs (maxSteps := 4000000) (disch := first | omega | decide | (simp only [go_sem]; omega)) only [go_sem, ↓reduceIte]); repeat (first | exact trivial | refine And.intro ?_ ?_ | exact fun _ => trivial | exact fun _ _ => trivial | exact fun _ _ h => h | rfl | decide)) (by (try simp -implicitDefEqProofs (maxSteps := 4000000) (disch := first | omega | decide | (simp only [go_sem]; omega)) only [go_sem, ↓reduceIte]); repeat (first | exact leL_refl _ | refine leL_cons (by first | exact leT_refl _ | exact leT_virt | exact leT_junk _ | exact leT_sl | exact leT_sln | exact leT_nil | (refine leT_agg (by repeat (first | exact leL_refl _ | refine leL_cons (by first | exact leT_refl _ | exact leT_sl | exact leT_sln | exact leT_nil) ?_)))) ?_)) ?_
            try simp -implicitDefEqProofs (maxSteps := 4000000) (disch := first | omega | decide | (simp only [go_sem]; omega)) only [go_sem, ↓reduceIte]
            repeat (with_reducible refine And.intro (by first | assumption | omega | (simp; done) | (simp; omega)) ?_)
            refine toEnd hC ?_
            refine endX_seq ?_
            rcases iteB_some h with ⟨c49, h⟩ | ⟨c49, h⟩
            ·refine runX_condT rfl c49 ?_
             refine runX_skip ?_
             refine endX_q (meetQ_normal ⟨F22_S6 a1 a2 x9 x6 v48.1 v48.2.1 v48.2.2.2 v48.2.2.1.1 v48.2.2.1.2.1 v48.2.2.1.2.2.1 v48.2.2.1.2.2.2, ?_, v48.1, v48.2.1, v48.2.2.2, v48.2.2.1.1, v48.2.2.1.2.1, v48.2.2.1.2.2.1, v48.2.2.1.2.2.2, rfl, h⟩)
             simp only [F22_S6]
             (try simp -implicitDefEqProofs (maxSteps := 4000000) (disch := first | omega | decide | (simp only [go_sem]; omega)) only [go_sem, ↓reduceIte])
             first | exact leS_refl _ | (refine leS_le ?_ ?_ <;> first | exact leL_refl _ | exact leOs_refl _ | (simp only [List.append_assoc, List.cons_append, List.nil_append]; exact leOs_refl _) | (repeat (first | exact leL_refl _ | refine leL_cons (by first | exact leT_refl _ | exact leT_virt | exact leT_junk _ | exact leT_sl | exact leT_sln | exact leT_nil | (refine leT_agg (by repeat (first | exact leL_refl _ | refine leL_cons (by first | exact leT_refl _ | exact leT_sl | exact leT_sln | exact leT_nil) ?_)))) ?_)))
            ·refine runX_condF rfl c49 ?_
             refine runX_regionC fun C hC => ?_
             try simp -implicitDefEqProofs (maxSteps := 4000000) (disch := first | omega | decide | (simp only [go_sem]; omega)) only [go_sem, ↓reduceIte]
             repeat (with_reducible refine And.intro (by first | assumption | omega | (simp; done) | (simp; omega)) ?_)
             rcases iteB_some h with ⟨c50, h⟩ | ⟨c50, h⟩
             ·refine guardK_T c50 ?_
              try simp -implicitDefEqProofs (maxSteps := 4000000) (disch := first | omega | decide | (simp only [go_sem]; omega)) only [go_sem, ↓reduceIte]
              repeat (with_reducible refine And.intro (by first | assumption | omega | (simp; done) | (simp; omega)) ?_)
              rcases iteB_some h with ⟨c51, h⟩ | ⟨c51, h⟩
              ·refine guardK_T c51 ?_
               obtain ⟨g52, h⟩ := grd_some h
               obtain ⟨v53, h53, h⟩ := bnd_some h
               try simp -implicitDefEqProofs (maxSteps := 4000000) (disch := first | omega | decide | (simp only [go_sem]; omega)) only [go_sem, ↓reduceIte]
               repeat (with_reducible refine And.intro (by first | assumption | omega | (simp; done) | (simp; omega)) ?_)
               refine callR_X [0, 3, 1] (F50000043_ok m1 (a2.getD x6.toNat default) v48.2.1 (v48.2.2.1.1, v48.2.2.1.2.1, v48.2.2.1.2.2.1, v48.2.2.1.2.2.2) v48.2.2.2 _ h53) (by decide) (by (try simp -implicitDefEqProofs (maxSteps := 4000000) (disch := first | omega | decide | (simp only [go_sem]; omega)) only [go_sem, ↓reduceIte]); repeat (first | exact trivial | refine And.intro ?_ ?_ | exact fun _ => trivial | exact fun _ _ => trivial | exact fun _ _ h => h | rfl | decide)) (by (try simp -implicitDefEqProofs (maxSteps := 4000000) (disch := first | omega | decide | (simp only [go_sem]; omega)) only [go_sem, ↓reduceIte]); repeat (first | exact leL_refl _ | refine leL_cons (by first | exact leT_refl _ | exact leT_virt | exact leT_junk _ | exact leT_sl | exact leT_sln | exact leT_nil | (refine leT_agg (by repeat (first | exact leL_refl _ | refine leL_cons (by first | exact leT_refl _ | exact leT_sl | exact leT_sln | exact leT_nil) ?_)))) ?_)) ?_
               try simp -implicitDefEqProofs (maxSteps := 4000000) (disch := first | omega | decide | (simp only [go_sem]; omega)) only [go_sem, ↓reduceIte]
               repeat (with_reducible refine And.intro (by first | assumption | omega | (simp; done) | (simp; omega)) ?_)
               refine toEnd hC ?_
               refine endX_q (meetQ_normal ⟨F22_S6 a1 a2 x9 x6 v53.1 v53.2.1 v53.2.2.2 v53.2.2.1.1 v53.2.2.1.2.1 v53.2.2.1.2.2.1 v53.2.2.1.2.2.2, ?_, v53.1, v53.2.1, v53.2.2.2, v53.2.2.1.1, v53.2.2.1.2.1, v53.2.2.1.2.2.1, v53.2.2.1.2.2.2, rfl, h⟩)
               simp only [F22_S6]
               (try simp -implicitDefEqProofs (maxSteps := 4000000) (disch := first | omega | decide | (simp only [go_sem]; omega)) only [go_sem, ↓reduceIte])
               first | exact leS_refl _ | (refine leS_le ?_ ?_ <;> first | exact leL_refl _ | exact leOs_refl _ | (simp only [List.append_assoc, List.cons_append, List.nil_append]; exact leOs_refl _) | (repeat (first | exact leL_refl _ | refine leL_cons (by first | exact leT_refl _ | exact leT_virt | exact leT_junk _ | exact leT_sl | exact leT_sln | exact leT_nil | (refine leT_agg (by repeat (first | exact leL_refl _ | refine leL_cons (by first | exact leT_refl _ | exact leT_sl | exact leT_sln | exact leT_nil) ?_)))) ?_)))
              ·refine guardK_F c51 ?_
               try simp -implicitDefEqProofs (maxSteps := 4000000) (disch := first | omega | decide | (simp only [go_sem]; omega)) only [go_sem, ↓reduceIte]
               repeat (with_reducible refine And.intro (by first | assumption | omega | (simp; done) | (simp; omega)) ?_)
               refine toEnd hC ?_
               refine endX_q (meetQ_normal ⟨F22_S6 a1 a2 x9 x6 false v48.2.1 v48.2.2.2 v48.2.2.1.1 v48.2.2.1.2.1 v48.2.2.1.2.2.1 v48.2.2.1.2.2.2, ?_, false, v48.2.1, v48.2.2.2, v48.2.2.1.1, v48.2.2.1.2.1, v48.2.2.1.2.2.1, v48.2.2.1.2.2.2, rfl, h⟩)
               simp only [F22_S6]
               (try simp -implicitDefEqProofs (maxSteps := 4000000) (disch := first | omega | decide | (simp only [go_sem]; omega)) only [go_sem, ↓reduceIte])
               first | exact leS_refl _ | (refine leS_le ?_ ?_ <;> first | exact leL_refl _ | exact leOs_refl _ | (simp only [List.append_assoc, List.cons_append, List.nil_append]; exact leOs_refl _) | (repeat (first | exact leL_refl _ | refine leL_cons (by first | exact leT_refl _ | exact leT_virt | exact leT_junk _ | exact leT_sl | exact leT_sln | exact leT_nil | (refine leT_agg (by repeat (first | exact leL_refl _ | refine leL_cons (by first | exact leT_refl _ | exact leT_sl | exact leT_sln | exact leT_nil) ?_)))) ?_)))
             ·refine guardK_F c50 ?_
              try simp -implicitDefEqProofs (maxSteps := 4000000) (disch := first | omega | decide | (simp only [go_sem]; omega)) only [go_sem, ↓reduceIte]
              repeat (with_reducible refine And.intro (by first | assumption | omega | (simp; done) | (simp; omega)) ?_)
              refine toEnd hC ?_
              refine endX_q (meetQ_normal ⟨F22_S6 a1 a2 x9 x6 false v48.2.1 v48.2.2.2 v48.2.2.1.1 v48.2.2.1.2.1 v48.2.2.1.2.2.1 v48.2.2.1.2.2.2, ?_, false, v48.2.1, v48.2.2.2, v48.2.2.1.1, v48.2.2.1.2.1, v48.2.2.1.2.2.1, v48.2.2.1.2.2.2, rfl, h⟩)
              simp only [F22_S6]
              (try simp -implicitDefEqProofs (maxSteps := 4000000) (disch := first | omega | decide | (simp only [go_sem]; omega)) only [go_sem, ↓reduceIte])
              first | exact leS_refl _ | (refine leS_le ?_ ?_ <;> first | exact leL_refl _ | exact leOs_refl _ | (simp only [List.append_assoc, List.cons_append, List.nil_append]; exact leOs_refl _) | (repeat (first | exact leL_refl _ | refine leL_cons (by first | exact leT_refl _ | exact leT_virt | exact leT_junk _ | exact leT_sl | exact leT_sln | exact leT_nil | (refine leT_agg (by repeat (first | exact leL_refl _ | refine leL_cons (by first | exact leT_refl _ | exact leT_sl | exact leT_sln | exact leT_nil) ?_)))) ?_)))
           ·refine guardK_F c46 ?_
            try simp -implicitDefEqProofs (maxSteps := 4000000) (disch := first | omega | decide | (simp only [go_sem]; omega)) only [go_sem, ↓reduceIte]
            repeat (with_reducible refine And.intro (by first | assumption | omega | (simp; done) | (simp; omega)) ?_)
            refine toEnd hC ?_
            refine endX_seq ?_
            refine runX_condF rfl rfl ?_
            refine runX_regionC fun C hC => ?_
            try simp -implicitDefEqProofs (maxSteps := 4000000) (disch := first | omega | decide | (simp only [go_sem]; omega)) only [go_sem, ↓reduceIte]
            repeat (with_reducible refine And.intro (by first | assumption | omega | (simp; done) | (simp; omega)) ?_)
            rcases iteB_some h with ⟨c54, h⟩ | ⟨c54, h⟩
            ·refine guardK_T c54 ?_
             try simp -implicitDefEqProofs (maxSteps := 4000000) (disch := first | omega | decide | (simp only [go_sem]; omega)) only [go_sem, ↓reduceIte]
             repeat (with_reducible refine And.intro (by first | assumption | omega | (simp; done) | (simp; omega)) ?_)
             rcases iteB_some h with ⟨c55, h⟩ | ⟨c55, h⟩
             ·refine guardK_T c55 ?_
              obtain ⟨g56, h⟩ := grd_some h
              obtain ⟨v57, h57, h⟩ := bnd_some h
              try simp -implicitDefEqProofs (maxSteps := 4000000) (disch := first | omega | decide | (simp only [go_sem]; omega)) only [go_sem, ↓reduceIte]
              repeat (with_reducible refine And.intro (by first | assumption | omega | (simp; done) | (simp; omega)) ?_)
              refine callR_X [0, 3, 1] (F50000043_ok m1 (a2.getD x6.toNat default) x7 ((a1.getD x6.toNat default).1, (a1.getD x6.toNat default).2.1, (a1.getD x6.toNat default).2.2.1, (a1.getD x6.toNat default).2.2.2) x8 _ h57) (by decide) (by (try simp -implicitDefEqProofs (maxSteps := 4000000) (disch := first | omega | decide | (simp only [go_sem]; omega)) only [go_sem, ↓reduceIte]); repeat (first | exact trivial | refine And.intro ?_ ?_ | exact fun _ => trivial | exact fun _ _ => trivial | exact fun _ _ h => h | rfl | decide)) (by (try simp -implicitDefEqProofs (maxSteps := 4000000) (disch := first | omega | decide | (simp only [go_sem]; omega)) only [go_sem, ↓reduceIte]); repeat (first | exact leL_refl _ | refine leL_cons (by first | exact leT_refl _ | exact leT_virt | exact leT_junk _ | exact leT_sl | exact leT_sln | exact leT_nil | (refine leT_agg (by repeat (first | exact leL_refl _ | refine leL_cons (by first | exact leT_refl _ | exact leT_sl | exact leT_sln | exact leT_nil) ?_)))) ?_)) ?_
              try simp -implicitDefEqProofs (maxSteps := 4000000) (disch := first | omega | decide | (simp only [go_sem]; omega)) only [go_sem, ↓reduceIte]
              repeat (with_reducible refine And.intro (by first | assumption | omega | (simp; done) | (simp; omega)) ?_)
              refine toEnd hC ?_
              refine endX_q (meetQ_normal ⟨F22_S6 a1 a2 x9 x6 v57.1 v57.2.1 v57.2.2.2 v57.2.2.1.1 v57.2.2.1.2.1 v57.2.2.1.2.2.1 v57.2.2.1.2.2.2, ?_, v57.1, v57.2.1, v57.2.2.2, v57.2.2.1.1, v57.2.2.1.2.1, v57.2.2.1.2.2.1, v57.2.2.1.2.2.2, rfl, h⟩)
              simp only [F22_S6]
              (try simp -implicitDefEqProofs (maxSteps := 4000000) (disch := first | omega | decide | (simp only [go_sem]; omega)) only [go_sem, ↓reduceIte])
              first | exact leS_refl _ | (refine leS_le ?_ ?_ <;> first | exact leL_refl _ | exact leOs_refl _ | (simp only [List.append_assoc, List.cons_append, List.nil_append]; exact leOs_refl _) | (repeat (first | exact leL_refl _ | refine leL_cons (by first | exact leT_refl _ | exact leT_virt | exact leT_junk _ | exact leT_sl | exact leT_sln | exact leT_nil | (refine leT_agg (by repeat (first | exact leL_refl _ | refine leL_cons (by first | exact leT_refl _ | exact leT_sl | exact leT_sln | exact leT_nil) ?_)))) ?_)))
             ·refine guardK_F c55 ?_
              try simp -implicitDefEqProofs (maxSteps := 4000000) (disch := first | omega | decide | (simp only [go_sem]; omega)) only [go_sem, ↓reduceIte]
              repeat (with_reducible refine And.intro (by first | assumption | omega | (simp; done) | (simp; omega)) ?_)
              refine toEnd hC ?_
              refine endX_q (meetQ_normal ⟨F22_S6 a1 a2 x9 x6 false x7 x8 ((a1.getD x6.toNat default).1) ((a1.getD x6.toNat default).2.1) ((a1.getD x6.toNat default).2.2.1) ((a1.getD x6.toNat default).2.2.2), ?_, false, x7, x8, ((a1.getD x6.toNat default).1), ((a1.getD x6.toNat default).2.1), ((a1.getD x6.toNat default).2.2.1), ((a1.getD x6.toNat default).2.2.2), rfl, h⟩)
              simp only [F22_S6]
              (try simp -implicitDefEqProofs (maxSteps := 4000000) (disch := first | omega | decide | (simp only [go_sem]; omega)) only [go_sem, ↓reduceIte])
              first | exact leS_refl _ | (refine leS_le ?_ ?_ <;> first | exact leL_refl _ | exact leOs_refl _ | (simp only [List.append_assoc, List.cons_append, List.nil_append]; exact leOs_refl _) | (repeat (first | exact leL_refl _ | refine leL_cons (by first | exact leT_refl _ | exact leT_virt | exact leT_junk _ | exact leT_sl | exact leT_sln | exact leT_nil | (refine leT_agg (by repeat (first | exact leL_refl _ | refine leL_cons (by first | exact leT_refl _ | exact leT_sl | exact leT_sln | exact leT_nil) ?_)))) ?_)))
            ·refine guardK_F c54 ?_
             try simp -implicitDefEqProofs (maxSteps := 4000000) (disch := first | omega | decide | (simp only [go_sem]; omega)) only [go_sem, ↓reduceIte]
             repeat (with_reducible refine And.intro (by first | assumption | omega | (simp; done) | (simp; omega)) ?_)
             refine toEnd hC ?_
             refine endX_q (meetQ_normal ⟨F22_S6 a1 a2 x9 x6 false x7 x8 ((a1.getD x6.toNat default).1) ((a1.getD x6.toNat default).2.1) ((a1.getD x6.toNat default).2.2.1) ((a1.getD x6.toNat default).2.2.2), ?_, false, x7, x8, ((a1.getD x6.toNat default).1), ((a1.getD x6.toNat default).2.1), ((a1.getD x6.toNat default).2.2.1), ((a1.getD x6.toNat default).2.2.2), rfl, h⟩)
             simp only [F22_S6]
             (try simp -implicitDefEqProofs (maxSteps := 4000000) (disch := first | omega | decide | (simp only [go_sem]; omega)) only [go_sem, ↓reduceIte])
             first | exact leS_refl _ | (refine leS_le ?_ ?_ <;> first | exact leL_refl _ | exact leOs_refl _ | (simp only [List.append_assoc, List.cons_append, List.nil_append]; exact leOs_refl _) | (repeat (first | exact leL_refl _ | refine leL_cons (by first | exact leT_refl _ | exact leT_virt | exact leT_junk _ | exact leT_sl | exact leT_sln | exact leT_nil | (refine leT_agg (by repeat (first | exact leL_refl _ | refine leL_cons (by first | exact leT_refl _ | exact leT_sl | exact leT_sln | exact leT_nil) ?_)))) ?_)))
          ·clear h
           rintro S ⟨x58, x59, x60, x61, x62, x63, x64, rfl, h⟩
           rw [F22_J6] at h
           simp only [F22_S6]
           rcases iteB_some h with ⟨c65, h⟩ | ⟨c65, h⟩
           ·refine runX_condT rfl c65 ?_
            refine runX_regionC fun C hC => ?_
            try simp -implicitDefEqProofs (maxSteps := 4000000) (disch := first | omega | decide | (simp only [go_sem]; omega)) only [go_sem, ↓reduceIte]
            repeat (with_reducible refine And.intro (by first | assumption | omega | (simp; done) | (simp; omega)) ?_)
            refine bldG_of [.imm (.int .i64 (2 : Int)), .imm (.string (bs x61)), .imm (.int .i64 x62)] (by kernel_rfl) ?_
            try simp -implicitDefEqProofs (maxSteps := 4000000) (disch := first | omega | decide | (simp only [go_sem]; omega)) only [go_sem, ↓reduceIte]
            repeat (with_reducible refine And.intro (by first | assumption | omega | (simp; done) | (simp; omega)) ?_)
            refine bs_go <| buildX_val ?_
            obtain ⟨g66, h⟩ := grd_some h
            try simp -implicitDefEqProofs (maxSteps := 4000000) (disch := first | omega | decide | (simp only [go_sem]; omega)) only [go_sem, ↓reduceIte]
            repeat (with_reducible refine And.intro (by first | assumption | omega | (simp; done) | (simp; omega)) ?_)
            refine toEnd hC ?_
            refine endX_blk ?_
            refine endX_blk ?_
            refine endX_seq ?_
            refine runX_regionC fun C hC => ?_
            try simp -implicitDefEqProofs (maxSteps := 4000000) (disch := first | omega | decide | (simp only [go_sem]; omega)) only [go_sem, ↓reduceIte]
            repeat (with_reducible refine And.intro (by first | assumption | omega | (simp; done) | (simp; omega)) ?_)
            refine toEnd hC ?_
            refine endX_q (roundQ_normal ⟨m1, by omega, F22_S1 a1 a2 (IntKind.wrap .i64 (x6 + (1 : Int))) x59 x60 (x9 ++ [((2 : Int), x61, x62)]), ?_, (IntKind.wrap .i64 (x6 + (1 : Int))), x59, x60, (x9 ++ [((2 : Int), x61, x62)]), rfl, by omega, h⟩)
            simp only [F22_S1]
            (try simp -implicitDefEqProofs (maxSteps := 4000000) (disch := first | omega | decide | (simp only [go_sem]; omega)) only [go_sem, ↓reduceIte])
            first | exact leS_refl _ | (refine leS_le ?_ ?_ <;> first | exact leL_refl _ | exact leOs_refl _ | (simp only [List.append_assoc, List.cons_append, List.nil_append]; exact leOs_refl _) | (repeat (first | exact leL_refl _ | refine leL_cons (by first | exact leT_refl _ | exact leT_virt | exact leT_junk _ | exact leT_sl | exact leT_sln | exact leT_nil | (refine leT_agg (by repeat (first | exact leL_refl _ | refine leL_cons (by first | exact leT_refl _ | exact leT_sl | exact leT_sln | exact leT_nil) ?_)))) ?_)))
           ·refine runX_condF rfl c65 ?_
            refine runX_meet [1, 2, 4, 7, 9, 11, 32, 33, 34, 107] (fun S => ∃ (x71 : Bool) (x72 : List ((List UInt8) × (List UInt8) × (Bool) × (Int) × (Int) × (Int))) (x73 : Int) (x74 : List UInt8) (x75 : Int) (x76 : Bool) (x77 : Int), S = F22_S7 a1 a2 x9 x6 x71 x72 x73 x74 x75 x76 x77 ∧ F22_J7 m1 a1 a2 x9 x6 x71 x72 x73 x74 x75 x76 x77 = some r) ?_ ?_
            ·refine runX_regionC fun C hC => ?_
             try simp -implicitDefEqProofs (maxSteps := 4000000) (disch := first | omega | decide | (simp only [go_sem]; omega)) only [go_sem, ↓reduceIte]
             repeat (with_reducible refine And.intro (by first | assumption | omega | (simp; done) | (simp; omega)) ?_)
             rcases iteB_some h with ⟨c67, h⟩ | ⟨c67, h⟩
             ·refine guardK_T c67 ?_
              try simp -implicitDefEqProofs (maxSteps := 4000000) (disch := first | omega | decide | (simp only [go_sem]; omega)) only [go_sem, ↓reduceIte]
              repeat (with_reducible refine And.intro (by first | assumption | omega | (simp; done) | (simp; omega)) ?_)
              rcases iteB_some h with ⟨c68, h⟩ | ⟨c68, h⟩
              ·refine guardK_T c68 ?_
               obtain ⟨g69, h⟩ := grd_some h
               obtain ⟨v70, h70, h⟩ := bnd_some h
               try simp -implicitDefEqProofs (maxSteps := 4000000) (disch := first | omega | decide | (simp only [go_sem]; omega)) only [go_sem, ↓reduceIte]
               repeat (with_reducible refine And.intro (by first | assumption | omega | (simp; done) | (simp; omega)) ?_)
               refine callR_X [0, 3, 1] (F50000043_ok m1 (a2.getD x6.toNat default) x59 (x61, x62, x63, x64) x60 _ h70) (by decide) (by (try simp -implicitDefEqProofs (maxSteps := 4000000) (disch := first | omega | decide | (simp only [go_sem]; omega)) only [go_sem, ↓reduceIte]); repeat (first | exact trivial | refine And.intro ?_ ?_ | exact fun _ => trivial | exact fun _ _ => trivial | exact fun _ _ h => h | rfl | decide)) (by (try simp -implicitDefEqProofs (maxSteps := 4000000) (disch := first | omega | decide | (simp only [go_sem]; omega)) only [go_sem, ↓reduceIte]); repeat (first | exact leL_refl _ | refine leL_cons (by first | exact leT_refl _ | exact leT_virt | exact leT_junk _ | exact leT_sl | exact leT_sln | exact leT_nil | (refine leT_agg (by repeat (first | exact leL_refl _ | refine leL_cons (by first | exact leT_refl _ | exact leT_sl | exact leT_sln | exact leT_nil) ?_)))) ?_)) ?_
               try simp -implicitDefEqProofs (maxSteps := 4000000) (disch := first | omega | decide | (simp only [go_sem]; omega)) only [go_sem, ↓reduceIte]
               repeat (with_reducible refine And.intro (by first | assumption | omega | (simp; done) | (simp; omega)) ?_)
               refine toEnd hC ?_
               refine endX_q (meetQ_normal ⟨F22_S7 a1 a2 x9 x6 v70.1 v70.2.1 v70.2.2.2 v70.2.2.1.1 v70.2.2.1.2.1 v70.2.2.1.2.2.1 v70.2.2.1.2.2.2, ?_, v70.1, v70.2.1, v70.2.2.2, v70.2.2.1.1, v70.2.2.1.2.1, v70.2.2.1.2.2.1, v70.2.2.1.2.2.2, rfl, h⟩)
               simp only [F22_S7]
               (try simp -implicitDefEqProofs (maxSteps := 4000000) (disch := first | omega | decide | (simp only [go_sem]; omega)) only [go_sem, ↓reduceIte])
               first | exact leS_refl _ | (refine leS_le ?_ ?_ <;> first | exact leL_refl _ | exact leOs_refl _ | (simp only [List.append_assoc, List.cons_append, List.nil_append]; exact leOs_refl _) | (repeat (first | exact leL_refl _ | refine leL_cons (by first | exact leT_refl _ | exact leT_virt | exact leT_junk _ | exact leT_sl | exact leT_sln | exact leT_nil | (refine leT_agg (by repeat (first | exact leL_refl _ | refine leL_cons (by first | exact leT_refl _ | exact leT_sl | exact leT_sln | exact leT_nil) ?_)))) ?_)))
              ·refine guardK_F c68 ?_
               try simp -implicitDefEqProofs (maxSteps := 4000000) (disch := first | omega | decide | (simp only [go_sem]; omega)) only [go_sem, ↓reduceIte]
               repeat (with_reducible refine And.intro (by first | assumption | omega | (simp; done) | (simp; omega)) ?_)
               refine toEnd hC ?_
               refine endX_q (meetQ_normal ⟨F22_S7 a1 a2 x9 x6 false x59 x60 x61 x62 x63 x64, ?_, false, x59, x60, x61, x62, x63, x64, rfl, h⟩)
               simp only [F22_S7]
               (try simp -implicitDefEqProofs (maxSteps := 4000000) (disch := first | omega | decide | (simp only [go_sem]; omega)) only [go_sem, ↓reduceIte])
               first | exact leS_refl _ | (refine leS_le ?_ ?_ <;> first | exact leL_refl _ | exact leOs_refl _ | (simp only [List.append_assoc, List.cons_append, List.nil_append]; exact leOs_refl _) | (repeat (first | exact leL_refl _ | refine leL_cons (by first | exact leT_refl _ | exact leT_virt | exact leT_junk _ | exact leT_sl | exact leT_sln | exact leT_nil | (refine leT_agg (by repeat (first | exact leL_refl _ | refine leL_cons (by first | exact leT_refl _ | exact leT_sl | exact leT_sln | exact leT_nil) ?_)))) ?_)))
             ·refine guardK_F c67 ?_
              try simp -implicitDefEqProofs (maxSteps := 4000000) (disch := first | omega | decide | (simp only [go_sem]; omega)) only [go_sem, ↓reduceIte]
              repeat (with_reducible refine And.intro (by first | assumption | omega | (simp; done) | (simp; omega)) ?_)
              refine toEnd hC ?_
              refine endX_q (meetQ_normal ⟨F22_S7 a1 a2 x9 x6 false x59 x60 x61 x62 x63 x64, ?_, false, x59, x60, x61, x62, x63, x64, rfl, h⟩)
              simp only [F22_S7]
              (try simp -implicitDefEqProofs (maxSteps := 4000000) (disch := first | omega | decide | (simp only [go_sem]; omega)) only [go_sem, ↓reduceIte])
              first | exact leS_refl _ | (refine leS_le ?_ ?_ <;> first | exact leL_refl _ | exact leOs_refl _ | (simp only [List.append_assoc, List.cons_append, List.nil_append]; exact leOs_refl _) | (repeat (first | exact leL_refl _ | refine leL_cons (by first | exact leT_refl _ | exact leT_virt | exact leT_junk _ | exact leT_sl | exact leT_sln | exact leT_nil | (refine leT_agg (by repeat (first | exact leL_refl _ | refine leL_cons (by first | exact leT_refl _ | exact leT_sl | exact leT_sln | exact leT_nil) ?_)))) ?_)))
            ·clear h
             rintro S ⟨x71, x72, x73, x74, x75, x76, x77, rfl, h⟩
             rw [F22_J7] at h
             simp only [F22_S7]
             rcases iteB_some h with ⟨c78, h⟩ | ⟨c78, h⟩
             ·refine runX_condT rfl c78 ?_
              refine runX_regionC fun C hC => ?_
              try simp -implicitDefEqProofs (maxSteps := 4000000) (disch := first | omega | decide | (simp only [go_sem]; omega)) only [go_sem, ↓reduceIte]
              repeat (with_reducible refine And.intro (by first | assumption | omega | (simp; done) | (simp; omega)) ?_)
              refine bldG_of [.imm (.int .i64 (1 : Int)), .imm (.string (bs x74)), .imm (.int .i64 x75)] (by kernel_rfl) ?_
              try simp -implicitDefEqProofs (maxSteps := 4000000) (disch := first | omega | decide | (simp only [go_sem]; omega)) only [go_sem, ↓reduceIte]
              repeat (with_reducible refine And.intro (by first | assumption | omega | (simp; done) | (simp; omega)) ?_)
              refine bs_go <| buildX_val ?_
              obtain ⟨g79, h⟩ := grd_some h
              try simp -implicitDefEqProofs (maxSteps := 4000000) (disch := first | omega | decide | (simp only [go_sem]; omega)) only [go_sem, ↓reduceIte]
              repeat (with_reducible refine And.intro (by first | assumption | omega | (simp; done) | (simp; omega)) ?_)
              refine toEnd hC ?_
              refine endX_blk ?_
              refine endX_blk ?_
              refine endX_seq ?_
              refine runX_regionC fun C hC => ?_
              try simp -implicitDefEqProofs (maxSteps := 4000000) (disch := first | omega | decide | (simp only [go_sem]; omega)) only [go_sem, ↓reduceIte]
              repeat (with_reducible refine And.intro (by first | assumption | omega | (simp; done) | (simp; omega)) ?_)
              refine toEnd hC ?_
              refine endX_q (roundQ_normal ⟨m1, by omega, F22_S1 a1 a2 (IntKind.wrap .i64 (x6 + (1 : Int))) x72 x73 (x9 ++ [((1 : Int), x74, x75)]), ?_, (IntKind.wrap .i64 (x6 + (1 : Int))), x72, x73, (x9 ++ [((1 : Int), x74, x75)]), rfl, by omega, h⟩)
              simp only [F22_S1]
              (try simp -implicitDefEqProofs (maxSteps := 4000000) (disch := first | omega | decide | (simp only [go_sem]; omega)) only [go_sem, ↓reduceIte])
              first | exact leS_refl _ | (refine leS_le ?_ ?_ <;> first | exact leL_refl _ | exact leOs_refl _ | (simp only [List.append_assoc, List.cons_append, List.nil_append]; exact leOs_refl _) | (repeat (first | exact leL_refl _ | refine leL_cons (by first | exact leT_refl _ | exact leT_virt | exact leT_junk _ | exact leT_sl | exact leT_sln | exact leT_nil | (refine leT_agg (by repeat (first | exact leL_refl _ | refine leL_cons (by first | exact leT_refl _ | exact leT_sl | exact leT_sln | exact leT_nil) ?_)))) ?_)))
             ·refine runX_condF rfl c78 ?_
              refine runX_skip ?_
              refine endX_blk ?_
              refine endX_blk ?_
              refine endX_seq ?_
              refine runX_regionC fun C hC => ?_
              try simp -implicitDefEqProofs (maxSteps := 4000000) (disch := first | omega | decide | (simp only [go_sem]; omega)) only [go_sem, ↓reduceIte]
              repeat (with_reducible refine And.intro (by first | assumption | omega | (simp; done) | (simp; omega)) ?_)
              refine toEnd hC ?_
              refine endX_q (roundQ_normal ⟨m1, by omega, F22_S1 a1 a2 (IntKind.wrap .i64 (x6 + (1 : Int))) x72 x73 x9, ?_, (IntKind.wrap .i64 (x6 + (1 : Int))), x72, x73, x9, rfl, by omega, h⟩)
              simp only [F22_S1]
              (try simp -implicitDefEqProofs (maxSteps := 4000000) (disch := first | omega | decide | (simp only [go_sem]; omega)) only [go_sem, ↓reduceIte])
              first | exact leS_refl _ | (refine leS_le ?_ ?_ <;> first | exact leL_refl _ | exact leOs_refl _ | (simp only [List.append_assoc, List.cons_append, List.nil_append]; exact leOs_refl _) | (repeat (first | exact leL_refl _ | refine leL_cons (by first | exact leT_refl _ | exact leT_virt | exact leT_junk _ | exact leT_sl | exact leT_sln | exact leT_nil | (refine leT_agg (by repeat (first | exact leL_refl _ | refine leL_cons (by first | exact leT_refl _ | exact leT_sl | exact leT_sln | exact leT_nil) ?_)))) ?_)))
       ·refine runX_condF rfl c10 ?_
        refine runX_exit ?_
        refine endX_seqE ?_
        refine endX_q (roundQ_exit ?_)
        refine endX_blkE ?_
        refine endX_seq ?_
        refine runX_seq ?_
        refine runX_regionC fun C hC => ?_
        try simp -implicitDefEqProofs (maxSteps := 4000000) (disch := first | omega | decide | (simp only [go_sem]; omega)) only [go_sem, ↓reduceIte]
        repeat (with_reducible refine And.intro (by first | assumption | omega | (simp; done) | (simp; omega)) ?_)
        refine toEnd hC ?_
        refine endX_seq ?_
        refine runX_ret ?_
        refine endX_q ?_
        obtain rfl := Option.some.inj h
        show RetW _ _ _ _ _
        simp only [RetW]
        (try simp -implicitDefEqProofs (maxSteps := 4000000) (disch := first | omega | decide | (simp only [go_sem]; omega)) only [go_sem, ↓reduceIte])
        (try simp (disch := omega) only [if_pos, Nat.sub_zero])
        first | exact leT_refl _ | (refine ⟨rfl, ?_⟩; first | exact leT_refl _ | exact leT_sl | exact leT_sln | exact leT_nil | (refine leT_tup (by repeat (first | exact leL_refl _ | refine leL_cons (by first | exact leT_refl _ | exact leT_virt | exact leT_junk _ | exact leT_sl | exact leT_sln | exact leT_nil | (refine leT_agg (by repeat (first | exact leL_refl _ | refine leL_cons (by first | exact leT_refl _ | exact leT_sl | exact leT_sln | exact leT_nil) ?_)))) ?_))) | (refine leT_agg (by repeat (first | exact leL_refl _ | refine leL_cons (by first | exact leT_refl _ | exact leT_virt | exact leT_junk _ | exact leT_sl | exact leT_sln | exact leT_nil | (refine leT_agg (by repeat (first | exact leL_refl _ | refine leL_cons (by first | exact leT_refl _ | exact leT_sl | exact leT_sln | exact leT_nil) ?_)))) ?_)))) | (first | exact leT_refl _ | exact leT_sl | exact leT_sln | exact leT_nil | (refine leT_tup (by repeat (first | exact leL_refl _ | refine leL_cons (by first | exact leT_refl _ | exact leT_virt | exact leT_junk _ | exact leT_sl | exact leT_sln | exact leT_nil | (refine leT_agg (by repeat (first | exact leL_refl _ | refine leL_cons (by first | exact leT_refl _ | exact leT_sl | exact leT_sln | exact leT_nil) ?_)))) ?_))) | (refine leT_agg (by repeat (first | exact leL_refl _ | refine leL_cons (by first | exact leT_refl _ | exact leT_virt | exact leT_junk _ | exact leT_sl | exact leT_sln | exact leT_nil | (refine leT_agg (by repeat (first | exact leL_refl _ | refine leL_cons (by first | exact leT_refl _ | exact leT_sl | exact leT_sln | exact leT_nil) ?_)))) ?_)))) | (simp only [List.append_assoc, List.cons_append, List.nil_append]; exact leT_refl _) | (rw [List.take_of_length_le (by simp)]; (try simp only [List.append_assoc, List.cons_append, List.nil_append]); exact leT_refl _)
end Go.Proofs.YtjkfobmfddfjhaaDoorX

set_option linter.unusedVariables false
set_option linter.unusedSimpArgs false
namespace Go.Proofs.YtjkfobmfddfjhaaDoorX
open Go Go.RowKit Go.Proofs
set_option maxRecDepth 100000
attribute [local go_sem ↓] stepsK_build stepsK_bs appendS
attribute [local go_sem] String.reduceEq String.reduceNe reduceCtorEq Int.reduceEq Nat.reduceAdd Nat.reduceSub Nat.reduceMul Nat.reduceLT Nat.reduceLeDiff Nat.reduceEqDiff Nat.reduceBEq Int.reduceToNat Int.reduceLT Int.reduceLE Int.reduceGT Int.reduceGE Int.reduceAdd Int.reduceSub Int.reduceMul Int.reduceNeg Int.reduceBEq Int.reduceBNe Int.reducePow Int.reduceDiv Int.reduceMod Int.reduceTDiv Int.reduceTMod Int.reduceNatCast
/-! ### lifecycle.Uploads$1 -/
def F50 (n : Nat) (a0 : (List UInt8) × (List UInt8) × (Bool) × (Int) × (Int) × (Int)) (a1 : (List UInt8) × (Int) × (Bool) × (Int)) (a2 : List (Int)) (a3 : Int) (a4 : Int) : Option ((Bool) × ((List UInt8) × (Int) × (Bool) × (Int)) × (List (Int)) × (Int) × (Int)) := (F46 n (a0.1, a0.2.1, a0.2.2.1, a0.2.2.2.1, a0.2.2.2.2.1, a0.2.2.2.2.2) a1.1).bind fun v1 => iteB v1 (grd (0 ≤ a3 ∧ a3 < (a2.length : Int)) ((F47 n a0.2.2.2.2.2 (a2.getD a3.toNat default) a4).bind fun v4 => some (v4, (a1.1, a1.2.1, a1.2.2.1, a1.2.2.2), a2, a3, a4))) (some (false, (a1.1, a1.2.1, a1.2.2.1, a1.2.2.2), a2, a3, a4))
set_option maxHeartbeats 4000000 in
theorem F50_ok : ∀ (n : Nat) (a0 : (List UInt8) × (List UInt8) × (Bool) × (Int) × (Int) × (Int)) (a1 : (List UInt8) × (Int) × (Bool) × (Int)) (a2 : List (Int)) (a3 : Int) (a4 : Int) (r : (Bool) × ((List UInt8) × (Int) × (Bool) × (Int)) × (List (Int)) × (Int) × (Int)), F50 n a0 a1 a2 a3 a4 = some r → FnR Tryd.prog 50 [some (.box 4294967354 (.agg [.imm (.string (bs a1.1)), .imm (.int .i64 a1.2.1), .imm (.bool a1.2.2.1), .imm (.int .i64 a1.2.2.2)]) false), some (.box 8589934634 (.sl 1 false (List.map (eI .i64) a2)) false), some (.box 12884901891 (.imm (.int .i64 a3)) false), some (.box 17179869187 (.imm (.int .i64 a4)) false)] [.agg [.imm (.string (bs a0.1)), .imm (.string (bs a0.2.1)), .imm (.bool a0.2.2.1), .imm (.int .i64 a0.2.2.2.1), .imm (.int .i64 a0.2.2.2.2.1), .imm (.int .i64 a0.2.2.2.2.2)], .ref 0 0 0 0, .ref 1 0 0 0, .ref 2 0 0 0, .ref 3 0 0 0] (.imm (.bool r.1)) [some (.box 4294967354 (.agg [.imm (.string (bs r.2.1.1)), .imm (.int .i64 r.2.1.2.1), .imm (.bool r.2.1.2.2.1), .imm (.int .i64 r.2.1.2.2.2)]) false), some (.box 8589934634 (.sl 1 false (List.map (eI .i64) r.2.2.1)) false), some (.box 12884901891 (.imm (.int .i64 r.2.2.2.1)) false), some (.box 17179869187 (.imm (.int .i64 r.2.2.2.2)) false)]
 | n, a0, a1, a2, a3, a4, r, h => by
  unfold F50 at h
  refine FnR.goX mixed [6] Tryd.func50 (by kernel_rfl) rfl (by simp [rowsOk, refsC, refsCL, adT_refsC, tagM]) (by simp [sameO]) (by simp [refsC, refsCL]) ?_
  simp only [Tryd.ntmps50, List.length_cons, List.length_nil, List.replicate, List.cons_append, List.nil_append, Nat.reduceAdd, Nat.reduceSub]
  refine runX_seq ?_
  refine runX_regionC fun C hC => ?_
  try simp -implicitDefEqProofs (maxSteps := 4000000) (disch := first | omega | decide | (simp only [go_sem]; omega)) only [go_sem, ↓reduceIte]
  repeat (with_reducible refine And.intro (by first | assumption | omega | (simp; done) | (simp; omega)) ?_)
  refine toEnd hC ?_
  refine endX_seq ?_
  refine runX_seq ?_
  refine runX_drawC mixed (by kernel_rfl) fun C hC => ?_
  obtain ⟨v1, h1, h⟩ := bnd_some h
  try simp -implicitDefEqProofs (maxSteps := 4000000) (disch := first | omega | decide | (simp only [go_sem]; omega)) only [go_sem, ↓reduceIte]
  repeat (with_reducible refine And.intro (by first | assumption | omega | (simp; done) | (simp; omega)) ?_)
  refine callD_X (F46_ok n (a0.1, a0.2.1, a0.2.2.1, a0.2.2.2.1, a0.2.2.2.2.1, a0.2.2.2.2.2) a1.1 _ h1) (by repeat (first | exact leL_refl _ | refine leL_cons (by first | exact leT_refl _ | exact leT_virt | exact leT_junk _ | exact leT_sl | exact leT_sln | exact leT_nil | (refine leT_agg (by repeat (first | exact leL_refl _ | refine leL_cons (by first | exact leT_refl _ | exact leT_sl | exact leT_sln | exact leT_nil) ?_)))) ?_)) ?_
  try simp -implicitDefEqProofs (maxSteps := 4000000) (disch := first | omega | decide | (simp only [go_sem]; omega)) only [go_sem, ↓reduceIte]
  repeat (with_reducible refine And.intro (by first | assumption | omega | (simp; done) | (simp; omega)) ?_)
  rcases iteB_some h with ⟨c2, h⟩ | ⟨c2, h⟩
  ·refine guardD_T c2 ?_
   obtain ⟨g3, h⟩ := grd_some h
   obtain ⟨v4, h4, h⟩ := bnd_some h
   try simp -implicitDefEqProofs (maxSteps := 4000000) (disch := first | omega | decide | (simp only [go_sem]; omega)) only [go_sem, ↓reduceIte]
   repeat (with_reducible refine And.intro (by first | assumption | omega | (simp; done) | (simp; omega)) ?_)
   refine callD_X (F47_ok n a0.2.2.2.2.2 (a2.getD a3.toNat default) a4 _ h4) (by repeat (first | exact leL_refl _ | refine leL_cons (by first | exact leT_refl _ | exact leT_virt | exact leT_junk _ | exact leT_sl | exact leT_sln | exact leT_nil | (refine leT_agg (by repeat (first | exact leL_refl _ | refine leL_cons (by first | exact leT_refl _ | exact leT_sl | exact leT_sln | exact leT_nil) ?_)))) ?_)) ?_
   try simp -implicitDefEqProofs (maxSteps := 4000000) (disch := first | omega | decide | (simp only [go_sem]; omega)) only [go_sem, ↓reduceIte]
   repeat (with_reducible refine And.intro (by first | assumption | omega | (simp; done) | (simp; omega)) ?_)
   refine toEnd hC ?_
   refine endX_seq ?_
   refine runX_ret ?_
   refine endX_q ?_
   obtain rfl := Option.some.inj h
   show RetR _ _ _ _ _ _ _ _
   simp only [RetR]
   (try simp -implicitDefEqProofs (maxSteps := 4000000) (disch := first | omega | decide | (simp only [go_sem]; omega)) only [go_sem, ↓reduceIte])
   exact ⟨leOs_refl _, leT_refl _⟩
  ·refine guardD_F c2 ?_
   try simp -implicitDefEqProofs (maxSteps := 4000000) (disch := first | omega | decide | (simp only [go_sem]; omega)) only [go_sem, ↓reduceIte]
   repeat (with_reducible refine And.intro (by first | assumption | omega | (simp; done) | (simp; omega)) ?_)
   refine toEnd hC ?_
   refine endX_seq ?_
   refine runX_ret ?_
   refine endX_q ?_
   obtain rfl := Option.some.inj h
   show RetR _ _ _ _ _ _ _ _
   simp only [RetR]
   (try simp -implicitDefEqProofs (maxSteps := 4000000) (disch := first | omega | decide | (simp only [go_sem]; omega)) only [go_sem, ↓reduceIte])
   exact ⟨leOs_refl _, leT_refl _⟩
end Go.Proofs.YtjkfobmfddfjhaaDoorX

set_option linter.unusedVariables false
set_option linter.unusedSimpArgs false
namespace Go.Proofs.YtjkfobmfddfjhaaDoorX
open Go Go.RowKit Go.Proofs
set_option maxRecDepth 100000
attribute [local go_sem ↓] stepsK_build stepsK_bs appendS
attribute [local go_sem] String.reduceEq String.reduceNe reduceCtorEq Int.reduceEq Nat.reduceAdd Nat.reduceSub Nat.reduceMul Nat.reduceLT Nat.reduceLeDiff Nat.reduceEqDiff Nat.reduceBEq Int.reduceToNat Int.reduceLT Int.reduceLE Int.reduceGT Int.reduceGE Int.reduceAdd Int.reduceSub Int.reduceMul Int.reduceNeg Int.reduceBEq Int.reduceBNe Int.reducePow Int.reduceDiv Int.reduceMod Int.reduceTDiv Int.reduceTMod Int.reduceNatCast
/-! ### lifecycle.either[lifecycle.Rule]@lifecycle.Uploads$1 -/
def F51000044_S1 (a0 : List ((List UInt8) × (List UInt8) × (Bool) × (Int) × (Int) × (Int))) (x1 : Int) (x2 : List UInt8) (x3 : Int) (x4 : Bool) (x5 : Int) (x6 : List (Int)) (x7 : Int) (x8 : Int) : St := ⟨[.junk, .fn 50 [.ref 0 0 0 0, .ref 1 0 0 0, .ref 2 0 0 0, .ref 3 0 0 0], .junk, .junk, .junk, .junk, .junk, .sl 6 false (List.map eT55 a0), .imm (.int .i64 (a0.length : Int)), .imm (.int .i64 x1), .junk, .junk, .junk, .junk, .junk, .junk, .junk], [some (.box 4294967354 (.agg [.imm (.string (bs x2)), .imm (.int .i64 x3), .imm (.bool x4), .imm (.int .i64 x5)]) false), some (.box 8589934634 (.sl 1 false (List.map (eI .i64) x6)) false), some (.box 12884901891 (.imm (.int .i64 x7)) false), some (.box 17179869187 (.imm (.int .i64 x8)) false)]⟩
def F51000044_L1 : Nat → (List ((List UInt8) × (List UInt8) × (Bool) × (Int) × (Int) × (Int))) → (Int) → (List UInt8) → (Int) → (Bool) → (Int) → (List (Int)) → (Int) → (Int) → Option ((Bool) × ((List UInt8) × (Int) × (Bool) × (Int)) × (List (Int)) × (Int) × (Int))
 | 0, _, _, _, _, _, _, _, _, _ => none
 | m1 + 1, a0, x1, x2, x3, x4, x5, x6, x7, x8 => iteB (decide (x1 < (a0.length : Int))) (grd (0 ≤ x1 ∧ x1 < (a0.length : Int)) ((F50 m1 ((a0.getD x1.toNat default).1, (a0.getD x1.toNat default).2.1, (a0.getD x1.toNat default).2.2.1, (a0.getD x1.toNat default).2.2.2.1, (a0.getD x1.toNat default).2.2.2.2.1, (a0.getD x1.toNat default).2.2.2.2.2) (x2, x3, x4, x5) x6 x7 x8).bind fun v11 => iteB v11.1 (some (true, (v11.2.1.1, v11.2.1.2.1, v11.2.1.2.2.1, v11.2.1.2.2.2), v11.2.2.1, v11.2.2.2.1, v11.2.2.2.2)) (F51000044_L1 m1 a0 (IntKind.wrap .i64 (x1 + (1 : Int))) v11.2.1.1 v11.2.1.2.1 v11.2.1.2.2.1 v11.2.1.2.2.2 v11.2.2.1 v11.2.2.2.1 v11.2.2.2.2))) (some (false, (x2, x3, x4, x5), x6, x7, x8))
def F51000044 (n : Nat) (a0 : List ((List UInt8) × (List UInt8) × (Bool) × (Int) × (Int) × (Int))) (a1_0 : (List UInt8) × (Int) × (Bool) × (Int)) (a1_1 : List (Int)) (a1_2 : Int) (a1_3 : Int) : Option ((Bool) × ((List UInt8) × (Int) × (Bool) × (Int)) × (List (Int)) × (Int) × (Int)) := F51000044_L1 n a0 (0 : Int) a1_0.1 a1_0.2.1 a1_0.2.2.1 a1_0.2.2.2 a1_1 a1_2 a1_3
set_option maxHeartbeats 4000000 in
theorem F51000044_ok : ∀ (n : Nat) (a0 : List ((List UInt8) × (List UInt8) × (Bool) × (Int) × (Int) × (Int))) (a1_0 : (List UInt8) × (Int) × (Bool) × (Int)) (a1_1 : List (Int)) (a1_2 : Int) (a1_3 : Int) (r : (Bool) × ((List UInt8) × (Int) × (Bool) × (Int)) × (List (Int)) × (Int) × (Int)), F51000044 n a0 a1_0 a1_1 a1_2 a1_3 = some r → FnR Tryd.prog 44 [some (.box 4294967354 (.agg [.imm (.string (bs a1_0.1)), .imm (.int .i64 a1_0.2.1), .imm (.bool a1_0.2.2.1), .imm (.int .i64 a1_0.2.2.2)]) false), some (.box 8589934634 (.sl 1 false (List.map (eI .i64) a1_1)) false), some (.box 12884901891 (.imm (.int .i64 a1_2)) false), some (.box 17179869187 (.imm (.int .i64 a1_3)) false)] [.sl 6 false (List.map eT55 a0), .fn 50 [.ref 0 0 0 0, .ref 1 0 0 0, .ref 2 0 0 0, .ref 3 0 0 0]] (.imm (.bool r.1)) [some (.box 4294967354 (.agg [.imm (.string (bs r.2.1.1)), .imm (.int .i64 r.2.1.2.1), .imm (.bool r.2.1.2.2.1), .imm (.int .i64 r.2.1.2.2.2)]) false), some (.box 8589934634 (.sl 1 false (List.map (eI .i64) r.2.2.1)) false), some (.box 12884901891 (.imm (.int .i64 r.2.2.2.1)) false), some (.box 17179869187 (.imm (.int .i64 r.2.2.2.2)) false)]
 | n, a0, a1_0, a1_1, a1_2, a1_3, r, h => by
  unfold F51000044 at h
  refine FnR.goX mixed [4] Tryd.func44 (by kernel_rfl) rfl (by simp [rowsOk, refsC, refsCL, adT_refsC, tagM]) (by simp [sameO]) (by simp [refsC, refsCL]) ?_
  simp only [Tryd.ntmps44, List.length_cons, List.length_nil, List.replicate, List.cons_append, List.nil_append, Nat.reduceAdd, Nat.reduceSub]
  refine runX_seq ?_
  refine runX_regionC fun C hC => ?_
  try simp -implicitDefEqProofs (maxSteps := 4000000) (disch := first | omega | decide | (simp only [go_sem]; omega)) only [go_sem, ↓reduceIte]
  repeat (with_reducible refine And.intro (by first | assumption | omega | (simp; done) | (simp; omega)) ?_)
  refine toEnd hC ?_
  refine endX_seq ?_
  refine runX_seq ?_
  refine runX_seq ?_
  refine runX_regionC fun C hC => ?_
  try simp -implicitDefEqProofs (maxSteps := 4000000) (disch := first | omega | decide | (simp only [go_sem]; omega)) only [go_sem, ↓reduceIte]
  repeat (with_reducible refine And.intro (by first | assumption | omega | (simp; done) | (simp; omega)) ?_)
  refine toEnd hC ?_
  refine endX_seq ?_
  refine runX_block ?_
  refine runX_loop [1, 7, 8, 9] (fun m S => ∃ (x1 : Int) (x2 : List UInt8) (x3 : Int) (x4 : Bool) (x5 : Int) (x6 : List (Int)) (x7 : Int) (x8 : Int), S = F51000044_S1 a0 x1 x2 x3 x4 x5 x6 x7 x8 ∧ m ≤ n ∧ F51000044_L1 m a0 x1 x2 x3 x4 x5 x6 x7 x8 = some r) n ⟨F51000044_S1 a0 (0 : Int) a1_0.1 a1_0.2.1 a1_0.2.2.1 a1_0.2.2.2 a1_1 a1_2 a1_3, ?_, (0 : Int), a1_0.1, a1_0.2.1, a1_0.2.2.1, a1_0.2.2.2, a1_1, a1_2, a1_3, rfl, Nat.le_refl _, h⟩ ?_
  ·simp only [F51000044_S1]
   (try simp -implicitDefEqProofs (maxSteps := 4000000) (disch := first | omega | decide | (simp only [go_sem]; omega)) only [go_sem, ↓reduceIte])
   first | exact leS_refl _ | (refine leS_le ?_ ?_ <;> first | exact leL_refl _ | exact leOs_refl _ | (simp only [List.append_assoc, List.cons_append, List.nil_append]; exact leOs_refl _) | (repeat (first | exact leL_refl _ | refine leL_cons (by first | exact leT_refl _ | exact leT_virt | exact leT_junk _ | exact leT_sl | exact leT_sln | exact leT_nil | (refine leT_agg (by repeat (first | exact leL_refl _ | refine leL_cons (by first | exact leT_refl _ | exact leT_sl | exact leT_sln | exact leT_nil) ?_)))) ?_)))
  ·clear h
   rintro m1 S ⟨x1, x2, x3, x4, x5, x6, x7, x8, rfl, hm1, h⟩
   cases m1 with
   | zero => first | cases (show (none : Option _) = some _ from h) | (rw [F51000044_L1] at h; cases h)
   | succ m1 =>
    rw [F51000044_L1] at h
    simp only [F51000044_S1]
    refine runX_seq ?_
    refine runX_regionC fun C hC => ?_
    try simp -implicitDefEqProofs (maxSteps := 4000000) (disch := first | omega | decide | (simp only [go_sem]; omega)) only [go_sem, ↓reduceIte]
    repeat (with_reducible refine And.intro (by first | assumption | omega | (simp; done) | (simp; omega)) ?_)
    refine toEnd hC ?_
    refine endX_seq ?_
    refine runX_seq ?_
    rcases iteB_some h with ⟨c9, h⟩ | ⟨c9, h⟩
    ·refine runX_condT rfl c9 ?_
     refine runX_skip ?_
     refine endX_seq ?_
     refine runX_seq ?_
     refine runX_block ?_
     refine runX_seq ?_
     refine runX_regionC fun C hC => ?_
     obtain ⟨g10, h⟩ := grd_some h
     try simp -implicitDefEqProofs (maxSteps := 4000000) (disch := first | omega | decide | (simp only [go_sem]; omega)) only [go_sem, ↓reduceIte]
     repeat (with_reducible refine And.intro (by first | assumption | omega | (simp; done) | (simp; omega)) ?_)
     refine toEnd hC ?_
     refine endX_seq ?_
     refine runX_seq ?_
     refine runX_regionC fun C hC => ?_
     obtain ⟨v11, h11, h⟩ := bnd_some h
     try simp -implicitDefEqProofs (maxSteps := 4000000) (disch := first | omega | decide | (simp only [go_sem]; omega)) only [go_sem, ↓reduceIte]
     repeat (with_reducible refine And.intro (by first | assumption | omega | (simp; done) | (simp; omega)) ?_)
     refine callR_X [0, 1, 2, 3] (F50_ok m1 ((a0.getD x1.toNat default).1, (a0.getD x1.toNat default).2.1, (a0.getD x1.toNat default).2.2.1, (a0.getD x1.toNat default).2.2.2.1, (a0.getD x1.toNat default).2.2.2.2.1, (a0.getD x1.toNat default).2.2.2.2.2) (x2, x3, x4, x5) x6 x7 x8 _ h11) (by decide) (by (try simp -implicitDefEqProofs (maxSteps := 4000000) (disch := first | omega | decide | (simp only [go_sem]; omega)) only [go_sem, ↓reduceIte]); repeat (first | exact trivial | refine And.intro ?_ ?_ | exact fun _ => trivial | exact fun _ _ => trivial | exact fun _ _ h => h | rfl | decide)) (by (try simp -implicitDefEqProofs (maxSteps := 4000000) (disch := first | omega | decide | (simp only [go_sem]; omega)) only [go_sem, ↓reduceIte]); repeat (first | exact leL_refl _ | refine leL_cons (by first | exact leT_refl _ | exact leT_virt | exact leT_junk _ | exact leT_sl | exact leT_sln | exact leT_nil | (refine leT_agg (by repeat (first | exact leL_refl _ | refine leL_cons (by first | exact leT_refl _ | exact leT_sl | exact leT_sln | exact leT_nil) ?_)))) ?_)) ?_
     try simp -implicitDefEqProofs (maxSteps := 4000000) (disch := first | omega | decide | (simp only [go_sem]; omega)) only [go_sem, ↓reduceIte]
     repeat (with_reducible refine And.intro (by first | assumption | omega | (simp; done) | (simp; omega)) ?_)
     refine toEnd hC ?_
     refine endX_seq ?_
     rcases iteB_some h with ⟨c12, h⟩ | ⟨c12, h⟩
     ·refine runX_condT rfl c12 ?_
      refine runX_seq ?_
      refine runX_regionC fun C hC => ?_
      try simp -implicitDefEqProofs (maxSteps := 4000000) (disch := first | omega | decide | (simp only [go_sem]; omega)) only [go_sem, ↓reduceIte]
      repeat (with_reducible refine And.intro (by first | assumption | omega | (simp; done) | (simp; omega)) ?_)
      refine toEnd hC ?_
      refine endX_seq ?_
      refine runX_ret ?_
      refine endX_blkR ?_
      refine endX_seqR ?_
      refine endX_q (roundQ_ret ?_)
      refine endX_blkR ?_
      refine endX_seqR ?_
      refine endX_q ?_
      obtain rfl := Option.some.inj h
      show RetR _ _ _ _ _ _ _ _
      simp only [RetR]
      (try simp -implicitDefEqProofs (maxSteps := 4000000) (disch := first | omega | decide | (simp only [go_sem]; omega)) only [go_sem, ↓reduceIte])
      exact ⟨leOs_refl _, leT_refl _⟩
     ·refine runX_condF rfl c12 ?_
      refine runX_skip ?_
      refine endX_blk ?_
      refine endX_seq ?_
      refine runX_regionC fun C hC => ?_
      try simp -implicitDefEqProofs (maxSteps := 4000000) (disch := first | omega | decide | (simp only [go_sem]; omega)) only [go_sem, ↓reduceIte]
      repeat (with_reducible refine And.intro (by first | assumption | omega | (simp; done) | (simp; omega)) ?_)
      refine toEnd hC ?_
      refine endX_q (roundQ_normal ⟨m1, by omega, F51000044_S1 a0 (IntKind.wrap .i64 (x1 + (1 : Int))) v11.2.1.1 v11.2.1.2.1 v11.2.1.2.2.1 v11.2.1.2.2.2 v11.2.2.1 v11.2.2.2.1 v11.2.2.2.2, ?_, (IntKind.wrap .i64 (x1 + (1 : Int))), v11.2.1.1, v11.2.1.2.1, v11.2.1.2.2.1, v11.2.1.2.2.2, v11.2.2.1, v11.2.2.2.1, v11.2.2.2.2, rfl, by omega, h⟩)
      simp only [F51000044_S1]
      (try simp -implicitDefEqProofs (maxSteps := 4000000) (disch := first | omega | decide | (simp only [go_sem]; omega)) only [go_sem, ↓reduceIte])
      first | exact leS_refl _ | (refine leS_le ?_ ?_ <;> first | exact leL_refl _ | exact leOs_refl _ | (simp only [List.append_assoc, List.cons_append, List.nil_append]; exact leOs_refl _) | (repeat (first | exact leL_refl _ | refine leL_cons (by first | exact leT_refl _ | exact leT_virt | exact leT_junk _ | exact leT_sl | exact leT_sln | exact leT_nil | (refine leT_agg (by repeat (first | exact leL_refl _ | refine leL_cons (by first | exact leT_refl _ | exact leT_sl | exact leT_sln | exact leT_nil) ?_)))) ?_)))
    ·refine runX_condF rfl c9 ?_
     refine runX_exit ?_
     refine endX_seqE ?_
     refine endX_q (roundQ_exit ?_)
     refine endX_blkE ?_
     refine endX_seq ?_
     refine runX_seq ?_
     refine runX_regionC fun C hC => ?_
     try simp -implicitDefEqProofs (maxSteps := 4000000) (disch := first | omega | decide | (simp only [go_sem]; omega)) only [go_sem, ↓reduceIte]
     repeat (with_reducible refine And.intro (by first | assumption | omega | (simp; done) | (simp; omega)) ?_)
     refine toEnd hC ?_
     refine endX_seq ?_
     refine runX_ret ?_
     refine endX_q ?_
     obtain rfl := Option.some.inj h
     show RetR _ _ _ _ _ _ _ _
     simp only [RetR]
     (try simp -implicitDefEqProofs (maxSteps := 4000000) (disch := first | omega | decide | (simp only [go_sem]; omega)) only [go_sem, ↓reduceIte])
     exact ⟨leOs_refl _, leT_refl _⟩
end Go.Proofs.YtjkfobmfddfjhaaDoorX

set_option linter.unusedVariables false
set_option linter.unusedSimpArgs false
namespace Go.Proofs.YtjkfobmfddfjhaaDoorX
open Go Go.RowKit Go.Proofs
set_option maxRecDepth 100000
attribute [local go_sem ↓] stepsK_build stepsK_bs appendS
attribute [local go_sem] String.reduceEq String.reduceNe reduceCtorEq Int.reduceEq Nat.reduceAdd Nat.reduceSub Nat.reduceMul Nat.reduceLT Nat.reduceLeDiff Nat.reduceEqDiff Nat.reduceBEq Int.reduceToNat Int.reduceLT Int.reduceLE Int.reduceGT Int.reduceGE Int.reduceAdd Int.reduceSub Int.reduceMul Int.reduceNeg Int.reduceBEq Int.reduceBNe Int.reducePow Int.reduceDiv Int.reduceMod Int.reduceTDiv Int.reduceTMod Int.reduceNatCast
/-! ### lifecycle.Uploads -/
def F23_S1 (a0 : List ((List UInt8) × (List UInt8) × (Bool) × (Int) × (Int) × (Int))) (a1 : List ((List UInt8) × (Int) × (Bool) × (Int))) (x4 : Int) (x5 : List (Int)) (x6 : Int) (x7 : List ((Int) × (List UInt8) × (Int))) : St := ⟨[.sl 6 false (List.map eT55 a0), .junk, .junk, .junk, .junk, .junk, .ref 0 0 0 0, .ref 1 0 0 0, .junk, .rsl 2 3 0 x7.length, .junk, .junk, .junk, .junk, .junk, .junk, .junk, .junk, .junk, .junk, .junk, .junk, .sl 4 false (List.map eT57 a1), .imm (.int .i64 (a1.length : Int)), .imm (.int .i64 x4), .junk, .junk, .junk, .junk, .junk, .junk, .junk, .junk, .junk, .junk, .junk, .junk, .junk, .junk, .junk, .junk, .junk], [some (.box 42 (.sl 1 false (List.map (eI .i64) x5)) false), some (.box 3 (.imm (.int .i64 x6)) false), some (.buf 54 3 (List.map eT53 x7) 0)]⟩
def F23_L1 : Nat → (List ((List UInt8) × (List UInt8) × (Bool) × (Int) × (Int) × (Int))) → (List ((List UInt8) × (Int) × (Bool) × (Int))) → (Int) → (List (Int)) → (Int) → (List ((Int) × (List UInt8) × (Int))) → Option (List ((Int) × (List UInt8) × (Int)))
 | 0, _, _, _, _, _, _ => none
 | m1 + 1, a0, a1, x4, x5, x6, x7 => iteB (decide (x4 < (a1.length : Int))) (grd (0 ≤ x4 ∧ x4 < (a1.length : Int)) ((F51000044 m1 a0 ((a1.getD x4.toNat default).1, (a1.getD x4.toNat default).2.1, (a1.getD x4.toNat default).2.2.1, (a1.getD x4.toNat default).2.2.2) x5 x4 x6).bind fun v10 => iteB v10.1 (grd ((x7.length + 1) ≤ 549755813888) (F23_L1 m1 a0 a1 (IntKind.wrap .i64 (x4 + (1 : Int))) v10.2.2.1 v10.2.2.2.2 (x7 ++ [((3 : Int), v10.2.1.1, v10.2.1.2.1)]))) (F23_L1 m1 a0 a1 (IntKind.wrap .i64 (x4 + (1 : Int))) v10.2.2.1 v10.2.2.2.2 x7))) (some x7)
def F23 (n : Nat) (a0 : List ((List UInt8) × (List UInt8) × (Bool) × (Int) × (Int) × (Int))) (a1 : List ((List UInt8) × (Int) × (Bool) × (Int))) (a2 : List (Int)) (a3 : Int) : Option (List ((Int) × (List UInt8) × (Int))) := iteB ((a2.length : Int) != (a1.length : Int)) (some []) ((F27 n a0).bind fun v2 => iteB (!v2) (some []) (F23_L1 n a0 a1 (0 : Int) a2 a3 []))
set_option maxHeartbeats 4000000 in
theorem F23_ok : ∀ (n : Nat) (a0 : List ((List UInt8) × (List UInt8) × (Bool) × (Int) × (Int) × (Int))) (a1 : List ((List UInt8) × (Int) × (Bool) × (Int))) (a2 : List (Int)) (a3 : Int) (r : List ((Int) × (List UInt8) × (Int))), F23 n a0 a1 a2 a3 = some r → FnC Tryd.prog 23 [.sl 6 false (List.map eT55 a0), .sl 4 false (List.map eT57 a1), .sl 1 false (List.map (eI .i64) a2), .imm (.int .i64 a3)] (.sl 3 false (List.map eT53 r))
 | n, a0, a1, a2, a3, r, h => by
  unfold F23 at h
  refine FnC.goX mixed Tryd.func23 (by kernel_rfl) rfl ?_
  simp only [Tryd.ntmps23, List.length_cons, List.length_nil, List.replicate, List.cons_append, List.nil_append, Nat.reduceAdd, Nat.reduceSub]
  refine runX_seq ?_
  refine runX_regionC fun C hC => ?_
  try simp -implicitDefEqProofs (maxSteps := 4000000) (disch := first | omega | decide | (simp only [go_sem]; omega)) only [go_sem, ↓reduceIte]
  repeat (with_reducible refine And.intro (by first | assumption | omega | (simp; done) | (simp; omega)) ?_)
  refine toEnd hC ?_
  refine endX_seq ?_
  refine runX_seq ?_
  refine runX_seq ?_
  refine runX_regionC fun C hC => ?_
  try simp -implicitDefEqProofs (maxSteps := 4000000) (disch := first | omega | decide | (simp only [go_sem]; omega)) only [go_sem, ↓reduceIte]
  repeat (with_reducible refine And.intro (by first | assumption | omega | (simp; done) | (simp; omega)) ?_)
  rcases iteB_some h with ⟨c1, h⟩ | ⟨c1, h⟩
  ·refine guardK_F c1 ?_
   try simp -implicitDefEqProofs (maxSteps := 4000000) (disch := first | omega | decide | (simp only [go_sem]; omega)) only [go_sem, ↓reduceIte]
   repeat (with_reducible refine And.intro (by first | assumption | omega | (simp; done) | (simp; omega)) ?_)
   refine toEnd hC ?_
   refine endX_seq ?_
   refine runX_condT rfl rfl ?_
   refine runX_seq ?_
   refine runX_regionC fun C hC => ?_
   try simp -implicitDefEqProofs (maxSteps := 4000000) (disch := first | omega | decide | (simp only [go_sem]; omega)) only [go_sem, ↓reduceIte]
   repeat (with_reducible refine And.intro (by first | assumption | omega | (simp; done) | (simp; omega)) ?_)
   refine toEnd hC ?_
   refine endX_seq ?_
   refine runX_ret ?_
   refine endX_seqR ?_
   refine endX_q ?_
   obtain rfl := Option.some.inj h
   show RetW _ _ _ _ _
   simp only [RetW]
   (try simp -implicitDefEqProofs (maxSteps := 4000000) (disch := first | omega | decide | (simp only [go_sem]; omega)) only [go_sem, ↓reduceIte])
   (try simp (disch := omega) only [if_pos, Nat.sub_zero])
   first | exact leT_refl _ | (refine ⟨rfl, ?_⟩; first | exact leT_refl _ | exact leT_sl | exact leT_sln | exact leT_nil | (refine leT_tup (by repeat (first | exact leL_refl _ | refine leL_cons (by first | exact leT_refl _ | exact leT_virt | exact leT_junk _ | exact leT_sl | exact leT_sln | exact leT_nil | (refine leT_agg (by repeat (first | exact leL_refl _ | refine leL_cons (by first | exact leT_refl _ | exact leT_sl | exact leT_sln | exact leT_nil) ?_)))) ?_))) | (refine leT_agg (by repeat (first | exact leL_refl _ | refine leL_cons (by first | exact leT_refl _ | exact leT_virt | exact leT_junk _ | exact leT_sl | exact leT_sln | exact leT_nil | (refine leT_agg (by repeat (first | exact leL_refl _ | refine leL_cons (by first | exact leT_refl _ | exact leT_sl | exact leT_sln | exact leT_nil) ?_)))) ?_)))) | (first | exact leT_refl _ | exact leT_sl | exact leT_sln | exact leT_nil | (refine leT_tup (by repeat (first | exact leL_refl _ | refine leL_cons (by first | exact leT_refl _ | exact leT_virt | exact leT_junk _ | exact leT_sl | exact leT_sln | exact leT_nil | (refine leT_agg (by repeat (first | exact leL_refl _ | refine leL_cons (by first | exact leT_refl _ | exact leT_sl | exact leT_sln | exact leT_nil) ?_)))) ?_))) | (refine leT_agg (by repeat (first | exact leL_refl _ | refine leL_cons (by first | exact leT_refl _ | exact leT_virt | exact leT_junk _ | exact leT_sl | exact leT_sln | exact leT_nil | (refine leT_agg (by repeat (first | exact leL_refl _ | refine leL_cons (by first | exact leT_refl _ | exact leT_sl | exact leT_sln | exact leT_nil) ?_)))) ?_)))) | (simp only [List.append_assoc, List.cons_append, List.nil_append]; exact leT_refl _) | (rw [List.take_of_length_le (by simp)]; (try simp only [List.append_assoc, List.cons_append, List.nil_append]); exact leT_refl _)
  ·refine guardK_T c1 ?_
   obtain ⟨v2, h2, h⟩ := bnd_some h
   try simp -implicitDefEqProofs (maxSteps := 4000000) (disch := first | omega | decide | (simp only [go_sem]; omega)) only [go_sem, ↓reduceIte]
   repeat (with_reducible refine And.intro (by first | assumption | omega | (simp; done) | (simp; omega)) ?_)
   refine callG_X (by first | rfl | (simp only [go_sem]; done) | (simp only [closedL, closedT, Bool.and_true]; exact closedL_map _ (fun _ => by first | rfl | (simp only [go_sem]; done)) _)) (F27_ok n a0 _ h2) (by repeat (first | exact leL_refl _ | refine leL_cons (by first | exact leT_refl _ | exact leT_virt | exact leT_junk _ | exact leT_sl | exact leT_sln | exact leT_nil | (refine leT_agg (by repeat (first | exact leL_refl _ | refine leL_cons (by first | exact leT_refl _ | exact leT_sl | exact leT_sln | exact leT_nil) ?_)))) ?_)) ?_
   try simp -implicitDefEqProofs (maxSteps := 4000000) (disch := first | omega | decide | (simp only [go_sem]; omega)) only [go_sem, ↓reduceIte]
   repeat (with_reducible refine And.intro (by first | assumption | omega | (simp; done) | (simp; omega)) ?_)
   refine toEnd hC ?_
   refine endX_seq ?_
   rcases iteB_some h with ⟨c3, h⟩ | ⟨c3, h⟩
   ·refine runX_condT rfl c3 ?_
    refine runX_seq ?_
    refine runX_regionC fun C hC => ?_
    try simp -implicitDefEqProofs (maxSteps := 4000000) (disch := first | omega | decide | (simp only [go_sem]; omega)) only [go_sem, ↓reduceIte]
    repeat (with_reducible refine And.intro (by first | assumption | omega | (simp; done) | (simp; omega)) ?_)
    refine toEnd hC ?_
    refine endX_seq ?_
    refine runX_ret ?_
    refine endX_seqR ?_
    refine endX_q ?_
    obtain rfl := Option.some.inj h
    show RetW _ _ _ _ _
    simp only [RetW]
    (try simp -implicitDefEqProofs (maxSteps := 4000000) (disch := first | omega | decide | (simp only [go_sem]; omega)) only [go_sem, ↓reduceIte])
    (try simp (disch := omega) only [if_pos, Nat.sub_zero])
    first | exact leT_refl _ | (refine ⟨rfl, ?_⟩; first | exact leT_refl _ | exact leT_sl | exact leT_sln | exact leT_nil | (refine leT_tup (by repeat (first | exact leL_refl _ | refine leL_cons (by first | exact leT_refl _ | exact leT_virt | exact leT_junk _ | exact leT_sl | exact leT_sln | exact leT_nil | (refine leT_agg (by repeat (first | exact leL_refl _ | refine leL_cons (by first | exact leT_refl _ | exact leT_sl | exact leT_sln | exact leT_nil) ?_)))) ?_))) | (refine leT_agg (by repeat (first | exact leL_refl _ | refine leL_cons (by first | exact leT_refl _ | exact leT_virt | exact leT_junk _ | exact leT_sl | exact leT_sln | exact leT_nil | (refine leT_agg (by repeat (first | exact leL_refl _ | refine leL_cons (by first | exact leT_refl _ | exact leT_sl | exact leT_sln | exact leT_nil) ?_)))) ?_)))) | (first | exact leT_refl _ | exact leT_sl | exact leT_sln | exact leT_nil | (refine leT_tup (by repeat (first | exact leL_refl _ | refine leL_cons (by first | exact leT_refl _ | exact leT_virt | exact leT_junk _ | exact leT_sl | exact leT_sln | exact leT_nil | (refine leT_agg (by repeat (first | exact leL_refl _ | refine leL_cons (by first | exact leT_refl _ | exact leT_sl | exact leT_sln | exact leT_nil) ?_)))) ?_))) | (refine leT_agg (by repeat (first | exact leL_refl _ | refine leL_cons (by first | exact leT_refl _ | exact leT_virt | exact leT_junk _ | exact leT_sl | exact leT_sln | exact leT_nil | (refine leT_agg (by repeat (first | exact leL_refl _ | refine leL_cons (by first | exact leT_refl _ | exact leT_sl | exact leT_sln | exact leT_nil) ?_)))) ?_)))) | (simp only [List.append_assoc, List.cons_append, List.nil_append]; exact leT_refl _) | (rw [List.take_of_length_le (by simp)]; (try simp only [List.append_assoc, List.cons_append, List.nil_append]); exact leT_refl _)
   ·refine runX_condF rfl c3 ?_
    refine runX_skip ?_
    refine endX_seq ?_
    refine runX_seq ?_
    refine runX_regionC fun C hC => ?_
    try simp -implicitDefEqProofs (maxSteps := 4000000) (disch := first | omega | decide | (simp only [go_sem]; omega)) only [go_sem, ↓reduceIte]
    repeat (with_reducible refine And.intro (by first | assumption | omega | (simp; done) | (simp; omega)) ?_)
    refine toEnd hC ?_
    refine endX_seq ?_
    refine runX_seq ?_
    refine runX_seq ?_
    refine runX_regionC fun C hC => ?_
    try simp -implicitDefEqProofs (maxSteps := 4000000) (disch := first | omega | decide | (simp only [go_sem]; omega)) only [go_sem, ↓reduceIte]
    repeat (with_reducible refine And.intro (by first | assumption | omega | (simp; done) | (simp; omega)) ?_)
    refine toEnd hC ?_
    refine endX_seq ?_
    refine runX_block ?_
    refine runX_loop [0, 6, 7, 9, 22, 23, 24] (fun m S => ∃ (x4 : Int) (x5 : List (Int)) (x6 : Int) (x7 : List ((Int) × (List UInt8) × (Int))), S = F23_S1 a0 a1 x4 x5 x6 x7 ∧ m ≤ n ∧ F23_L1 m a0 a1 x4 x5 x6 x7 = some r) n ⟨F23_S1 a0 a1 (0 : Int) a2 a3 [], ?_, (0 : Int), a2, a3, [], rfl, Nat.le_refl _, h⟩ ?_
    ·(try simp -implicitDefEqProofs (maxSteps := 4000000) (disch := first | omega | decide | (simp only [go_sem]; omega)) only [go_sem, ↓reduceIte])
     simp only [F23_S1]
     refine leS_trans (leS_pad _ _ 1) ?_
     simp only [List.replicate, List.cons_append, List.nil_append]
     refine leS_virt 2 54 3 rfl ?_ ?_ rfl
     ·repeat (first | exact leL_refl _ | refine leL_cons (by first | exact leT_refl _ | exact leT_virt | exact leT_junk _ | exact leT_sl | exact leT_sln | exact leT_nil | (refine leT_agg (by repeat (first | exact leL_refl _ | refine leL_cons (by first | exact leT_refl _ | exact leT_sl | exact leT_sln | exact leT_nil) ?_)))) ?_)
     ·repeat (first | exact leOs_refl _ | refine leOs.cons (by first | exact leO.same _ | (refine leO.box (leT_agg (by repeat (first | exact leL_refl _ | refine leL_cons (by first | exact leT_refl _ | exact leT_virt | exact leT_junk _ | exact leT_sl | exact leT_sln | exact leT_nil | (refine leT_agg (by repeat (first | exact leL_refl _ | refine leL_cons (by first | exact leT_refl _ | exact leT_sl | exact leT_sln | exact leT_nil) ?_)))) ?_))) rfl) | (refine leO.box (by first | exact leT_virt | exact leT_sl | exact leT_sln) rfl)) ?_)
    ·clear h
     rintro m1 S ⟨x4, x5, x6, x7, rfl, hm1, h⟩
     cases m1 with
     | zero => first | cases (show (none : Option _) = some _ from h) | (rw [F23_L1] at h; cases h)
     | succ m1 =>
      rw [F23_L1] at h
      simp only [F23_S1]
      refine runX_seq ?_
      refine runX_regionC fun C hC => ?_
      try simp -implicitDefEqProofs (maxSteps := 4000000) (disch := first | omega | decide | (simp only [go_sem]; omega)) only [go_sem, ↓reduceIte]
      repeat (with_reducible refine And.intro (by first | assumption | omega | (simp; done) | (simp; omega)) ?_)
      refine toEnd hC ?_
      refine endX_seq ?_
      refine runX_seq ?_
      rcases iteB_some h with ⟨c8, h⟩ | ⟨c8, h⟩
      ·refine runX_condT rfl c8 ?_
       refine runX_skip ?_
       refine endX_seq ?_
       refine runX_seq ?_
       refine runX_block ?_
       refine runX_seq ?_
       refine runX_regionC fun C hC => ?_
       obtain ⟨g9, h⟩ := grd_some h
       try simp -implicitDefEqProofs (maxSteps := 4000000) (disch := first | omega | decide | (simp only [go_sem]; omega)) only [go_sem, ↓reduceIte]
       repeat (with_reducible refine And.intro (by first | assumption | omega | (simp; done) | (simp; omega)) ?_)
       refine toEnd hC ?_
       refine endX_seq ?_
       refine runX_seq ?_
       refine runX_regionC fun C hC => ?_
       obtain ⟨v10, h10, h⟩ := bnd_some h
       try simp -implicitDefEqProofs (maxSteps := 4000000) (disch := first | omega | decide | (simp only [go_sem]; omega)) only [go_sem, ↓reduceIte]
       repeat (with_reducible refine And.intro (by first | assumption | omega | (simp; done) | (simp; omega)) ?_)
       refine callR_X [4, 0, 3, 1] (F51000044_ok m1 a0 ((a1.getD x4.toNat default).1, (a1.getD x4.toNat default).2.1, (a1.getD x4.toNat default).2.2.1, (a1.getD x4.toNat default).2.2.2) x5 x4 x6 _ h10) (by decide) (by (try simp -implicitDefEqProofs (maxSteps := 4000000) (disch := first | omega | decide | (simp only [go_sem]; omega)) only [go_sem, ↓reduceIte]); repeat (first | exact trivial | refine And.intro ?_ ?_ | exact fun _ => trivial | exact fun _ _ => trivial | exact fun _ _ h => h | rfl | decide)) (by (try simp -implicitDefEqProofs (maxSteps := 4000000) (disch := first | omega | decide | (simp only [go_sem]; omega)) only [go_sem, ↓reduceIte]); repeat (first | exact leL_refl _ | refine leL_cons (by first | exact leT_refl _ | exact leT_virt | exact leT_junk _ | exact leT_sl | exact leT_sln | exact leT_nil | (refine leT_agg (by repeat (first | exact leL_refl _ | refine leL_cons (by first | exact leT_refl _ | exact leT_sl | exact leT_sln | exact leT_nil) ?_)))) ?_)) ?_
       try simp -implicitDefEqProofs (maxSteps := 4000000) (disch := first | omega | decide | (simp only [go_sem]; omega)) only [go_sem, ↓reduceIte]
       repeat (with_reducible refine And.intro (by first | assumption | omega | (simp; done) | (simp; omega)) ?_)
       refine toEnd hC ?_
       refine endX_seq ?_
       rcases iteB_some h with ⟨c11, h⟩ | ⟨c11, h⟩
       ·refine runX_condT rfl c11 ?_
        refine runX_regionC fun C hC => ?_
        try simp -implicitDefEqProofs (maxSteps := 4000000) (disch := first | omega | decide | (simp only [go_sem]; omega)) only [go_sem, ↓reduceIte]
        repeat (with_reducible refine And.intro (by first | assumption | omega | (simp; done) | (simp; omega)) ?_)
        refine bldG_of [.imm (.int .i64 (3 : Int)), .imm (.string (bs v10.2.1.1)), .imm (.int .i64 v10.2.1.2.1)] (by kernel_rfl) ?_
        try simp -implicitDefEqProofs (maxSteps := 4000000) (disch := first | omega | decide | (simp only [go_sem]; omega)) only [go_sem, ↓reduceIte]
        repeat (with_reducible refine And.intro (by first | assumption | omega | (simp; done) | (simp; omega)) ?_)
        refine bs_go <| buildX_val ?_
        obtain ⟨g12, h⟩ := grd_some h
        try simp -implicitDefEqProofs (maxSteps := 4000000) (disch := first | omega | decide | (simp only [go_sem]; omega)) only [go_sem, ↓reduceIte]
        repeat (with_reducible refine And.intro (by first | assumption | omega | (simp; done) | (simp; omega)) ?_)
        refine toEnd hC ?_
        refine endX_blk ?_
        refine endX_seq ?_
        refine runX_regionC fun C hC => ?_
        try simp -implicitDefEqProofs (maxSteps := 4000000) (disch := first | omega | decide | (simp only [go_sem]; omega)) only [go_sem, ↓reduceIte]
        repeat (with_reducible refine And.intro (by first | assumption | omega | (simp; done) | (simp; omega)) ?_)
        refine toEnd hC ?_
        refine endX_q (roundQ_normal ⟨m1, by omega, F23_S1 a0 a1 (IntKind.wrap .i64 (x4 + (1 : Int))) v10.2.2.1 v10.2.2.2.2 (x7 ++ [((3 : Int), v10.2.1.1, v10.2.1.2.1)]), ?_, (IntKind.wrap .i64 (x4 + (1 : Int))), v10.2.2.1, v10.2.2.2.2, (x7 ++ [((3 : Int), v10.2.1.1, v10.2.1.2.1)]), rfl, by omega, h⟩)
        simp only [F23_S1]
        (try simp -implicitDefEqProofs (maxSteps := 4000000) (disch := first | omega | decide | (simp only [go_sem]; omega)) only [go_sem, ↓reduceIte])
        first | exact leS_refl _ | (refine leS_le ?_ ?_ <;> first | exact leL_refl _ | exact leOs_refl _ | (simp only [List.append_assoc, List.cons_append, List.nil_append]; exact leOs_refl _) | (repeat (first | exact leL_refl _ | refine leL_cons (by first | exact leT_refl _ | exact leT_virt | exact leT_junk _ | exact leT_sl | exact leT_sln | exact leT_nil | (refine leT_agg (by repeat (first | exact leL_refl _ | refine leL_cons (by first | exact leT_refl _ | exact leT_sl | exact leT_sln | exact leT_nil) ?_)))) ?_)))
       ·refine runX_condF rfl c11 ?_
        refine runX_skip ?_
        refine endX_blk ?_
        refine endX_seq ?_
        refine runX_regionC fun C hC => ?_
        try simp -implicitDefEqProofs (maxSteps := 4000000) (disch := first | omega | decide | (simp only [go_sem]; omega)) only [go_sem, ↓reduceIte]
        repeat (with_reducible refine And.intro (by first | assumption | omega | (simp; done) | (simp; omega)) ?_)
        refine toEnd hC ?_
        refine endX_q (roundQ_normal ⟨m1, by omega, F23_S1 a0 a1 (IntKind.wrap .i64 (x4 + (1 : Int))) v10.2.2.1 v10.2.2.2.2 x7, ?_, (IntKind.wrap .i64 (x4 + (1 : Int))), v10.2.2.1, v10.2.2.2.2, x7, rfl, by omega, h⟩)
        simp only [F23_S1]
        (try simp -implicitDefEqProofs (maxSteps := 4000000) (disch := first | omega | decide | (simp only [go_sem]; omega)) only [go_sem, ↓reduceIte])
        first | exact leS_refl _ | (refine leS_le ?_ ?_ <;> first | exact leL_refl _ | exact leOs_refl _ | (simp only [List.append_assoc, List.cons_append, List.nil_append]; exact leOs_refl _) | (repeat (first | exact leL_refl _ | refine leL_cons (by first | exact leT_refl _ | exact leT_virt | exact leT_junk _ | exact leT_sl | exact leT_sln | exact leT_nil | (refine leT_agg (by repeat (first | exact leL_refl _ | refine leL_cons (by first | exact leT_refl _ | exact leT_sl | exact leT_sln | exact leT_nil) ?_)))) ?_)))
      ·refine runX_condF rfl c8 ?_
       refine runX_exit ?_
       refine endX_seqE ?_
       refine endX_q (roundQ_exit ?_)
       refine endX_blkE ?_
       refine endX_seq ?_
       refine runX_seq ?_
       refine runX_regionC fun C hC => ?_
       try simp -implicitDefEqProofs (maxSteps := 4000000) (disch := first | omega | decide | (simp only [go_sem]; omega)) only [go_sem, ↓reduceIte]
       repeat (with_reducible refine And.intro (by first | assumption | omega | (simp; done) | (simp; omega)) ?_)
       refine toEnd hC ?_
       refine endX_seq ?_
       refine runX_ret ?_
       refine endX_q ?_
       obtain rfl := Option.some.inj h
       show RetW _ _ _ _ _
       simp only [RetW]
       (try simp -implicitDefEqProofs (maxSteps := 4000000) (disch := first | omega | decide | (simp only [go_sem]; omega)) only [go_sem, ↓reduceIte])
       (try simp (disch := omega) only [if_pos, Nat.sub_zero])
       first | exact leT_refl _ | (refine ⟨rfl, ?_⟩; first | exact leT_refl _ | exact leT_sl | exact leT_sln | exact leT_nil | (refine leT_tup (by repeat (first | exact leL_refl _ | refine leL_cons (by first | exact leT_refl _ | exact leT_virt | exact leT_junk _ | exact leT_sl | exact leT_sln | exact leT_nil | (refine leT_agg (by repeat (first | exact leL_refl _ | refine leL_cons (by first | exact leT_refl _ | exact leT_sl | exact leT_sln | exact leT_nil) ?_)))) ?_))) | (refine leT_agg (by repeat (first | exact leL_refl _ | refine leL_cons (by first | exact leT_refl _ | exact leT_virt | exact leT_junk _ | exact leT_sl | exact leT_sln | exact leT_nil | (refine leT_agg (by repeat (first | exact leL_refl _ | refine leL_cons (by first | exact leT_refl _ | exact leT_sl | exact leT_sln | exact leT_nil) ?_)))) ?_)))) | (first | exact leT_refl _ | exact leT_sl | exact leT_sln | exact leT_nil | (refine leT_tup (by repeat (first | exact leL_refl _ | refine leL_cons (by first | exact leT_refl _ | exact leT_virt | exact leT_junk _ | exact leT_sl | exact leT_sln | exact leT_nil | (refine leT_agg (by repeat (first | exact leL_refl _ | refine leL_cons (by first | exact leT_refl _ | exact leT_sl | exact leT_sln | exact leT_nil) ?_)))) ?_))) | (refine leT_agg (by repeat (first | exact leL_refl _ | refine leL_cons (by first | exact leT_refl _ | exact leT_virt | exact leT_junk _ | exact leT_sl | exact leT_sln | exact leT_nil | (refine leT_agg (by repeat (first | exact leL_refl _ | refine leL_cons (by first | exact leT_refl _ | exact leT_sl | exact leT_sln | exact leT_nil) ?_)))) ?_)))) | (simp only [List.append_assoc, List.cons_append, List.nil_append]; exact leT_refl _) | (rw [List.take_of_length_le (by simp)]; (try simp only [List.append_assoc, List.cons_append, List.nil_append]); exact leT_refl _)
end Go.Proofs.YtjkfobmfddfjhaaDoorX

set_option linter.unusedVariables false
set_option linter.unusedSimpArgs false
namespace Go.Proofs.YtjkfobmfddfjhaaDoorX
open Go Go.RowKit Go.Proofs
set_option maxRecDepth 100000
attribute [local go_sem ↓] stepsK_build stepsK_bs appendS
attribute [local go_sem] String.reduceEq String.reduceNe reduceCtorEq Int.reduceEq Nat.reduceAdd Nat.reduceSub Nat.reduceMul Nat.reduceLT Nat.reduceLeDiff Nat.reduceEqDiff Nat.reduceBEq Int.reduceToNat Int.reduceLT Int.reduceLE Int.reduceGT Int.reduceGE Int.reduceAdd Int.reduceSub Int.reduceMul Int.reduceNeg Int.reduceBEq Int.reduceBNe Int.reducePow Int.reduceDiv Int.reduceMod Int.reduceTDiv Int.reduceTMod Int.reduceNatCast
/-! ### shadowboxlaw41.LifecycleStays -/
def F7_S2 (a0 : List ((List UInt8) × (List UInt8) × (Bool) × (Int) × (Int) × (Int))) (a1 : List ((List UInt8) × (Int) × (Bool) × (Int))) (v8 : List ((Int) × (List UInt8) × (Int))) (v9 : List ((Int) × (List UInt8) × (Int))) (x12 : Int) (a2 : (List (Int)) × (Int)) (x14 : Int) (x15 : Int) : St := ⟨[.sl 6 false (List.map eT55 a0), .sl 4 false (List.map eT57 a1), .junk, .junk, .junk, .ref 0 0 0 0, .junk, .junk, .junk, .junk, .junk, .junk, .sl 3 false (List.map eT53 v8), .sl 3 false (List.map eT53 v9), .imm (.int .i64 x12), .imm (.int .i64 x14), .imm (.int .i64 x15), .junk, .junk, .junk, .junk, .junk, .junk, .junk, .junk, .junk, .junk, .junk, .junk, .junk, .junk, .junk, .junk, .junk, .junk, .junk, .junk, .junk, .junk, .junk, .junk, .junk, .junk, .junk, .junk, .junk, .junk, .junk, .junk, .junk, .junk, .junk, .junk, .junk, .junk, .junk, .junk, .junk, .junk, .junk, .junk, .junk, .junk, .junk, .junk, .junk, .junk, .junk, .junk, .junk, .junk, .junk, .junk, .junk, .junk, .junk, .junk, .junk, .junk, .junk, .junk, .junk, .junk, .junk, .junk, .junk, .junk, .junk, .junk, .junk, .junk, .junk, .junk, .junk, .junk, .junk, .junk, .junk, .junk, .junk, .junk, .junk, .junk, .junk, .junk, .junk, .junk, .junk, .junk, .junk, .junk, .junk, .junk, .junk, .junk, .junk, .junk, .junk, .junk, .junk, .junk, .junk, .junk, .junk, .junk, .junk, .junk, .junk, .junk, .junk, .junk, .junk, .junk, .junk, .junk, .junk, .junk, .junk, .junk, .junk, .junk, .junk, .junk, .junk, .junk, .junk, .junk, .junk, .junk, .junk, .junk, .junk, .junk, .junk, .junk, .junk, .junk, .junk, .junk, .junk, .junk, .junk], [some (.box 44 (.agg [.sl 1 false (List.map (eI .i64) a2.1), .imm (.int .i64 a2.2)]) false)]⟩
def F7_S3 (a0 : List ((List UInt8) × (List UInt8) × (Bool) × (Int) × (Int) × (Int))) (a1 : List ((List UInt8) × (Int) × (Bool) × (Int))) (a2 : (List (Int)) × (Int)) (x21 : Int) (x22 : List ((List UInt8) × (List UInt8) × (Bool) × (Int) × (Int) × (Int))) : St := ⟨[.sl 6 false (List.map eT55 a0), .sl 4 false (List.map eT57 a1), .junk, .junk, .junk, .ref 0 0 0 0, .junk, .junk, .junk, .junk, .junk, .junk, .junk, .junk, .junk, .junk, .junk, .rsl 1 6 0 x22.length, .imm (.int .i64 x21), .junk, .junk, .junk, .junk, .junk, .junk, .junk, .junk, .junk, .junk, .junk, .junk, .junk, .junk, .junk, .junk, .junk, .junk, .junk, .junk, .junk, .junk, .junk, .junk, .junk, .junk, .junk, .junk, .junk, .junk, .junk, .junk, .junk, .junk, .junk, .junk, .junk, .junk, .junk, .junk, .junk, .junk, .junk, .junk, .junk, .junk, .junk, .junk, .junk, .junk, .junk, .junk, .junk, .junk, .junk, .junk, .junk, .junk, .junk, .junk, .junk, .junk, .junk, .junk, .junk, .junk, .junk, .junk, .junk, .junk, .junk, .junk, .junk, .junk, .junk, .junk, .junk, .junk, .junk, .junk, .junk, .junk, .junk, .junk, .junk, .junk, .junk, .junk, .junk, .junk, .junk, .junk, .junk, .junk, .junk, .junk, .junk, .junk, .junk, .junk, .junk, .junk, .junk, .junk, .junk, .junk, .junk, .junk, .junk, .junk, .junk, .junk, .junk, .junk, .junk, .junk, .junk, .junk, .junk, .junk, .junk, .junk, .junk, .junk, .junk, .junk, .junk, .junk, .junk, .junk, .junk, .junk, .junk, .junk, .junk, .junk, .junk, .junk, .junk, .junk, .junk, .junk, .junk], [some (.box 44 (.agg [.sl 1 false (List.map (eI .i64) a2.1), .imm (.int .i64 a2.2)]) false), some (.buf 56 6 (List.map eT55 x22) 0)]⟩
def F7_S1 (a0 : List ((List UInt8) × (List UInt8) × (Bool) × (Int) × (Int) × (Int))) (a1 : List ((List UInt8) × (Int) × (Bool) × (Int))) (v8 : List ((Int) × (List UInt8) × (Int))) (v9 : List ((Int) × (List UInt8) × (Int))) (a2 : (List (Int)) × (Int)) (x12 : Int) : St := ⟨[.sl 6 false (List.map eT55 a0), .sl 4 false (List.map eT57 a1), .junk, .junk, .junk, .ref 0 0 0 0, .junk, .junk, .junk, .junk, .junk, .junk, .sl 3 false (List.map eT53 v8), .sl 3 false (List.map eT53 v9), .imm (.int .i64 x12), .junk, .junk, .junk, .junk, .junk, .junk, .junk, .junk, .junk, .junk, .junk, .junk, .junk, .junk, .junk, .junk, .junk, .junk, .junk, .junk, .junk, .junk, .junk, .junk, .junk, .junk, .junk, .junk, .junk, .junk, .junk, .junk, .junk, .junk, .junk, .junk, .junk, .junk, .junk, .junk, .junk, .junk, .junk, .junk, .junk, .junk, .junk, .junk, .junk, .junk, .junk, .junk, .junk, .junk, .junk, .junk, .junk, .junk, .junk, .junk, .junk, .junk, .junk, .junk, .junk, .junk, .junk, .junk, .junk, .junk, .junk, .junk, .junk, .junk, .junk, .junk, .junk, .junk, .junk, .junk, .junk, .junk, .junk, .junk, .junk, .junk, .junk, .junk, .junk, .junk, .junk, .junk, .junk, .junk, .junk, .junk, .junk, .junk, .junk, .junk, .junk, .junk, .junk, .junk, .junk, .junk, .junk, .junk, .junk, .junk, .junk, .junk, .junk, .junk, .junk, .junk, .junk, .junk, .junk, .junk, .junk, .junk, .junk, .junk, .junk, .junk, .junk, .junk, .junk, .junk, .junk, .junk, .junk, .junk, .junk, .junk, .junk, .junk, .junk, .junk, .junk, .junk, .junk, .junk, .junk, .junk, .junk], [some (.box 44 (.agg [.sl 1 false (List.map (eI .i64) a2.1), .imm (.int .i64 a2.2)]) false)]⟩
mutual
def F7_L2 : Nat → (List ((List UInt8) × (List UInt8) × (Bool) × (Int) × (Int) × (Int))) → (List ((List UInt8) × (Int) × (Bool) × (Int))) → (List ((Int) × (List UInt8) × (Int))) → (List ((Int) × (List UInt8) × (Int))) → (Int) → ((List (Int)) × (Int)) → (Int) → (Int) → Option (Bool)
 | 0, _, _, _, _, _, _, _, _ => none
 | m2 + 1, a0, a1, v8, v9, x12, a2, x14, x15 => iteB (decide (x15 < (v8.length : Int))) (grd (0 ≤ x15 ∧ x15 < (v8.length : Int)) (grd (0 ≤ x12 ∧ x12 < (v9.length : Int)) (iteB ((((v8.getD x15.toNat default).1) == ((v9.getD x12.toNat default).1)) && ((((v8.getD x15.toNat default).2.1) == ((v9.getD x12.toNat default).2.1)) && (((v8.getD x15.toNat default).2.2) == ((v9.getD x12.toNat default).2.2)))) (F7_L2 m2 a0 a1 v8 v9 x12 a2 (IntKind.wrap .i64 (x14 + (1 : Int))) (IntKind.wrap .i64 (x15 + (1 : Int)))) (F7_L2 m2 a0 a1 v8 v9 x12 a2 x14 (IntKind.wrap .i64 (x15 + (1 : Int))))))) (iteB (x14 != (1 : Int)) (some false) (F7_L1 m2 a0 a1 v8 v9 a2 (IntKind.wrap .i64 (x12 + (1 : Int)))))
def F7_L3 : Nat → (List ((List UInt8) × (List UInt8) × (Bool) × (Int) × (Int) × (Int))) → (List ((List UInt8) × (Int) × (Bool) × (Int))) → ((List (Int)) × (Int)) → (Int) → (List ((List UInt8) × (List UInt8) × (Bool) × (Int) × (Int) × (Int))) → Option (Bool)
 | 0, _, _, _, _, _ => none
 | m3 + 1, a0, a1, a2, x21, x22 => iteB (decide (x21 < (a0.length : Int))) (grd (0 ≤ x21 ∧ x21 < (a0.length : Int)) (grd ((x22.length + 1) ≤ 549755813888) (F7_L3 m3 a0 a1 a2 (IntKind.wrap .i64 (x21 + (1 : Int))) (x22 ++ [((a0.getD x21.toNat default).1, (a0.getD x21.toNat default).2.1, false, (a0.getD x21.toNat default).2.2.2.1, (a0.getD x21.toNat default).2.2.2.2.1, (a0.getD x21.toNat default).2.2.2.2.2)])))) ((F22 m3 ([(([97] : List UInt8), [], true, (1 : Int), (0 : Int), (0 : Int))]) ([(([107] : List UInt8), (7 : Int), false, (0 : Int))]) [(0 : Int)] (86400 : Int)).bind fun v26 => (F22 m3 x22 a1 a2.1 a2.2).bind fun v27 => iteB ((v27.length : Int) == (0 : Int)) ((F23 m3 x22 a1 a2.1 a2.2).bind fun v29 => iteB ((v29.length : Int) == (0 : Int)) (iteB ((v26.length : Int) == (1 : Int)) (grd ((0 : Int) < (v26.length : Int)) (some (((v26.getD (0 : Int).toNat default).1) == (1 : Int)))) (some false)) (some false)) (some false))
def F7_L1 : Nat → (List ((List UInt8) × (List UInt8) × (Bool) × (Int) × (Int) × (Int))) → (List ((List UInt8) × (Int) × (Bool) × (Int))) → (List ((Int) × (List UInt8) × (Int))) → (List ((Int) × (List UInt8) × (Int))) → ((List (Int)) × (Int)) → (Int) → Option (Bool)
 | 0, _, _, _, _, _, _ => none
 | m1 + 1, a0, a1, v8, v9, a2, x12 => iteB (decide (x12 < (v9.length : Int))) (F7_L2 m1 a0 a1 v8 v9 x12 a2 (0 : Int) (0 : Int)) (F7_L3 m1 a0 a1 a2 (0 : Int) [])
end
def F7 (n : Nat) (a0 : List ((List UInt8) × (List UInt8) × (Bool) × (Int) × (Int) × (Int))) (a1 : List ((List UInt8) × (Int) × (Bool) × (Int))) (a2 : (List (Int)) × (Int)) : Option (Bool) := (F20 n a0).bind fun v1 => (F21 n a1).bind fun v2 => iteB (!v1.2) (some true) (iteB (!v2.2) (some true) (iteB (decide ((200 : Int) < (a2.1.length : Int))) (some true) (iteB (decide ((16 : Int) < (a0.length : Int))) (some true) ((F22 n a0 a1 a2.1 a2.2).bind fun v7 => (F22 n a0 a1 a2.1 (IntKind.wrap .i64 ((IntKind.wrap .i64 (bAnd .i64 a2.2 (281474976710655 : Int))) + (8640000000 : Int)))).bind fun v8 => (F22 n a0 a1 a2.1 (IntKind.wrap .i64 (bAnd .i64 a2.2 (281474976710655 : Int)))).bind fun v9 => iteB (decide ((a1.length : Int) < (v7.length : Int))) (some false) (iteB (decide ((v8.length : Int) < (v9.length : Int))) (some false) (F7_L1 n a0 a1 v8 v9 a2 (0 : Int)))))))
set_option maxHeartbeats 4000000 in
theorem F7_ok : ∀ (n : Nat) (a0 : List ((List UInt8) × (List UInt8) × (Bool) × (Int) × (Int) × (Int))) (a1 : List ((List UInt8) × (Int) × (Bool) × (Int))) (a2 : (List (Int)) × (Int)) (r : Bool), F7 n a0 a1 a2 = some r → FnC Tryd.prog 7 [.sl 6 false (List.map eT55 a0), .sl 4 false (List.map eT57 a1), .agg [.sl 1 false (List.map (eI .i64) a2.1), .imm (.int .i64 a2.2)]] (.imm (.bool r))
 | n, a0, a1, a2, r, h => by
  unfold F7 at h
  refine FnC.goX mixed Tryd.func7 (by kernel_rfl) rfl ?_
  simp only [Tryd.ntmps7, List.length_cons, List.length_nil, List.replicate, List.cons_append, List.nil_append, Nat.reduceAdd, Nat.reduceSub]
  refine runX_seq ?_
  refine runX_regionC fun C hC => ?_
  try simp -implicitDefEqProofs (maxSteps := 4000000) (disch := first | omega | decide | (simp only [go_sem]; omega)) only [go_sem, ↓reduceIte]
  repeat (with_reducible refine And.intro (by first | assumption | omega | (simp; done) | (simp; omega)) ?_)
  refine toEnd hC ?_
  refine endX_seq ?_
  refine runX_seq ?_
  refine runX_regionC fun C hC => ?_
  obtain ⟨v1, h1, h⟩ := bnd_some h
  try simp -implicitDefEqProofs (maxSteps := 4000000) (disch := first | omega | decide | (simp only [go_sem]; omega)) only [go_sem, ↓reduceIte]
  repeat (with_reducible refine And.intro (by first | assumption | omega | (simp; done) | (simp; omega)) ?_)
  refine callG_X (by first | rfl | (simp only [go_sem]; done) | (simp only [closedL, closedT, Bool.and_true]; exact closedL_map _ (fun _ => by first | rfl | (simp only [go_sem]; done)) _)) (F20_ok n a0 _ h1) (by repeat (first | exact leL_refl _ | refine leL_cons (by first | exact leT_refl _ | exact leT_virt | exact leT_junk _ | exact leT_sl | exact leT_sln | exact leT_nil | (refine leT_agg (by repeat (first | exact leL_refl _ | refine leL_cons (by first | exact leT_refl _ | exact leT_sl | exact leT_sln | exact leT_nil) ?_)))) ?_)) ?_
  try simp -implicitDefEqProofs (maxSteps := 4000000) (disch := first | omega | decide | (simp only [go_sem]; omega)) only [go_sem, ↓reduceIte]
  repeat (with_reducible refine And.intro (by first | assumption | omega | (simp; done) | (simp; omega)) ?_)
  refine toEnd hC ?_
  refine endX_seq ?_
  refine runX_seq ?_
  refine runX_regionC fun C hC => ?_
  obtain ⟨v2, h2, h⟩ := bnd_some h
  try simp -implicitDefEqProofs (maxSteps := 4000000) (disch := first | omega | decide | (simp only [go_sem]; omega)) only [go_sem, ↓reduceIte]
  repeat (with_reducible refine And.intro (by first | assumption | omega | (simp; done) | (simp; omega)) ?_)
  refine callG_X (by first | rfl | (simp only [go_sem]; done) | (simp only [closedL, closedT, Bool.and_true]; exact closedL_map _ (fun _ => by first | rfl | (simp only [go_sem]; done)) _)) (F21_ok n a1 _ h2) (by repeat (first | exact leL_refl _ | refine leL_cons (by first | exact leT_refl _ | exact leT_virt | exact leT_junk _ | exact leT_sl | exact leT_sln | exact leT_nil | (refine leT_agg (by repeat (first | exact leL_refl _ | refine leL_cons (by first | exact leT_refl _ | exact leT_sl | exact leT_sln | exact leT_nil) ?_)))) ?_)) ?_
  try simp -implicitDefEqProofs (maxSteps := 4000000) (disch := first | omega | decide | (simp only [go_sem]; omega)) only [go_sem, ↓reduceIte]
  repeat (with_reducible refine And.intro (by first | assumption | omega | (simp; done) | (simp; omega)) ?_)
  refine toEnd hC ?_
  refine endX_seq ?_
  refine runX_seq ?_
  refine runX_seq ?_
  refine runX_regionC fun C hC => ?_
  try simp -implicitDefEqProofs (maxSteps := 4000000) (disch := first | omega | decide | (simp only [go_sem]; omega)) only [go_sem, ↓reduceIte]
  repeat (with_reducible refine And.intro (by first | assumption | omega | (simp; done) | (simp; omega)) ?_)
  rcases iteB_some h with ⟨c3, h⟩ | ⟨c3, h⟩
  ·refine guardK_F c3 ?_
   try simp -implicitDefEqProofs (maxSteps := 4000000) (disch := first | omega | decide | (simp only [go_sem]; omega)) only [go_sem, ↓reduceIte]
   repeat (with_reducible refine And.intro (by first | assumption | omega | (simp; done) | (simp; omega)) ?_)
   refine toEnd hC ?_
   refine endX_seq ?_
   refine runX_condT rfl rfl ?_
   refine runX_seq ?_
   refine runX_regionC fun C hC => ?_
   try simp -implicitDefEqProofs (maxSteps := 4000000) (disch := first | omega | decide | (simp only [go_sem]; omega)) only [go_sem, ↓reduceIte]
   repeat (with_reducible refine And.intro (by first | assumption | omega | (simp; done) | (simp; omega)) ?_)
   refine toEnd hC ?_
   refine endX_seq ?_
   refine runX_ret ?_
   refine endX_seqR ?_
   refine endX_q ?_
   obtain rfl := Option.some.inj h
   show RetW _ _ _ _ _
   simp only [RetW]
   (try simp -implicitDefEqProofs (maxSteps := 4000000) (disch := first | omega | decide | (simp only [go_sem]; omega)) only [go_sem, ↓reduceIte])
   (try simp (disch := omega) only [if_pos, Nat.sub_zero])
   exact leT_refl _
  ·refine guardK_T c3 ?_
   try simp -implicitDefEqProofs (maxSteps := 4000000) (disch := first | omega | decide | (simp only [go_sem]; omega)) only [go_sem, ↓reduceIte]
   repeat (with_reducible refine And.intro (by first | assumption | omega | (simp; done) | (simp; omega)) ?_)
   rcases iteB_some h with ⟨c4, h⟩ | ⟨c4, h⟩
   ·refine guardK_F c4 ?_
    try simp -implicitDefEqProofs (maxSteps := 4000000) (disch := first | omega | decide | (simp only [go_sem]; omega)) only [go_sem, ↓reduceIte]
    repeat (with_reducible refine And.intro (by first | assumption | omega | (simp; done) | (simp; omega)) ?_)
    refine toEnd hC ?_
    refine endX_seq ?_
    refine runX_condT rfl rfl ?_
    refine runX_seq ?_
    refine runX_regionC fun C hC => ?_
    try simp -implicitDefEqProofs (maxSteps := 4000000) (disch := first | omega | decide | (simp only [go_sem]; omega)) only [go_sem, ↓reduceIte]
    repeat (with_reducible refine And.intro (by first | assumption | omega | (simp; done) | (simp; omega)) ?_)
    refine toEnd hC ?_
    refine endX_seq ?_
    refine runX_ret ?_
    refine endX_seqR ?_
    refine endX_q ?_
    obtain rfl := Option.some.inj h
    show RetW _ _ _ _ _
    simp only [RetW]
    (try simp -implicitDefEqProofs (maxSteps := 4000000) (disch := first | omega | decide | (simp only [go_sem]; omega)) only [go_sem, ↓reduceIte])
    (try simp (disch := omega) only [if_pos, Nat.sub_zero])
    exact leT_refl _
   ·refine guardK_T c4 ?_
    try simp -implicitDefEqProofs (maxSteps := 4000000) (disch := first | omega | decide | (simp only [go_sem]; omega)) only [go_sem, ↓reduceIte]
    repeat (with_reducible refine And.intro (by first | assumption | omega | (simp; done) | (simp; omega)) ?_)
    rcases iteB_some h with ⟨c5, h⟩ | ⟨c5, h⟩
    ·refine guardK_F c5 ?_
     try simp -implicitDefEqProofs (maxSteps := 4000000) (disch := first | omega | decide | (simp only [go_sem]; omega)) only [go_sem, ↓reduceIte]
     repeat (with_reducible refine And.intro (by first | assumption | omega | (simp; done) | (simp; omega)) ?_)
     refine toEnd hC ?_
     refine endX_seq ?_
     refine runX_condT rfl rfl ?_
     refine runX_seq ?_
     refine runX_regionC fun C hC => ?_
     try simp -implicitDefEqProofs (maxSteps := 4000000) (disch := first | omega | decide | (simp only [go_sem]; omega)) only [go_sem, ↓reduceIte]
     repeat (with_reducible refine And.intro (by first | assumption | omega | (simp; done) | (simp; omega)) ?_)
     refine toEnd hC ?_
     refine endX_seq ?_
     refine runX_ret ?_
     refine endX_seqR ?_
     refine endX_q ?_
     obtain rfl := Option.some.inj h
     show RetW _ _ _ _ _
     simp only [RetW]
     (try simp -implicitDefEqProofs (maxSteps := 4000000) (disch := first | omega | decide | (simp only [go_sem]; omega)) only [go_sem, ↓reduceIte])
     (try simp (disch := omega) only [if_pos, Nat.sub_zero])
     exact leT_refl _
    ·refine guardK_T c5 ?_
     try simp -implicitDefEqProofs (maxSteps := 4000000) (disch := first | omega | decide | (simp only [go_sem]; omega)) only [go_sem, ↓reduceIte]
     repeat (with_reducible refine And.intro (by first | assumption | omega | (simp; done) | (simp; omega)) ?_)
     refine toEnd hC ?_
     refine endX_seq ?_
     rcases iteB_some h with ⟨c6, h⟩ | ⟨c6, h⟩
     ·refine runX_condT rfl c6 ?_
      refine runX_seq ?_
      refine runX_regionC fun C hC => ?_
      try simp -implicitDefEqProofs (maxSteps := 4000000) (disch := first | omega | decide | (simp only [go_sem]; omega)) only [go_sem, ↓reduceIte]
      repeat (with_reducible refine And.intro (by first | assumption | omega | (simp; done) | (simp; omega)) ?_)
      refine toEnd hC ?_
      refine endX_seq ?_
      refine runX_ret ?_
      refine endX_seqR ?_
      refine endX_q ?_
      obtain rfl := Option.some.inj h
      show RetW _ _ _ _ _
      simp only [RetW]
      (try simp -implicitDefEqProofs (maxSteps := 4000000) (disch := first | omega | decide | (simp only [go_sem]; omega)) only [go_sem, ↓reduceIte])
      (try simp (disch := omega) only [if_pos, Nat.sub_zero])
      exact leT_refl _
     ·refine runX_condF rfl c6 ?_
      refine runX_skip ?_
      refine endX_seq ?_
      refine runX_seq ?_
      refine runX_regionC fun C hC => ?_
      obtain ⟨v7, h7, h⟩ := bnd_some h
      try simp -implicitDefEqProofs (maxSteps := 4000000) (disch := first | omega | decide | (simp only [go_sem]; omega)) only [go_sem, ↓reduceIte]
      repeat (with_reducible refine And.intro (by first | assumption | omega | (simp; done) | (simp; omega)) ?_)
      refine callG_X (by first | rfl | (simp only [go_sem]; done) | (simp only [closedL, closedT, Bool.and_true]; exact closedL_map _ (fun _ => by first | rfl | (simp only [go_sem]; done)) _)) (F22_ok n a0 a1 a2.1 a2.2 _ h7) (by repeat (first | exact leL_refl _ | refine leL_cons (by first | exact leT_refl _ | exact leT_virt | exact leT_junk _ | exact leT_sl | exact leT_sln | exact leT_nil | (refine leT_agg (by repeat (first | exact leL_refl _ | refine leL_cons (by first | exact leT_refl _ | exact leT_sl | exact leT_sln | exact leT_nil) ?_)))) ?_)) ?_
      try simp -implicitDefEqProofs (maxSteps := 4000000) (disch := first | omega | decide | (simp only [go_sem]; omega)) only [go_sem, ↓reduceIte]
      repeat (with_reducible refine And.intro (by first | assumption | omega | (simp; done) | (simp; omega)) ?_)
      refine toEnd hC ?_
      refine endX_seq ?_
      refine runX_seq ?_
      refine runX_regionC fun C hC => ?_
      obtain ⟨v8, h8, h⟩ := bnd_some h
      try simp -implicitDefEqProofs (maxSteps := 4000000) (disch := first | omega | decide | (simp only [go_sem]; omega)) only [go_sem, ↓reduceIte]
      repeat (with_reducible refine And.intro (by first | assumption | omega | (simp; done) | (simp; omega)) ?_)
      refine callG_X (by first | rfl | (simp only [go_sem]; done) | (simp only [closedL, closedT, Bool.and_true]; exact closedL_map _ (fun _ => by first | rfl | (simp only [go_sem]; done)) _)) (F22_ok n a0 a1 a2.1 (IntKind.wrap .i64 ((IntKind.wrap .i64 (bAnd .i64 a2.2 (281474976710655 : Int))) + (8640000000 : Int))) _ h8) (by repeat (first | exact leL_refl _ | refine leL_cons (by first | exact leT_refl _ | exact leT_virt | exact leT_junk _ | exact leT_sl | exact leT_sln | exact leT_nil | (refine leT_agg (by repeat (first | exact leL_refl _ | refine leL_cons (by first | exact leT_refl _ | exact leT_sl | exact leT_sln | exact leT_nil) ?_)))) ?_)) ?_
      try simp -implicitDefEqProofs (maxSteps := 4000000) (disch := first | omega | decide | (simp only [go_sem]; omega)) only [go_sem, ↓reduceIte]
      repeat (with_reducible refine And.intro (by first | assumption | omega | (simp; done) | (simp; omega)) ?_)
      refine toEnd hC ?_
      refine endX_seq ?_
      refine runX_seq ?_
      refine runX_regionC fun C hC => ?_
      obtain ⟨v9, h9, h⟩ := bnd_some h
      try simp -implicitDefEqProofs (maxSteps := 4000000) (disch := first | omega | decide | (simp only [go_sem]; omega)) only [go_sem, ↓reduceIte]
      repeat (with_reducible refine And.intro (by first | assumption | omega | (simp; done) | (simp; omega)) ?_)
      refine callG_X (by first | rfl | (simp only [go_sem]; done) | (simp only [closedL, closedT, Bool.and_true]; exact closedL_map _ (fun _ => by first | rfl | (simp only [go_sem]; done)) _)) (F22_ok n a0 a1 a2.1 (IntKind.wrap .i64 (bAnd .i64 a2.2 (281474976710655 : Int))) _ h9) (by repeat (first | exact leL_refl _ | refine leL_cons (by first | exact leT_refl _ | exact leT_virt | exact leT_junk _ | exact leT_sl | exact leT_sln | exact leT_nil | (refine leT_agg (by repeat (first | exact leL_refl _ | refine leL_cons (by first | exact leT_refl _ | exact leT_sl | exact leT_sln | exact leT_nil) ?_)))) ?_)) ?_
      try simp -implicitDefEqProofs (maxSteps := 4000000) (disch := first | omega | decide | (simp only [go_sem]; omega)) only [go_sem, ↓reduceIte]
      repeat (with_reducible refine And.intro (by first | assumption | omega | (simp; done) | (simp; omega)) ?_)
      refine toEnd hC ?_
      refine endX_seq ?_
      refine runX_seq ?_
      refine runX_seq ?_
      refine runX_regionC fun C hC => ?_
      try simp -implicitDefEqProofs (maxSteps := 4000000) (disch := first | omega | decide | (simp only [go_sem]; omega)) only [go_sem, ↓reduceIte]
      repeat (with_reducible refine And.intro (by first | assumption | omega | (simp; done) | (simp; omega)) ?_)
      rcases iteB_some h with ⟨c10, h⟩ | ⟨c10, h⟩
      ·refine guardK_F c10 ?_
       try simp -implicitDefEqProofs (maxSteps := 4000000) (disch := first | omega | decide | (simp only [go_sem]; omega)) only [go_sem, ↓reduceIte]
       repeat (with_reducible refine And.intro (by first | assumption | omega | (simp; done) | (simp; omega)) ?_)
       refine toEnd hC ?_
       refine endX_seq ?_
       refine runX_condT rfl rfl ?_
       refine runX_seq ?_
       refine runX_regionC fun C hC => ?_
       try simp -implicitDefEqProofs (maxSteps := 4000000) (disch := first | omega | decide | (simp only [go_sem]; omega)) only [go_sem, ↓reduceIte]
       repeat (with_reducible refine And.intro (by first | assumption | omega | (simp; done) | (simp; omega)) ?_)
       refine toEnd hC ?_
       refine endX_seq ?_
       refine runX_ret ?_
       refine endX_seqR ?_
       refine endX_q ?_
       obtain rfl := Option.some.inj h
       show RetW _ _ _ _ _
       simp only [RetW]
       (try simp -implicitDefEqProofs (maxSteps := 4000000) (disch := first | omega | decide | (simp only [go_sem]; omega)) only [go_sem, ↓reduceIte])
       (try simp (disch := omega) only [if_pos, Nat.sub_zero])
       exact leT_refl _
      ·refine guardK_T c10 ?_
       try simp -implicitDefEqProofs (maxSteps := 4000000) (disch := first | omega | decide | (simp only [go_sem]; omega)) only [go_sem, ↓reduceIte]
       repeat (with_reducible refine And.intro (by first | assumption | omega | (simp; done) | (simp; omega)) ?_)
       refine toEnd hC ?_
       refine endX_seq ?_
       rcases iteB_some h with ⟨c11, h⟩ | ⟨c11, h⟩
       ·refine runX_condT rfl c11 ?_
        refine runX_seq ?_
        refine runX_regionC fun C hC => ?_
        try simp -implicitDefEqProofs (maxSteps := 4000000) (disch := first | omega | decide | (simp only [go_sem]; omega)) only [go_sem, ↓reduceIte]
        repeat (with_reducible refine And.intro (by first | assumption | omega | (simp; done) | (simp; omega)) ?_)
        refine toEnd hC ?_
        refine endX_seq ?_
        refine runX_ret ?_
        refine endX_seqR ?_
        refine endX_q ?_
        obtain rfl := Option.some.inj h
        show RetW _ _ _ _ _
        simp only [RetW]
        (try simp -implicitDefEqProofs (maxSteps := 4000000) (disch := first | omega | decide | (simp only [go_sem]; omega)) only [go_sem, ↓reduceIte])
        (try simp (disch := omega) only [if_pos, Nat.sub_zero])
        exact leT_refl _
       ·refine runX_condF rfl c11 ?_
        refine runX_skip ?_
        refine endX_seq ?_
        refine runX_seq ?_
        refine runX_seq ?_
        refine runX_regionC fun C hC => ?_
        try simp -implicitDefEqProofs (maxSteps := 4000000) (disch := first | omega | decide | (simp only [go_sem]; omega)) only [go_sem, ↓reduceIte]
        repeat (with_reducible refine And.intro (by first | assumption | omega | (simp; done) | (simp; omega)) ?_)
        refine toEnd hC ?_
        refine endX_seq ?_
        refine runX_block ?_
        refine runX_loop [0, 1, 5, 12, 13, 14] (fun m S => ∃ (x12 : Int), S = F7_S1 a0 a1 v8 v9 a2 x12 ∧ m ≤ n ∧ F7_L1 m a0 a1 v8 v9 a2 x12 = some r) n ⟨F7_S1 a0 a1 v8 v9 a2 (0 : Int), ?_, (0 : Int), rfl, Nat.le_refl _, h⟩ ?_
        ·simp only [F7_S1]
         (try simp -implicitDefEqProofs (maxSteps := 4000000) (disch := first | omega | decide | (simp only [go_sem]; omega)) only [go_sem, ↓reduceIte])
         first | exact leS_refl _ | (refine leS_le ?_ ?_ <;> first | exact leL_refl _ | exact leOs_refl _ | (simp only [List.append_assoc, List.cons_append, List.nil_append]; exact leOs_refl _) | (repeat (first | exact leL_refl _ | refine leL_cons (by first | exact leT_refl _ | exact leT_virt | exact leT_junk _ | exact leT_sl | exact leT_sln | exact leT_nil | (refine leT_agg (by repeat (first | exact leL_refl _ | refine leL_cons (by first | exact leT_refl _ | exact leT_sl | exact leT_sln | exact leT_nil) ?_)))) ?_)))
        ·clear h
         rintro m1 S ⟨x12, rfl, hm1, h⟩
         cases m1 with
         | zero => first | cases (show (none : Option _) = some _ from h) | (rw [F7_L1] at h; cases h)
         | succ m1 =>
          rw [F7_L1] at h
          simp only [F7_S1]
          refine runX_seq ?_
          refine runX_seq ?_
          refine runX_regionC fun C hC => ?_
          try simp -implicitDefEqProofs (maxSteps := 4000000) (disch := first | omega | decide | (simp only [go_sem]; omega)) only [go_sem, ↓reduceIte]
          repeat (with_reducible refine And.intro (by first | assumption | omega | (simp; done) | (simp; omega)) ?_)
          refine toEnd hC ?_
          refine endX_seq ?_
          rcases iteB_some h with ⟨c13, h⟩ | ⟨c13, h⟩
          ·refine runX_condT rfl c13 ?_
           refine runX_skip ?_
           refine endX_seq ?_
           refine runX_seq ?_
           refine runX_block ?_
           refine runX_seq ?_
           refine runX_regionC fun C hC => ?_
           try simp -implicitDefEqProofs (maxSteps := 4000000) (disch := first | omega | decide | (simp only [go_sem]; omega)) only [go_sem, ↓reduceIte]
           repeat (with_reducible refine And.intro (by first | assumption | omega | (simp; done) | (simp; omega)) ?_)
           refine toEnd hC ?_
           refine endX_seq ?_
           refine runX_seq ?_
           refine runX_seq ?_
           refine runX_regionC fun C hC => ?_
           try simp -implicitDefEqProofs (maxSteps := 4000000) (disch := first | omega | decide | (simp only [go_sem]; omega)) only [go_sem, ↓reduceIte]
           repeat (with_reducible refine And.intro (by first | assumption | omega | (simp; done) | (simp; omega)) ?_)
           refine toEnd hC ?_
           refine endX_seq ?_
           refine runX_block ?_
           refine runX_loop [0, 1, 5, 12, 13, 14, 15, 16] (fun m S => ∃ (x14 : Int) (x15 : Int), S = F7_S2 a0 a1 v8 v9 x12 a2 x14 x15 ∧ m ≤ m1 ∧ F7_L2 m a0 a1 v8 v9 x12 a2 x14 x15 = some r) m1 ⟨F7_S2 a0 a1 v8 v9 x12 a2 (0 : Int) (0 : Int), ?_, (0 : Int), (0 : Int), rfl, Nat.le_refl _, h⟩ ?_
           ·simp only [F7_S2]
            (try simp -implicitDefEqProofs (maxSteps := 4000000) (disch := first | omega | decide | (simp only [go_sem]; omega)) only [go_sem, ↓reduceIte])
            first | exact leS_refl _ | (refine leS_le ?_ ?_ <;> first | exact leL_refl _ | exact leOs_refl _ | (simp only [List.append_assoc, List.cons_append, List.nil_append]; exact leOs_refl _) | (repeat (first | exact leL_refl _ | refine leL_cons (by first | exact leT_refl _ | exact leT_virt | exact leT_junk _ | exact leT_sl | exact leT_sln | exact leT_nil | (refine leT_agg (by repeat (first | exact leL_refl _ | refine leL_cons (by first | exact leT_refl _ | exact leT_sl | exact leT_sln | exact leT_nil) ?_)))) ?_)))
           ·clear h
            rintro m2 S ⟨x14, x15, rfl, hm2, h⟩
            cases m2 with
            | zero => first | cases (show (none : Option _) = some _ from h) | (rw [F7_L2] at h; cases h)
            | succ m2 =>
             rw [F7_L2] at h
             simp only [F7_S2]
             refine runX_seq ?_
             refine runX_seq ?_
             refine runX_regionC fun C hC => ?_
             try simp -implicitDefEqProofs (maxSteps := 4000000) (disch := first | omega | decide | (simp only [go_sem]; omega)) only [go_sem, ↓reduceIte]
             repeat (with_reducible refine And.intro (by first | assumption | omega | (simp; done) | (simp; omega)) ?_)
             refine toEnd hC ?_
             refine endX_seq ?_
             rcases iteB_some h with ⟨c16, h⟩ | ⟨c16, h⟩
             ·refine runX_condT rfl c16 ?_
              refine runX_skip ?_
              refine endX_seq ?_
              refine runX_seq ?_
              refine runX_block ?_
              refine runX_seq ?_
              refine runX_drawC mixed (by kernel_rfl) fun C hC => ?_
              obtain ⟨g17, h⟩ := grd_some h
              obtain ⟨g18, h⟩ := grd_some h
              try simp -implicitDefEqProofs (maxSteps := 4000000) (disch := first | omega | decide | (simp only [go_sem]; omega)) only [go_sem, ↓reduceIte]
              repeat (with_reducible refine And.intro (by first | assumption | omega | (simp; done) | (simp; omega)) ?_)
              refine toEnd hC ?_
              refine endX_seq ?_
              rcases iteB_some h with ⟨c19, h⟩ | ⟨c19, h⟩
              ·refine runX_condT rfl c19 ?_
               refine runX_regionC fun C hC => ?_
               try simp -implicitDefEqProofs (maxSteps := 4000000) (disch := first | omega | decide | (simp only [go_sem]; omega)) only [go_sem, ↓reduceIte]
               repeat (with_reducible refine And.intro (by first | assumption | omega | (simp; done) | (simp; omega)) ?_)
               refine toEnd hC ?_
               refine endX_blk ?_
               refine endX_seq ?_
               refine runX_regionC fun C hC => ?_
               try simp -implicitDefEqProofs (maxSteps := 4000000) (disch := first | omega | decide | (simp only [go_sem]; omega)) only [go_sem, ↓reduceIte]
               repeat (with_reducible refine And.intro (by first | assumption | omega | (simp; done) | (simp; omega)) ?_)
               refine toEnd hC ?_
               refine endX_q (roundQ_normal ⟨m2, by omega, F7_S2 a0 a1 v8 v9 x12 a2 (IntKind.wrap .i64 (x14 + (1 : Int))) (IntKind.wrap .i64 (x15 + (1 : Int))), ?_, (IntKind.wrap .i64 (x14 + (1 : Int))), (IntKind.wrap .i64 (x15 + (1 : Int))), rfl, by omega, h⟩)
               simp only [F7_S2]
               (try simp -implicitDefEqProofs (maxSteps := 4000000) (disch := first | omega | decide | (simp only [go_sem]; omega)) only [go_sem, ↓reduceIte])
               first | exact leS_refl _ | (refine leS_le ?_ ?_ <;> first | exact leL_refl _ | exact leOs_refl _ | (simp only [List.append_assoc, List.cons_append, List.nil_append]; exact leOs_refl _) | (repeat (first | exact leL_refl _ | refine leL_cons (by first | exact leT_refl _ | exact leT_virt | exact leT_junk _ | exact leT_sl | exact leT_sln | exact leT_nil | (refine leT_agg (by repeat (first | exact leL_refl _ | refine leL_cons (by first | exact leT_refl _ | exact leT_sl | exact leT_sln | exact leT_nil) ?_)))) ?_)))
              ·refine runX_condF rfl c19 ?_
               refine runX_skip ?_
               refine endX_blk ?_
               refine endX_seq ?_
               refine runX_regionC fun C hC => ?_
               try simp -implicitDefEqProofs (maxSteps := 4000000) (disch := first | omega | decide | (simp only [go_sem]; omega)) only [go_sem, ↓reduceIte]
               repeat (with_reducible refine And.intro (by first | assumption | omega | (simp; done) | (simp; omega)) ?_)
               refine toEnd hC ?_
               refine endX_q (roundQ_normal ⟨m2, by omega, F7_S2 a0 a1 v8 v9 x12 a2 x14 (IntKind.wrap .i64 (x15 + (1 : Int))), ?_, x14, (IntKind.wrap .i64 (x15 + (1 : Int))), rfl, by omega, h⟩)
               simp only [F7_S2]
               (try simp -implicitDefEqProofs (maxSteps := 4000000) (disch := first | omega | decide | (simp only [go_sem]; omega)) only [go_sem, ↓reduceIte])
               first | exact leS_refl _ | (refine leS_le ?_ ?_ <;> first | exact leL_refl _ | exact leOs_refl _ | (simp only [List.append_assoc, List.cons_append, List.nil_append]; exact leOs_refl _) | (repeat (first | exact leL_refl _ | refine leL_cons (by first | exact leT_refl _ | exact leT_virt | exact leT_junk _ | exact leT_sl | exact leT_sln | exact leT_nil | (refine leT_agg (by repeat (first | exact leL_refl _ | refine leL_cons (by first | exact leT_refl _ | exact leT_sl | exact leT_sln | exact leT_nil) ?_)))) ?_)))
             ·refine runX_condF rfl c16 ?_
              refine runX_exit ?_
              refine endX_seqE ?_
              refine endX_q (roundQ_exit ?_)
              refine endX_blkE ?_
              refine endX_seq ?_
              refine runX_seq ?_
              refine runX_regionC fun C hC => ?_
              try simp -implicitDefEqProofs (maxSteps := 4000000) (disch := first | omega | decide | (simp only [go_sem]; omega)) only [go_sem, ↓reduceIte]
              repeat (with_reducible refine And.intro (by first | assumption | omega | (simp; done) | (simp; omega)) ?_)
              refine toEnd hC ?_
              refine endX_seq ?_
              rcases iteB_some h with ⟨c20, h⟩ | ⟨c20, h⟩
              ·refine runX_condT rfl c20 ?_
               refine runX_seq ?_
               refine runX_regionC fun C hC => ?_
               try simp -implicitDefEqProofs (maxSteps := 4000000) (disch := first | omega | decide | (simp only [go_sem]; omega)) only [go_sem, ↓reduceIte]
               repeat (with_reducible refine And.intro (by first | assumption | omega | (simp; done) | (simp; omega)) ?_)
               refine toEnd hC ?_
               refine endX_seq ?_
               refine runX_ret ?_
               refine endX_blkR ?_
               refine endX_seqR ?_
               refine endX_q (roundQ_ret ?_)
               refine endX_blkR ?_
               refine endX_seqR ?_
               refine endX_q ?_
               obtain rfl := Option.some.inj h
               show RetW _ _ _ _ _
               simp only [RetW]
               (try simp -implicitDefEqProofs (maxSteps := 4000000) (disch := first | omega | decide | (simp only [go_sem]; omega)) only [go_sem, ↓reduceIte])
               (try simp (disch := omega) only [if_pos, Nat.sub_zero])
               exact leT_refl _
              ·refine runX_condF rfl c20 ?_
               refine runX_skip ?_
               refine endX_blk ?_
               refine endX_seq ?_
               refine runX_regionC fun C hC => ?_
               try simp -implicitDefEqProofs (maxSteps := 4000000) (disch := first | omega | decide | (simp only [go_sem]; omega)) only [go_sem, ↓reduceIte]
               repeat (with_reducible refine And.intro (by first | assumption | omega | (simp; done) | (simp; omega)) ?_)
               refine toEnd hC ?_
               refine endX_q (roundQ_normal ⟨m2, by omega, F7_S1 a0 a1 v8 v9 a2 (IntKind.wrap .i64 (x12 + (1 : Int))), ?_, (IntKind.wrap .i64 (x12 + (1 : Int))), rfl, by omega, h⟩)
               simp only [F7_S1]
               (try simp -implicitDefEqProofs (maxSteps := 4000000) (disch := first | omega | decide | (simp only [go_sem]; omega)) only [go_sem, ↓reduceIte])
               first | exact leS_refl _ | (refine leS_le ?_ ?_ <;> first | exact leL_refl _ | exact leOs_refl _ | (simp only [List.append_assoc, List.cons_append, List.nil_append]; exact leOs_refl _) | (repeat (first | exact leL_refl _ | refine leL_cons (by first | exact leT_refl _ | exact leT_virt | exact leT_junk _ | exact leT_sl | exact leT_sln | exact leT_nil | (refine leT_agg (by repeat (first | exact leL_refl _ | refine leL_cons (by first | exact leT_refl _ | exact leT_sl | exact leT_sln | exact leT_nil) ?_)))) ?_)))
          ·refine runX_condF rfl c13 ?_
           refine runX_exit ?_
           refine endX_seqE ?_
           refine endX_q (roundQ_exit ?_)
           refine endX_blkE ?_
           refine endX_seq ?_
           refine runX_seq ?_
           refine runX_regionC fun C hC => ?_
           try simp -implicitDefEqProofs (maxSteps := 4000000) (disch := first | omega | decide | (simp only [go_sem]; omega)) only [go_sem, ↓reduceIte]
           repeat (with_reducible refine And.intro (by first | assumption | omega | (simp; done) | (simp; omega)) ?_)
           refine toEnd hC ?_
           refine endX_seq ?_
           refine runX_seq ?_
           refine runX_seq ?_
           refine runX_regionC fun C hC => ?_
           try simp -implicitDefEqProofs (maxSteps := 4000000) (disch := first | omega | decide | (simp only [go_sem]; omega)) only [go_sem, ↓reduceIte]
           repeat (with_reducible refine And.intro (by first | assumption | omega | (simp; done) | (simp; omega)) ?_)
           refine toEnd hC ?_
           refine endX_seq ?_
           refine runX_block ?_
           refine runX_loop [0, 1, 5, 17, 18] (fun m S => ∃ (x21 : Int) (x22 : List ((List UInt8) × (List UInt8) × (Bool) × (Int) × (Int) × (Int))), S = F7_S3 a0 a1 a2 x21 x22 ∧ m ≤ m1 ∧ F7_L3 m a0 a1 a2 x21 x22 = some r) m1 ⟨F7_S3 a0 a1 a2 (0 : Int) [], ?_, (0 : Int), [], rfl, Nat.le_refl _, h⟩ ?_
           ·(try simp -implicitDefEqProofs (maxSteps := 4000000) (disch := first | omega | decide | (simp only [go_sem]; omega)) only [go_sem, ↓reduceIte])
            simp only [F7_S3]
            refine leS_trans (leS_pad _ _ 1) ?_
            simp only [List.replicate, List.cons_append, List.nil_append]
            refine leS_virt 1 56 6 rfl ?_ ?_ rfl
            ·repeat (first | exact leL_refl _ | refine leL_cons (by first | exact leT_refl _ | exact leT_virt | exact leT_junk _ | exact leT_sl | exact leT_sln | exact leT_nil | (refine leT_agg (by repeat (first | exact leL_refl _ | refine leL_cons (by first | exact leT_refl _ | exact leT_sl | exact leT_sln | exact leT_nil) ?_)))) ?_)
            ·repeat (first | exact leOs_refl _ | refine leOs.cons (by first | exact leO.same _ | (refine leO.box (leT_agg (by repeat (first | exact leL_refl _ | refine leL_cons (by first | exact leT_refl _ | exact leT_virt | exact leT_junk _ | exact leT_sl | exact leT_sln | exact leT_nil | (refine leT_agg (by repeat (first | exact leL_refl _ | refine leL_cons (by first | exact leT_refl _ | exact leT_sl | exact leT_sln | exact leT_nil) ?_)))) ?_))) rfl) | (refine leO.box (by first | exact leT_virt | exact leT_sl | exact leT_sln) rfl)) ?_)
           ·clear h
            rintro m3 S ⟨x21, x22, rfl, hm3, h⟩
            cases m3 with
            | zero => first | cases (show (none : Option _) = some _ from h) | (rw [F7_L3] at h; cases h)
            | succ m3 =>
             rw [F7_L3] at h
             simp only [F7_S3]
             refine runX_seq ?_
             refine runX_seq ?_
             refine runX_regionC fun C hC => ?_
             try simp -implicitDefEqProofs (maxSteps := 4000000) (disch := first | omega | decide | (simp only [go_sem]; omega)) only [go_sem, ↓reduceIte]
             repeat (with_reducible refine And.intro (by first | assumption | omega | (simp; done) | (simp; omega)) ?_)
             refine toEnd hC ?_
             refine endX_seq ?_
             rcases iteB_some h with ⟨c23, h⟩ | ⟨c23, h⟩
             ·refine runX_condT rfl c23 ?_
              refine runX_skip ?_
              refine endX_seq ?_
              refine runX_seq ?_
              refine runX_block ?_
              refine runX_seq ?_
              refine runX_regionC fun C hC => ?_
              obtain ⟨g24, h⟩ := grd_some h
              try simp -implicitDefEqProofs (maxSteps := 4000000) (disch := first | omega | decide | (simp only [go_sem]; omega)) only [go_sem, ↓reduceIte]
              repeat (with_reducible refine And.intro (by first | assumption | omega | (simp; done) | (simp; omega)) ?_)
              refine toEnd hC ?_
              refine endX_seq ?_
              refine runX_seq ?_
              refine runX_regionC fun C hC => ?_
              try simp -implicitDefEqProofs (maxSteps := 4000000) (disch := first | omega | decide | (simp only [go_sem]; omega)) only [go_sem, ↓reduceIte]
              repeat (with_reducible refine And.intro (by first | assumption | omega | (simp; done) | (simp; omega)) ?_)
              refine toEnd hC ?_
              refine endX_seq ?_
              refine runX_regionC fun C hC => ?_
              try simp -implicitDefEqProofs (maxSteps := 4000000) (disch := first | omega | decide | (simp only [go_sem]; omega)) only [go_sem, ↓reduceIte]
              repeat (with_reducible refine And.intro (by first | assumption | omega | (simp; done) | (simp; omega)) ?_)
              refine bs_go <| buildX_val ?_
              obtain ⟨g25, h⟩ := grd_some h
              try simp -implicitDefEqProofs (maxSteps := 4000000) (disch := first | omega | decide | (simp only [go_sem]; omega)) only [go_sem, ↓reduceIte]
              repeat (with_reducible refine And.intro (by first | assumption | omega | (simp; done) | (simp; omega)) ?_)
              refine toEnd hC ?_
              refine endX_blk ?_
              refine endX_seq ?_
              refine runX_regionC fun C hC => ?_
              try simp -implicitDefEqProofs (maxSteps := 4000000) (disch := first | omega | decide | (simp only [go_sem]; omega)) only [go_sem, ↓reduceIte]
              repeat (with_reducible refine And.intro (by first | assumption | omega | (simp; done) | (simp; omega)) ?_)
              refine toEnd hC ?_
              refine endX_q (roundQ_normal ⟨m3, by omega, F7_S3 a0 a1 a2 (IntKind.wrap .i64 (x21 + (1 : Int))) (x22 ++ [((a0.getD x21.toNat default).1, (a0.getD x21.toNat default).2.1, false, (a0.getD x21.toNat default).2.2.2.1, (a0.getD x21.toNat default).2.2.2.2.1, (a0.getD x21.toNat default).2.2.2.2.2)]), ?_, (IntKind.wrap .i64 (x21 + (1 : Int))), (x22 ++ [((a0.getD x21.toNat default).1, (a0.getD x21.toNat default).2.1, false, (a0.getD x21.toNat default).2.2.2.1, (a0.getD x21.toNat default).2.2.2.2.1, (a0.getD x21.toNat default).2.2.2.2.2)]), rfl, by omega, h⟩)
              simp only [F7_S3]
              (try simp -implicitDefEqProofs (maxSteps := 4000000) (disch := first | omega | decide | (simp only [go_sem]; omega)) only [go_sem, ↓reduceIte])
              first | exact leS_refl _ | (refine leS_le ?_ ?_ <;> first | exact leL_refl _ | exact leOs_refl _ | (simp only [List.append_assoc, List.cons_append, List.nil_append]; exact leOs_refl _) | (repeat (first | exact leL_refl _ | refine leL_cons (by first | exact leT_refl _ | exact leT_virt | exact leT_junk _ | exact leT_sl | exact leT_sln | exact leT_nil | (refine leT_agg (by repeat (first | exact leL_refl _ | refine leL_cons (by first | exact leT_refl _ | exact leT_sl | exact leT_sln | exact leT_nil) ?_)))) ?_)))
             ·refine runX_condF rfl c23 ?_
              refine runX_exit ?_
              refine endX_seqE ?_
              refine endX_q (roundQ_exit ?_)
              refine endX_blkE ?_
              refine endX_seq ?_
              refine runX_seq ?_
              refine runX_regionC fun C hC => ?_
              simp only [runK_region, runK_draw, liteL, liteL2, dstsL, gL, List.getD_cons_zero, List.getD_cons_succ]
              try simp -implicitDefEqProofs (maxSteps := 4000000) (disch := first | omega | decide | (simp only [go_sem]; omega)) only [go_sem, ↓reduceIte]
              repeat (with_reducible refine And.intro (by first | assumption | omega | (simp; done) | (simp; omega)) ?_)
              refine bldG_of [.imm (.string (bs ([97] : List UInt8))), .imm (.string (bs [])), .imm (.bool true), .imm (.int .i64 (1 : Int)), .imm (.int .i64 (0 : Int)), .imm (.int .i64 (0 : Int))] (by kernel_rfl) ?_
              try simp -implicitDefEqProofs (maxSteps := 4000000) (disch := first | omega | decide | (simp only [go_sem]; omega)) only [go_sem, ↓reduceIte]
              repeat (with_reducible refine And.intro (by first | assumption | omega | (simp; done) | (simp; omega)) ?_)
              refine bs_go <| buildX_val ?_
              try simp -implicitDefEqProofs (maxSteps := 4000000) (disch := first | omega | decide | (simp only [go_sem]; omega)) only [go_sem, ↓reduceIte]
              repeat (with_reducible refine And.intro (by first | assumption | omega | (simp; done) | (simp; omega)) ?_)
              refine bldG_of [.imm (.string (bs ([107] : List UInt8))), .imm (.int .i64 (7 : Int)), .imm (.bool false), .imm (.int .i64 (0 : Int))] (by kernel_rfl) ?_
              try simp -implicitDefEqProofs (maxSteps := 4000000) (disch := first | omega | decide | (simp only [go_sem]; omega)) only [go_sem, ↓reduceIte]
              repeat (with_reducible refine And.intro (by first | assumption | omega | (simp; done) | (simp; omega)) ?_)
              refine bs_go <| buildX_val ?_
              try simp -implicitDefEqProofs (maxSteps := 4000000) (disch := first | omega | decide | (simp only [go_sem]; omega)) only [go_sem, ↓reduceIte]
              repeat (with_reducible refine And.intro (by first | assumption | omega | (simp; done) | (simp; omega)) ?_)
              refine bs_go <| buildX_val ?_
              obtain ⟨v26, h26, h⟩ := bnd_some h
              try simp -implicitDefEqProofs (maxSteps := 4000000) (disch := first | omega | decide | (simp only [go_sem]; omega)) only [go_sem, ↓reduceIte]
              repeat (with_reducible refine And.intro (by first | assumption | omega | (simp; done) | (simp; omega)) ?_)
              refine callG_X (by first | rfl | (simp only [go_sem]; done) | (simp only [closedL, closedT, Bool.and_true]; exact closedL_map _ (fun _ => by first | rfl | (simp only [go_sem]; done)) _)) (F22_ok m3 ([(([97] : List UInt8), [], true, (1 : Int), (0 : Int), (0 : Int))]) ([(([107] : List UInt8), (7 : Int), false, (0 : Int))]) [(0 : Int)] (86400 : Int) _ h26) (by repeat (first | exact leL_refl _ | refine leL_cons (by first | exact leT_refl _ | exact leT_sl | exact leT_sln | (refine leT_slX (by repeat (first | exact leE_refl _ | refine leE_cons (by first | exact leT_refl _ | exact leT_sl | (refine leT_agg (by repeat (first | exact leL_refl _ | refine leL_cons (by first | exact leT_refl _ | exact leT_sl | exact leT_sln) ?_)))) ?_)) rfl) | (refine leT_agg (by repeat (first | exact leL_refl _ | refine leL_cons (by first | exact leT_refl _ | exact leT_sl | exact leT_sln | (refine leT_slX (by repeat (first | exact leE_refl _ | refine leE_cons (by first | exact leT_refl _ | exact leT_sl | (refine leT_agg (by repeat (first | exact leL_refl _ | refine leL_cons (by first | exact leT_refl _ | exact leT_sl | exact leT_sln) ?_)))) ?_)) rfl)) ?_)))) ?_)) ?_
              try simp -implicitDefEqProofs (maxSteps := 4000000) (disch := first | omega | decide | (simp only [go_sem]; omega)) only [go_sem, ↓reduceIte]
              repeat (with_reducible refine And.intro (by first | assumption | omega | (simp; done) | (simp; omega)) ?_)
              refine toEnd hC ?_
              refine endX_seq ?_
              refine runX_seq ?_
              refine runX_regionC fun C hC => ?_
              obtain ⟨v27, h27, h⟩ := bnd_some h
              try simp -implicitDefEqProofs (maxSteps := 4000000) (disch := first | omega | decide | (simp only [go_sem]; omega)) only [go_sem, ↓reduceIte]
              repeat (with_reducible refine And.intro (by first | assumption | omega | (simp; done) | (simp; omega)) ?_)
              refine callG_X (by first | rfl | (simp only [go_sem]; done) | (simp only [closedL, closedT, Bool.and_true]; exact closedL_map _ (fun _ => by first | rfl | (simp only [go_sem]; done)) _)) (F22_ok m3 x22 a1 a2.1 a2.2 _ h27) (by repeat (first | exact leL_refl _ | refine leL_cons (by first | exact leT_refl _ | exact leT_virt | exact leT_junk _ | exact leT_sl | exact leT_sln | exact leT_nil | (refine leT_agg (by repeat (first | exact leL_refl _ | refine leL_cons (by first | exact leT_refl _ | exact leT_sl | exact leT_sln | exact leT_nil) ?_)))) ?_)) ?_
              try simp -implicitDefEqProofs (maxSteps := 4000000) (disch := first | omega | decide | (simp only [go_sem]; omega)) only [go_sem, ↓reduceIte]
              repeat (with_reducible refine And.intro (by first | assumption | omega | (simp; done) | (simp; omega)) ?_)
              rcases iteB_some h with ⟨c28, h⟩ | ⟨c28, h⟩
              ·refine guardK_T c28 ?_
               obtain ⟨v29, h29, h⟩ := bnd_some h
               try simp -implicitDefEqProofs (maxSteps := 4000000) (disch := first | omega | decide | (simp only [go_sem]; omega)) only [go_sem, ↓reduceIte]
               repeat (with_reducible refine And.intro (by first | assumption | omega | (simp; done) | (simp; omega)) ?_)
               refine callG_X (by first | rfl | (simp only [go_sem]; done) | (simp only [closedL, closedT, Bool.and_true]; exact closedL_map _ (fun _ => by first | rfl | (simp only [go_sem]; done)) _)) (F23_ok m3 x22 a1 a2.1 a2.2 _ h29) (by repeat (first | exact leL_refl _ | refine leL_cons (by first | exact leT_refl _ | exact leT_virt | exact leT_junk _ | exact leT_sl | exact leT_sln | exact leT_nil | (refine leT_agg (by repeat (first | exact leL_refl _ | refine leL_cons (by first | exact leT_refl _ | exact leT_sl | exact leT_sln | exact leT_nil) ?_)))) ?_)) ?_
               try simp -implicitDefEqProofs (maxSteps := 4000000) (disch := first | omega | decide | (simp only [go_sem]; omega)) only [go_sem, ↓reduceIte]
               repeat (with_reducible refine And.intro (by first | assumption | omega | (simp; done) | (simp; omega)) ?_)
               rcases iteB_some h with ⟨c30, h⟩ | ⟨c30, h⟩
               ·refine guardK_T c30 ?_
                try simp -implicitDefEqProofs (maxSteps := 4000000) (disch := first | omega | decide | (simp only [go_sem]; omega)) only [go_sem, ↓reduceIte]
                repeat (with_reducible refine And.intro (by first | assumption | omega | (simp; done) | (simp; omega)) ?_)
                rcases iteB_some h with ⟨c31, h⟩ | ⟨c31, h⟩
                ·refine guardK_T c31 ?_
                 obtain ⟨g32, h⟩ := grd_some h
                 try simp -implicitDefEqProofs (maxSteps := 4000000) (disch := first | omega | decide | (simp only [go_sem]; omega)) only [go_sem, ↓reduceIte]
                 repeat (with_reducible refine And.intro (by first | assumption | omega | (simp; done) | (simp; omega)) ?_)
                 refine toEnd hC ?_
                 refine endX_seq ?_
                 refine runX_ret ?_
                 refine endX_q ?_
                 obtain rfl := Option.some.inj h
                 show RetW _ _ _ _ _
                 simp only [RetW]
                 (try simp -implicitDefEqProofs (maxSteps := 4000000) (disch := first | omega | decide | (simp only [go_sem]; omega)) only [go_sem, ↓reduceIte])
                 (try simp (disch := omega) only [if_pos, Nat.sub_zero])
                 exact leT_refl _
                ·refine guardK_F c31 ?_
                 try simp -implicitDefEqProofs (maxSteps := 4000000) (disch := first | omega | decide | (simp only [go_sem]; omega)) only [go_sem, ↓reduceIte]
                 repeat (with_reducible refine And.intro (by first | assumption | omega | (simp; done) | (simp; omega)) ?_)
                 refine toEnd hC ?_
                 refine endX_seq ?_
                 refine runX_ret ?_
                 refine endX_q ?_
                 obtain rfl := Option.some.inj h
                 show RetW _ _ _ _ _
                 simp only [RetW]
                 (try simp -implicitDefEqProofs (maxSteps := 4000000) (disch := first | omega | decide | (simp only [go_sem]; omega)) only [go_sem, ↓reduceIte])
                 (try simp (disch := omega) only [if_pos, Nat.sub_zero])
                 exact leT_refl _
               ·refine guardK_F c30 ?_
                try simp -implicitDefEqProofs (maxSteps := 4000000) (disch := first | omega | decide | (simp only [go_sem]; omega)) only [go_sem, ↓reduceIte]
                repeat (with_reducible refine And.intro (by first | assumption | omega | (simp; done) | (simp; omega)) ?_)
                refine toEnd hC ?_
                refine endX_seq ?_
                refine runX_ret ?_
                refine endX_q ?_
                obtain rfl := Option.some.inj h
                show RetW _ _ _ _ _
                simp only [RetW]
                (try simp -implicitDefEqProofs (maxSteps := 4000000) (disch := first | omega | decide | (simp only [go_sem]; omega)) only [go_sem, ↓reduceIte])
                (try simp (disch := omega) only [if_pos, Nat.sub_zero])
                exact leT_refl _
              ·refine guardK_F c28 ?_
               try simp -implicitDefEqProofs (maxSteps := 4000000) (disch := first | omega | decide | (simp only [go_sem]; omega)) only [go_sem, ↓reduceIte]
               repeat (with_reducible refine And.intro (by first | assumption | omega | (simp; done) | (simp; omega)) ?_)
               refine toEnd hC ?_
               refine endX_seq ?_
               refine runX_ret ?_
               refine endX_q ?_
               obtain rfl := Option.some.inj h
               show RetW _ _ _ _ _
               simp only [RetW]
               (try simp -implicitDefEqProofs (maxSteps := 4000000) (disch := first | omega | decide | (simp only [go_sem]; omega)) only [go_sem, ↓reduceIte])
               (try simp (disch := omega) only [if_pos, Nat.sub_zero])
               exact leT_refl _
end Go.Proofs.YtjkfobmfddfjhaaDoorX

/- Shapes of arguments, as plain values. Of no program. -/
set_option linter.unusedVariables false
namespace Go.Proofs.YtjkfobmfddfjhaaDoorX
open Go Go.RowKit
theorem RepR.le {E : Env} {sz : Nat} : ∀ {l l' : List T} {c : List Value}, l.length = l'.length → (∀ i, leT anyE (l.getD i .junk) (l'.getD i .junk)) → RepR E sz l c → RepR E sz l' c
  | [], [], c, _, _, h => h
  | x :: l, y :: l', c, hl, hi, h => by
    simp only [RepR] at h ⊢
    obtain ⟨u, c', h1, h2, h3, h4⟩ := h
    exact ⟨u, c', h1, h2, by simpa using hi 0 E true u trivial (by simpa using h3), RepR.le (by simpa using hl) (fun i => by simpa using hi (i + 1)) h4⟩
  | [], _ :: _, c, hl, _, _ => by simp at hl
  | _ :: _, [], c, hl, _, _ => by simp at hl
theorem leT_slE {sz : Nat} {f : Bool} {l l' : List T} (hl : l.length = l'.length) (h : ∀ i, leT anyE (l.getD i .junk) (l'.getD i .junk)) : leT anyE (.sl sz f l) (.sl sz false l') := fun E cl v hp k => by
  simp only [Rep] at k ⊢
  obtain ⟨a, cap, c, h1, h2, h3, h4, h5⟩ := k
  exact ⟨a, cap, c, by rw [h1, hl], by rw [← hl]; exact h2, (fun h => by cases h), RepR.le hl h h4, h5⟩
theorem elems_shape {α : Type} (enc : α → T) (ok : α → Prop) : ∀ (l : List T), (∀ y ∈ l, ∃ v, leT anyE y (enc v) ∧ ok v) → ∃ vs : List α, vs.length = l.length ∧ (∀ i, leT anyE (l.getD i .junk) ((vs.map enc).getD i .junk)) ∧ ∀ v ∈ vs, ok v
  | [], _ => ⟨[], rfl, fun i => by simp [leT_refl], fun v hv => by simp at hv⟩
  | y :: l, h => by
    obtain ⟨v, h1, h2⟩ := h y (by simp)
    obtain ⟨vs, h3, h4, h5⟩ := elems_shape enc ok l fun z hz => h z (by simp [hz])
    refine ⟨v :: vs, by simp [h3], fun i => ?_, fun w hw => ?_⟩
    · cases i with
      | zero => simpa using h1
      | succ i => simpa using h4 i
    · rcases List.mem_cons.1 hw with rfl | hw
      · exact h2
      · exact h5 w hw
theorem sl_shape {α : Type} (enc : α → T) (ok : α → Prop) (l : List T) (h : ∀ y ∈ l, ∃ v, leT anyE y (enc v) ∧ ok v) {sz : Nat} {f : Bool} : ∃ vs : List α, leT anyE (.sl sz f l) (.sl sz false (vs.map enc)) ∧ vs.length = l.length ∧ ∀ v ∈ vs, ok v := by
  obtain ⟨vs, h1, h2, h3⟩ := elems_shape enc ok l h
  exact ⟨vs, leT_slE (by simp [h1]) h2, h1, h3⟩
end Go.Proofs.YtjkfobmfddfjhaaDoorX

set_option linter.unusedVariables false
set_option linter.unusedSimpArgs false
namespace Go.Proofs.YtjkfobmfddfjhaaDoorX
open Go Go.RowKit Go.Proofs
set_option maxRecDepth 100000
def okT9 (v : List UInt8) : Prop := v.length ≤ 9223372036854775807
def okT4 (v : Bool) : Prop := True
def okT3 (v : Int) : Prop := (-9223372036854775808 : Int) ≤ v ∧ v ≤ 9223372036854775807
def okT55 (v : (List UInt8) × (List UInt8) × (Bool) × (Int) × (Int) × (Int)) : Prop := okT9 v.1 ∧ okT9 v.2.1 ∧ okT4 v.2.2.1 ∧ okT3 v.2.2.2.1 ∧ okT3 v.2.2.2.2.1 ∧ okT3 v.2.2.2.2.2
def okT40 (v : List ((List UInt8) × (List UInt8) × (Bool) × (Int) × (Int) × (Int))) : Prop := v.length ≤ 9223372036854775807 ∧ ∀ y ∈ v, okT55 y
def okT57 (v : (List UInt8) × (Int) × (Bool) × (Int)) : Prop := okT9 v.1 ∧ okT3 v.2.1 ∧ okT4 v.2.2.1 ∧ okT3 v.2.2.2
def okT41 (v : List ((List UInt8) × (Int) × (Bool) × (Int))) : Prop := v.length ≤ 9223372036854775807 ∧ ∀ y ∈ v, okT57 y
def okT42 (v : List (Int)) : Prop := v.length ≤ 9223372036854775807 ∧ ∀ y ∈ v, okT3 y
def okT43 (v : (List (Int)) × (Int)) : Prop := okT42 v.1 ∧ okT3 v.2
theorem shp9 : ∀ (n : Nat) (x : T), ShapeW Tryd.prog n 9 x → ∃ v : List UInt8, x = .imm (.string (bs v)) ∧ okT9 v
  | 0, x, h => h.elim
  | n + 1, x, h => by
    simp only [ShapeW, Tryd.underlying9] at h
    obtain ⟨s, rfl, hs⟩ := h
    exact ⟨s.data.toList, by rw [← of_bs], hs⟩
theorem shp4 : ∀ (n : Nat) (x : T), ShapeW Tryd.prog n 4 x → ∃ v : Bool, x = .imm (.bool v) ∧ okT4 v
  | 0, x, h => h.elim
  | n + 1, x, h => by
    simp only [ShapeW, Tryd.underlying4] at h
    obtain ⟨b, rfl⟩ := h
    exact ⟨b, rfl, trivial⟩
theorem shp3 : ∀ (n : Nat) (x : T), ShapeW Tryd.prog n 3 x → ∃ v : Int, x = .imm (.int .i64 v) ∧ okT3 v
  | 0, x, h => h.elim
  | n + 1, x, h => by
    simp only [ShapeW, Tryd.underlying3] at h
    obtain ⟨i, rfl, hi⟩ := h
    exact ⟨i, rfl, wf_of hi⟩
theorem shp56 : ∀ (n : Nat) (x : T), ShapeW Tryd.prog n 56 x → ∃ v : (List UInt8) × (List UInt8) × (Bool) × (Int) × (Int) × (Int), leT anyE x (.agg [.imm (.string (bs v.1)), .imm (.string (bs v.2.1)), .imm (.bool v.2.2.1), .imm (.int .i64 v.2.2.2.1), .imm (.int .i64 v.2.2.2.2.1), .imm (.int .i64 v.2.2.2.2.2)]) ∧ okT55 v
  | 0, x, h => h.elim
  | n + 1, x, h => by
    simp only [ShapeW, Tryd.underlying56] at h
    obtain ⟨ys, rfl, hl, hf⟩ := h
    match ys, hl with
    | [y0, y1, y2, y3, y4, y5], _ =>
      have h0 := hf 0 _ y0 rfl rfl
      obtain ⟨v0, rfl, k0⟩ := shp9 n _ h0
      have h1 := hf 1 _ y1 rfl rfl
      obtain ⟨v1, rfl, k1⟩ := shp9 n _ h1
      have h2 := hf 2 _ y2 rfl rfl
      obtain ⟨v2, rfl, k2⟩ := shp4 n _ h2
      have h3 := hf 3 _ y3 rfl rfl
      obtain ⟨v3, rfl, k3⟩ := shp3 n _ h3
      have h4 := hf 4 _ y4 rfl rfl
      obtain ⟨v4, rfl, k4⟩ := shp3 n _ h4
      have h5 := hf 5 _ y5 rfl rfl
      obtain ⟨v5, rfl, k5⟩ := shp3 n _ h5
      refine ⟨(v0, v1, v2, v3, v4, v5), leT_agg ?_, k0, k1, k2, k3, k4, k5⟩
      show leL anyE [_, _, _, _, _, _] _
      exact leL_cons (leT_refl _) (leL_cons (leT_refl _) (leL_cons (leT_refl _) (leL_cons (leT_refl _) (leL_cons (leT_refl _) (leL_cons (leT_refl _) (leL_nil))))))
theorem shp40 : ∀ (n : Nat) (x : T), ShapeW Tryd.prog n 40 x → ∃ (f : Bool) (l : List T) (v : List ((List UInt8) × (List UInt8) × (Bool) × (Int) × (Int) × (Int))), x = .sl 6 f l ∧ leT anyE x (.sl 6 false (List.map eT55 v)) ∧ okT40 v
  | 0, x, h => h.elim
  | n + 1, x, h => by
    simp only [ShapeW, Tryd.underlying40] at h
    obtain ⟨f, l, rfl, hl, he⟩ := h
    rw [cz56]
    obtain ⟨v, h1, h2, h3⟩ := sl_shape eT55 okT55 l fun y hy => (by
      obtain ⟨v, hv, hk⟩ := shp56 n y (he y hy)
      exact ⟨v, hv, hk⟩)
    exact ⟨f, l, v, rfl, h1, by rw [h2]; exact hl, h3⟩
theorem shp58 : ∀ (n : Nat) (x : T), ShapeW Tryd.prog n 58 x → ∃ v : (List UInt8) × (Int) × (Bool) × (Int), leT anyE x (.agg [.imm (.string (bs v.1)), .imm (.int .i64 v.2.1), .imm (.bool v.2.2.1), .imm (.int .i64 v.2.2.2)]) ∧ okT57 v
  | 0, x, h => h.elim
  | n + 1, x, h => by
    simp only [ShapeW, Tryd.underlying58] at h
    obtain ⟨ys, rfl, hl, hf⟩ := h
    match ys, hl with
    | [y0, y1, y2, y3], _ =>
      have h0 := hf 0 _ y0 rfl rfl
      obtain ⟨v0, rfl, k0⟩ := shp9 n _ h0
      have h1 := hf 1 _ y1 rfl rfl
      obtain ⟨v1, rfl, k1⟩ := shp3 n _ h1
      have h2 := hf 2 _ y2 rfl rfl
      obtain ⟨v2, rfl, k2⟩ := shp4 n _ h2
      have h3 := hf 3 _ y3 rfl rfl
      obtain ⟨v3, rfl, k3⟩ := shp3 n _ h3
      refine ⟨(v0, v1, v2, v3), leT_agg ?_, k0, k1, k2, k3⟩
      show leL anyE [_, _, _, _] _
      exact leL_cons (leT_refl _) (leL_cons (leT_refl _) (leL_cons (leT_refl _) (leL_cons (leT_refl _) (leL_nil))))
theorem shp41 : ∀ (n : Nat) (x : T), ShapeW Tryd.prog n 41 x → ∃ (f : Bool) (l : List T) (v : List ((List UInt8) × (Int) × (Bool) × (Int))), x = .sl 4 f l ∧ leT anyE x (.sl 4 false (List.map eT57 v)) ∧ okT41 v
  | 0, x, h => h.elim
  | n + 1, x, h => by
    simp only [ShapeW, Tryd.underlying41] at h
    obtain ⟨f, l, rfl, hl, he⟩ := h
    rw [cz58]
    obtain ⟨v, h1, h2, h3⟩ := sl_shape eT57 okT57 l fun y hy => (by
      obtain ⟨v, hv, hk⟩ := shp58 n y (he y hy)
      exact ⟨v, hv, hk⟩)
    exact ⟨f, l, v, rfl, h1, by rw [h2]; exact hl, h3⟩
theorem shp42 : ∀ (n : Nat) (x : T), ShapeW Tryd.prog n 42 x → ∃ (f : Bool) (l : List T) (v : List (Int)), x = .sl 1 f l ∧ leT anyE x (.sl 1 false (List.map (eI .i64) v)) ∧ okT42 v
  | 0, x, h => h.elim
  | n + 1, x, h => by
    simp only [ShapeW, Tryd.underlying42] at h
    obtain ⟨f, l, rfl, hl, he⟩ := h
    rw [cz3]
    obtain ⟨v, h1, h2, h3⟩ := sl_shape (eI .i64) okT3 l fun y hy => (by
      obtain ⟨v, hv, hk⟩ := shp3 n y (he y hy)
      exact ⟨v, leT_of hv, hk⟩)
    exact ⟨f, l, v, rfl, h1, by rw [h2]; exact hl, h3⟩
theorem shp44 : ∀ (n : Nat) (x : T), ShapeW Tryd.prog n 44 x → ∃ v : (List (Int)) × (Int), leT anyE x (.agg [.sl 1 false (List.map (eI .i64) v.1), .imm (.int .i64 v.2)]) ∧ okT43 v
  | 0, x, h => h.elim
  | n + 1, x, h => by
    simp only [ShapeW, Tryd.underlying44] at h
    obtain ⟨ys, rfl, hl, hf⟩ := h
    match ys, hl with
    | [y0, y1], _ =>
      have h0 := hf 0 _ y0 rfl rfl
      obtain ⟨f0, l0, v0, rfl, e0, k0⟩ := shp42 n _ h0
      have h1 := hf 1 _ y1 rfl rfl
      obtain ⟨v1, rfl, k1⟩ := shp3 n _ h1
      refine ⟨(v0, v1), leT_agg ?_, k0, k1⟩
      show leL anyE [_, _] _
      exact leL_cons e0 (leL_cons (leT_refl _) (leL_nil))
theorem shapedLifecycleStays (main : ∀ (v0 : List ((List UInt8) × (List UInt8) × (Bool) × (Int) × (Int) × (Int))) (v1 : List ((List UInt8) × (Int) × (Bool) × (Int))) (v2 : (List (Int)) × (Int)), okT40 v0 → okT41 v1 → okT43 v2 → ∃ n, F7 n v0 v1 v2 = some true) (xs : List T) (h : ShapesW Tryd.prog [40, 41, 44] xs) : FnC Tryd.prog 7 xs (tb true) := by
  obtain ⟨x0, xs0, rfl, ⟨n0, h0⟩, x1, xs1, rfl, ⟨n1, h1⟩, x2, xs2, rfl, ⟨n2, h2⟩, rfl⟩ := h
  obtain ⟨_, _, v0, _, e0, k0⟩ := shp40 _ _ h0
  obtain ⟨_, _, v1, _, e1, k1⟩ := shp41 _ _ h1
  obtain ⟨v2, e2, k2⟩ := shp44 _ _ h2
  obtain ⟨N, hN⟩ := main v0 v1 v2 k0 k1 k2
  exact (F7_ok N v0 v1 v2 true hN).le (leL_cons (e0) (leL_cons (e1) (leL_cons (e2) (leL_nil)))) (leT_refl _)
end Go.Proofs.YtjkfobmfddfjhaaDoorX

/- Plain functions with fuel: what they come to. Of no program. -/
set_option linter.unusedVariables false
set_option linter.unusedSimpArgs false
namespace Go.Proofs.YtjkfobmfddfjhaaDoorX
open Go
def Ev {α : Type} (f : Nat → Option α) (r : α) : Prop := ∃ N, ∀ n, N ≤ n → f n = some r
theorem Ev.pure {α : Type} {r : α} : Ev (fun _ => some r) r := ⟨0, fun _ _ => rfl⟩
theorem Ev.bind {α β : Type} {f : Nat → Option α} {g : Nat → α → Option β} {v : α} {r : β} (h : Ev f v) (h' : Ev (fun n => g n v) r) : Ev (fun n => (f n).bind (g n)) r := by
  obtain ⟨N, h⟩ := h
  obtain ⟨M, h'⟩ := h'
  exact ⟨max N M, fun n hn => by show (f n).bind (g n) = _; rw [h n (by omega)]; exact h' n (by omega)⟩
theorem Ev.step {α : Type} {f : Nat → Option α} {r : α} (h : Ev (fun n => f (n + 1)) r) : Ev f r := by
  obtain ⟨N, h⟩ := h
  refine ⟨N + 1, fun n hn => ?_⟩
  obtain ⟨m, rfl⟩ : ∃ m, n = m + 1 := ⟨n - 1, by omega⟩
  exact h m (by omega)
theorem Ev.congr {α : Type} {f g : Nat → Option α} {r : α} (h : Ev g r) (e : ∀ n, f n = g n) : Ev f r := by
  obtain ⟨N, h⟩ := h
  exact ⟨N, fun n hn => (e n).trans (h n hn)⟩
theorem iteB_t {α : Type} (x y : Option α) : iteB true x y = x := rfl
theorem iteB_f {α : Type} (x y : Option α) : iteB false x y = y := rfl
theorem grd_t {α : Type} {p : Prop} [Decidable p] (x : Option α) (h : p) : grd p x = x := if_pos h
theorem grd_True {α : Type} [Decidable True] (x : Option α) : grd True x = x := if_pos trivial
theorem bind_some' {α β : Type} (v : α) (g : α → Option β) : (some v).bind g = g v := rfl
theorem w64 {n : Int} (h : -9223372036854775808 ≤ n ∧ n ≤ 9223372036854775807) : IntKind.wrap .i64 n = n := Go.IntWalk.i64_in _ h
theorem w32 {n : Int} (h : -2147483648 ≤ n ∧ n ≤ 2147483647) : IntKind.wrap .i32 n = n := Go.IntWalk.i32_in _ h
theorem wu8 {n : Int} (h : 0 ≤ n ∧ n ≤ 255) : IntKind.wrap .u8 n = n := Go.IntWalk.u8_in _ h
theorem u8_lt (a : UInt8) : (0 : Int) ≤ (a.toNat : Int) ∧ (a.toNat : Int) ≤ 255 := by
  have := a.toNat_lt; omega
theorem drop_cons {α : Type} (l : List α) (i : Nat) (d : α) (h : i < l.length) : l.drop i = l.getD i d :: l.drop (i + 1) := by
  rw [List.drop_eq_getElem_cons h, List.getD_eq_getElem?_getD, List.getElem?_eq_getElem h]; rfl
theorem toNat_nat (n : Nat) : ((n : Int)).toNat = n := rfl
end Go.Proofs.YtjkfobmfddfjhaaDoorX

/- Bytes as numbers. Of no program. -/
set_option linter.unusedVariables false
set_option linter.unusedSimpArgs false
namespace Go.Proofs.YtjkfobmfddfjhaaDoorX
open Go
def Bytes (l : List Int) : Prop := ∀ x ∈ l, 0 ≤ x ∧ x ≤ 255
theorem Bytes.nil : Bytes [] := by intro x hx; cases hx
theorem Bytes.cons {a : Int} {r : List Int} (h : 0 ≤ a ∧ a ≤ 255) (hr : Bytes r) : Bytes (a :: r) := by
  intro x hx
  rcases List.mem_cons.1 hx with rfl | hx
  · exact h
  · exact hr x hx
theorem Bytes.head {a : Int} {r : List Int} (h : Bytes (a :: r)) : 0 ≤ a ∧ a ≤ 255 := h a (by simp)
theorem Bytes.tail {a : Int} {r : List Int} (h : Bytes (a :: r)) : Bytes r := fun x hx => h x (by simp [hx])
theorem Bytes.drop {l : List Int} (h : Bytes l) (n : Nat) : Bytes (l.drop n) := fun x hx => h x (List.mem_of_mem_drop hx)
theorem Bytes.append {l r : List Int} (h : Bytes l) (h' : Bytes r) : Bytes (l ++ r) := fun x hx => by
  rcases List.mem_append.1 hx with hx | hx
  · exact h x hx
  · exact h' x hx
def bt (s : List UInt8) (i : Nat) : Int := ((s.getD i 0).toNat : Int)
def ints (s : List UInt8) : List Int := s.map ofB
theorem ints_len (s : List UInt8) : (ints s).length = s.length := by simp [ints]
theorem ints_bytes (s : List UInt8) : Bytes (ints s) := by
  intro x hx
  unfold ints at hx
  obtain ⟨c, _, rfl⟩ := List.mem_map.1 hx
  exact u8_lt c
theorem ints_drop (s : List UInt8) (i : Nat) : ints (s.drop i) = (ints s).drop i := by simp [ints, List.map_drop]
theorem ints_take (s : List UInt8) (i : Nat) : ints (s.take i) = (ints s).take i := by simp [ints, List.map_take]
theorem bt_bd (s : List UInt8) (i : Nat) : 0 ≤ bt s i ∧ bt s i ≤ 255 := u8_lt _
theorem ints_get (s : List UInt8) (i : Nat) : (ints s).getD i 0 = bt s i := by
  unfold ints bt
  rw [List.getD_eq_getElem?_getD, List.getElem?_map, List.getD_eq_getElem?_getD]
  cases s[i]? <;> rfl
theorem drop_bt (s : List UInt8) (i : Nat) (h : i < s.length) : (ints s).drop i = bt s i :: (ints s).drop (i + 1) := by
  rw [drop_cons (ints s) i 0 (by rw [ints_len]; exact h), ints_get]
theorem ofB_toB {x : Int} (h : 0 ≤ x ∧ x ≤ 255) : ofB (toB x) = x := by
  unfold ofB toB
  rw [UInt8.toNat_ofNat']
  omega
theorem map_toB_eq {l : List Int} (hl : Bytes l) (t : List UInt8) : (l.map toB == t) = decide (l = ints t) := by
  rw [Bool.eq_iff_iff, beq_iff_eq, decide_eq_true_eq]
  constructor
  · rintro rfl
    unfold ints
    rw [List.map_map]
    conv => lhs; rw [← List.map_id l]
    exact List.map_congr_left fun x hx => (ofB_toB (hl x hx)).symm
  · rintro rfl
    unfold ints
    rw [List.map_map]
    conv => rhs; rw [← List.map_id t]
    refine List.map_congr_left fun x _ => ?_
    show UInt8.ofNat ((x.toNat : Int)).toNat = x
    rw [toNat_nat]; simp
theorem ints_cons (s : List UInt8) (h : s.length ≠ 0) : ∃ a r, ints s = a :: r := by
  cases hb : ints s with
  | nil => have := ints_len s; rw [hb] at this; simp at this; omega
  | cons a r => exact ⟨a, r, rfl⟩
theorem of_ints {s : List UInt8} {l : List Int} (h : ints s = l) : s = l.map toB := by
  have hb : Bytes l := h ▸ ints_bytes s
  have := map_toB_eq hb s
  rw [h, decide_eq_true rfl] at this
  exact (beq_iff_eq.1 this).symm
theorem ints_toB {l : List Int} (h : Bytes l) : ints (l.map toB) = l := by
  have := map_toB_eq h (l.map toB)
  rw [beq_self_eq_true] at this
  exact (of_decide_eq_true this.symm).symm
theorem bq {a b : Int} (h : ¬ a = b) : (a == b) = false := beq_eq_false_iff_ne.2 h
theorem bqt {a b : Int} (h : a = b) : (a == b) = true := by rw [h]; exact beq_self_eq_true b
theorem all_bytes {l : List Int} (h : Bytes l) : (l.all fun x => decide (0 ≤ x) && decide (x < 256)) = true := by
  rw [List.all_eq_true]
  intro x hx
  have := h x hx
  simp only [Bool.and_eq_true, decide_eq_true_eq]
  omega
theorem g64 (i : Nat) (h : i ≤ 1000000000) : IntKind.wrap .i64 ((i : Int) + 1) = ((i + 1 : Nat) : Int) := by rw [w64 (by omega)]; omega
theorem Bytes.getD {l : List Int} (h : Bytes l) (i : Nat) : 0 ≤ l.getD i 0 ∧ l.getD i 0 ≤ 255 := by
  rw [List.getD_eq_getElem?_getD]
  cases e : l[i]? with
  | none => exact ⟨by decide, by decide⟩
  | some x => exact h x (List.mem_of_getElem? e)
theorem Bytes.take {l : List Int} (h : Bytes l) (n : Nat) : Bytes (l.take n) := fun x hx => h x (List.mem_of_mem_take hx)
end Go.Proofs.YtjkfobmfddfjhaaDoorX

/- Characters: plain words and laws (what is put is next). -/
set_option linter.unusedVariables false
set_option linter.unusedSimpArgs false
namespace Go.Proofs.YtjkfobmfddfjhaaDoorX
open Go
def utfSize (c : Int) : Int := if c < 128 then 1 else if c < 2048 then 2 else if c < 65536 then 3 else 4
def rightU (c : Int) : Prop := 0 ≤ c ∧ c ≤ 1114111 ∧ (c < 55296 ∨ 57343 < c)
instance (c : Int) : Decidable (rightU c) := by unfold rightU; exact inferInstance
def putU (c : Int) : List Int :=
  if ¬ rightU c then [] else if c < 128 then [c] else if c < 2048 then [192 + c / 64, 128 + c % 64]
  else if c < 65536 then [224 + c / 4096, 128 + c / 64 % 64, 128 + c % 64]
  else [240 + c / 262144, 128 + c / 4096 % 64, 128 + c / 64 % 64, 128 + c % 64]
def lenU (a : Int) : Nat := if a < 128 then 1 else if a < 192 then 0 else if a < 224 then 2 else if a < 240 then 3 else if a < 248 then 4 else 0
def leadU (n : Nat) : Int := if n = 1 then 0 else if n = 2 then 192 else if n = 3 then 224 else 240
def finU (n : Nat) (c : Int) : Int × Int := if rightU c ∧ utfSize c = (n : Int) then (c, (n : Int)) else (0, 0)
def contU (n : Nat) : Int → List Int → Nat → Int × Int
  | c, _, 0 => finU n c
  | c, b :: r, m + 1 => if 128 ≤ b ∧ b ≤ 191 then contU n (c * 64 + b % 64) r m else (0, 0)
  | _, [], _ + 1 => (0, 0)
def nextU : List Int → Int × Int
  | [] => (0, 0)
  | a :: r => if lenU a = 0 ∨ lenU a > (a :: r).length then (0, 0) else contU (lenU a) (a - leadU (lenU a)) r (lenU a - 1)
theorem putU_1 {c : Int} (h : rightU c) (h1 : c < 128) : putU c = [c] := by unfold putU; rw [if_neg (fun e => e h), if_pos h1]
theorem putU_2 {c : Int} (h : rightU c) (h0 : 128 ≤ c) (h1 : c < 2048) : putU c = [192 + c / 64, 128 + c % 64] := by unfold putU; rw [if_neg (fun e => e h), if_neg (by omega), if_pos h1]
theorem putU_3 {c : Int} (h : rightU c) (h0 : 2048 ≤ c) (h1 : c < 65536) : putU c = [224 + c / 4096, 128 + c / 64 % 64, 128 + c % 64] := by unfold putU; rw [if_neg (fun e => e h), if_neg (by omega), if_neg (by omega), if_pos h1]
theorem putU_4 {c : Int} (h : rightU c) (h0 : 65536 ≤ c) : putU c = [240 + c / 262144, 128 + c / 4096 % 64, 128 + c / 64 % 64, 128 + c % 64] := by unfold putU; rw [if_neg (fun e => e h), if_neg (by omega), if_neg (by omega), if_neg (by omega)]
theorem putU_no {c : Int} (h : ¬ rightU c) : putU c = [] := by unfold putU; rw [if_pos h]
theorem size_1 {c : Int} (h : c < 128) : utfSize c = 1 := by unfold utfSize; rw [if_pos h]
theorem size_2 {c : Int} (h0 : 128 ≤ c) (h : c < 2048) : utfSize c = 2 := by unfold utfSize; rw [if_neg (by omega), if_pos h]
theorem size_3 {c : Int} (h0 : 2048 ≤ c) (h : c < 65536) : utfSize c = 3 := by unfold utfSize; rw [if_neg (by omega), if_neg (by omega), if_pos h]
theorem size_4 {c : Int} (h0 : 65536 ≤ c) : utfSize c = 4 := by unfold utfSize; rw [if_neg (by omega), if_neg (by omega), if_neg (by omega)]
theorem len_1 {a : Int} (h : a < 128) : lenU a = 1 := by unfold lenU; rw [if_pos h]
theorem len_2 {a : Int} (h0 : 192 ≤ a) (h : a < 224) : lenU a = 2 := by unfold lenU; rw [if_neg (by omega), if_neg (by omega), if_pos h]
theorem len_3 {a : Int} (h0 : 224 ≤ a) (h : a < 240) : lenU a = 3 := by unfold lenU; rw [if_neg (by omega), if_neg (by omega), if_neg (by omega), if_pos h]
theorem len_4 {a : Int} (h0 : 240 ≤ a) (h : a < 248) : lenU a = 4 := by unfold lenU; rw [if_neg (by omega), if_neg (by omega), if_neg (by omega), if_neg (by omega), if_pos h]
theorem len_0 {a : Int} (h : (128 ≤ a ∧ a < 192) ∨ 248 ≤ a) : lenU a = 0 := by
  unfold lenU
  rcases h with h | h
  · rw [if_neg (by omega), if_pos (by omega)]
  · rw [if_neg (by omega), if_neg (by omega), if_neg (by omega), if_neg (by omega), if_neg (by omega)]
theorem contU_step {n m : Nat} {c b : Int} {r : List Int} (h : 128 ≤ b ∧ b ≤ 191) : contU n c (b :: r) (m + 1) = contU n (c * 64 + b % 64) r m := by rw [contU, if_pos h]
theorem contU_no {n m : Nat} {c b : Int} {r : List Int} (h : ¬ (128 ≤ b ∧ b ≤ 191)) : contU n c (b :: r) (m + 1) = (0, 0) := by rw [contU, if_neg h]
theorem contU_fin {n : Nat} {c : Int} {r : List Int} : contU n c r 0 = finU n c := by cases r <;> rw [contU]
theorem next_put {c : Int} (h : rightU c) (rest : List Int) : nextU (putU c ++ rest) = (c, ((putU c).length : Int)) := by
  obtain ⟨h0, h1, h2⟩ := id h
  rcases (show c < 128 ∨ (128 ≤ c ∧ c < 2048) ∨ (2048 ≤ c ∧ c < 65536) ∨ 65536 ≤ c by omega) with a | ⟨a, b⟩ | ⟨a, b⟩ | a
  · rw [putU_1 h a]
    show nextU (c :: rest) = (c, 1)
    rw [nextU, len_1 a, if_neg (by simp), contU_fin, finU]
    rw [show c - leadU 1 = c by unfold leadU; rw [if_pos rfl]; omega, if_pos ⟨h, size_1 a⟩]
    rfl
  · rw [putU_2 h a b]
    show nextU ((192 + c / 64) :: (128 + c % 64) :: rest) = (c, 2)
    rw [nextU, len_2 (by omega) (by omega), if_neg (by simp)]
    rw [contU_step (by omega), contU_fin, finU, show (192 + c / 64 - leadU 2) * 64 + (128 + c % 64) % 64 = c by unfold leadU; rw [if_neg (by omega), if_pos rfl]; omega, if_pos ⟨h, size_2 a b⟩]
    rfl
  · rw [putU_3 h a b]
    show nextU ((224 + c / 4096) :: (128 + c / 64 % 64) :: (128 + c % 64) :: rest) = (c, 3)
    rw [nextU, len_3 (by omega) (by omega), if_neg (by simp)]
    rw [contU_step (by omega), contU_step (by omega), contU_fin, finU, show ((224 + c / 4096 - leadU 3) * 64 + (128 + c / 64 % 64) % 64) * 64 + (128 + c % 64) % 64 = c by unfold leadU; rw [if_neg (by omega), if_neg (by omega), if_pos rfl]; omega, if_pos ⟨h, size_3 a b⟩]
    rfl
  · rw [putU_4 h a]
    show nextU ((240 + c / 262144) :: (128 + c / 4096 % 64) :: (128 + c / 64 % 64) :: (128 + c % 64) :: rest) = (c, 4)
    rw [nextU, len_4 (by omega) (by omega), if_neg (by simp)]
    rw [contU_step (by omega), contU_step (by omega), contU_step (by omega), contU_fin, finU, show (((240 + c / 262144 - leadU 4) * 64 + (128 + c / 4096 % 64) % 64) * 64 + (128 + c / 64 % 64) % 64) * 64 + (128 + c % 64) % 64 = c by unfold leadU; rw [if_neg (by omega), if_neg (by omega), if_neg (by omega)]; omega, if_pos ⟨h, size_4 a⟩]
    rfl
theorem finU_some {n : Nat} {c x k : Int} (h : finU n c = (x, k)) (hk : k ≠ 0) : x = c ∧ k = n ∧ rightU c ∧ utfSize c = n := by
  unfold finU at h
  by_cases h1 : rightU c ∧ utfSize c = (n : Int)
  · rw [if_pos h1] at h
    simp only [Prod.mk.injEq] at h
    exact ⟨h.1.symm, h.2.symm, h1.1, h1.2⟩
  · rw [if_neg h1] at h
    simp only [Prod.mk.injEq] at h
    exact absurd h.2.symm hk
theorem put_next : ∀ (l : List Int) (c k : Int), Bytes l → nextU l = (c, k) → k ≠ 0 → rightU c ∧ k = ((putU c).length : Int) ∧ ∃ rest, l = putU c ++ rest
  | [], c, k, hb, h, hk => by rw [nextU] at h; simp only [Prod.mk.injEq] at h; exact absurd h.2.symm hk
  | a :: r, c, k, hb, h, hk => by
    have ha := hb.head
    rw [nextU] at h
    by_cases h0 : lenU a = 0 ∨ lenU a > (a :: r).length
    · rw [if_pos h0] at h; simp only [Prod.mk.injEq] at h; exact absurd h.2.symm hk
    rw [if_neg h0] at h
    have z : ∀ (P : Prop), ((0 : Int), (0 : Int)) = (c, k) → P := fun P e => by simp only [Prod.mk.injEq] at e; exact absurd e.2.symm hk
    rcases (show a < 128 ∨ (192 ≤ a ∧ a < 224) ∨ (224 ≤ a ∧ a < 240) ∨ (240 ≤ a ∧ a < 248) ∨ ((128 ≤ a ∧ a < 192) ∨ 248 ≤ a) by omega) with e | ⟨e1, e2⟩ | ⟨e1, e2⟩ | ⟨e1, e2⟩ | e
    · rw [len_1 e, contU_fin] at h
      obtain ⟨rfl, rfl, hr, hs⟩ := finU_some h hk
      have el : a - leadU 1 = a := by unfold leadU; rw [if_pos rfl]; omega
      rw [el] at hr ⊢
      exact ⟨hr, by rw [putU_1 hr e]; rfl, r, by rw [putU_1 hr e]; rfl⟩
    · rw [len_2 e1 e2] at h h0
      match r, h, h0, hb with
      | [], h, h0, hb => exact absurd (show (2 : Nat) > 1 by omega) (fun q => h0 (.inr q))
      | b :: r, h, h0, hb =>
        have hbb := hb.tail.head
        by_cases hc : 128 ≤ b ∧ b ≤ 191
        · rw [contU_step hc, contU_fin] at h
          obtain ⟨rfl, rfl, hr, hs⟩ := finU_some h hk
          have el : (a - leadU 2) * 64 + b % 64 = (a - 192) * 64 + (b - 128) := by unfold leadU; rw [if_neg (by omega), if_pos rfl]; omega
          rw [el] at hr hs ⊢
          have hlo : 128 ≤ (a - 192) * 64 + (b - 128) := by
            rcases Int.lt_or_le ((a - 192) * 64 + (b - 128)) 128 with q | q
            · rw [size_1 q] at hs; omega
            · exact q
          have hp := putU_2 hr hlo (by omega)
          rw [hp]
          exact ⟨hr, rfl, r, by show _ = _ :: _ :: r; congr 1; omega; congr 1; omega⟩
        · rw [contU_no hc] at h; exact z _ h
    · rw [len_3 e1 e2] at h h0
      match r, h, h0, hb with
      | [], h, h0, hb => exact absurd (show (3 : Nat) > 1 by omega) (fun q => h0 (.inr q))
      | [b], h, h0, hb => exact absurd (show (3 : Nat) > 2 by omega) (fun q => h0 (.inr q))
      | b :: d :: r, h, h0, hb =>
        have hbb := hb.tail.head
        have hdd := hb.tail.tail.head
        by_cases hc : 128 ≤ b ∧ b ≤ 191
        · rw [contU_step hc] at h
          by_cases hd : 128 ≤ d ∧ d ≤ 191
          · rw [contU_step hd, contU_fin] at h
            obtain ⟨rfl, rfl, hr, hs⟩ := finU_some h hk
            have el : ((a - leadU 3) * 64 + b % 64) * 64 + d % 64 = (a - 224) * 4096 + (b - 128) * 64 + (d - 128) := by unfold leadU; rw [if_neg (by omega), if_neg (by omega), if_pos rfl]; omega
            rw [el] at hr hs ⊢
            have hlo : 2048 ≤ (a - 224) * 4096 + (b - 128) * 64 + (d - 128) := by
              rcases Int.lt_or_le ((a - 224) * 4096 + (b - 128) * 64 + (d - 128)) 2048 with q | q
              · rcases Int.lt_or_le ((a - 224) * 4096 + (b - 128) * 64 + (d - 128)) 128 with q1 | q1
                · rw [size_1 q1] at hs; omega
                · rw [size_2 q1 q] at hs; omega
              · exact q
            have hp := putU_3 hr hlo (by omega)
            rw [hp]
            exact ⟨hr, rfl, r, by show _ = _ :: _ :: _ :: r; congr 1; omega; congr 1; omega; congr 1; omega⟩
          · rw [contU_no hd] at h; exact z _ h
        · rw [contU_no hc] at h; exact z _ h
    · rw [len_4 e1 e2] at h h0
      match r, h, h0, hb with
      | [], h, h0, hb => exact absurd (show (4 : Nat) > 1 by omega) (fun q => h0 (.inr q))
      | [b], h, h0, hb => exact absurd (show (4 : Nat) > 2 by omega) (fun q => h0 (.inr q))
      | [b, d], h, h0, hb => exact absurd (show (4 : Nat) > 3 by omega) (fun q => h0 (.inr q))
      | b :: d :: f :: r, h, h0, hb =>
        have hbb := hb.tail.head
        have hdd := hb.tail.tail.head
        have hff := hb.tail.tail.tail.head
        by_cases hc : 128 ≤ b ∧ b ≤ 191
        · rw [contU_step hc] at h
          by_cases hd : 128 ≤ d ∧ d ≤ 191
          · rw [contU_step hd] at h
            by_cases hf : 128 ≤ f ∧ f ≤ 191
            · rw [contU_step hf, contU_fin] at h
              obtain ⟨rfl, rfl, hr, hs⟩ := finU_some h hk
              have el : (((a - leadU 4) * 64 + b % 64) * 64 + d % 64) * 64 + f % 64 = (a - 240) * 262144 + (b - 128) * 4096 + (d - 128) * 64 + (f - 128) := by unfold leadU; rw [if_neg (by omega), if_neg (by omega), if_neg (by omega)]; omega
              rw [el] at hr hs ⊢
              generalize hv : (a - 240) * 262144 + (b - 128) * 4096 + (d - 128) * 64 + (f - 128) = v at hr hs ⊢
              have hlo : 65536 ≤ v := by
                rcases Int.lt_or_le v 65536 with q | q
                · rcases Int.lt_or_le v 2048 with q2 | q2
                  · rcases Int.lt_or_le v 128 with q1 | q1
                    · rw [size_1 q1] at hs; omega
                    · rw [size_2 q1 q2] at hs; omega
                  · rw [size_3 q2 q] at hs; omega
                · exact q
              have hp := putU_4 hr hlo
              rw [hp]
              exact ⟨hr, rfl, r, by show _ = _ :: _ :: _ :: _ :: r; congr 1; omega; congr 1; omega; congr 1; omega; congr 1; omega⟩
            · rw [contU_no hf] at h; exact z _ h
          · rw [contU_no hd] at h; exact z _ h
        · rw [contU_no hc] at h; exact z _ h
    · exact absurd (len_0 e) (fun q => h0 (.inl q))
theorem putU_bytes (c : Int) : Bytes (putU c) := by
  by_cases h : rightU c
  · obtain ⟨h0, h1, h2⟩ := id h
    rcases (show c < 128 ∨ (128 ≤ c ∧ c < 2048) ∨ (2048 ≤ c ∧ c < 65536) ∨ 65536 ≤ c by omega) with a | ⟨a, b⟩ | ⟨a, b⟩ | a
    · rw [putU_1 h a]; exact Bytes.cons (by omega) Bytes.nil
    · rw [putU_2 h a b]; exact Bytes.cons (by omega) (Bytes.cons (by omega) Bytes.nil)
    · rw [putU_3 h a b]; exact Bytes.cons (by omega) (Bytes.cons (by omega) (Bytes.cons (by omega) Bytes.nil))
    · rw [putU_4 h a]; exact Bytes.cons (by omega) (Bytes.cons (by omega) (Bytes.cons (by omega) (Bytes.cons (by omega) Bytes.nil)))
  · rw [putU_no h]; exact Bytes.nil
theorem putU_len {c : Int} (h : rightU c) : ((putU c).length : Int) = utfSize c := by
  obtain ⟨h0, h1, h2⟩ := id h
  rcases (show c < 128 ∨ (128 ≤ c ∧ c < 2048) ∨ (2048 ≤ c ∧ c < 65536) ∨ 65536 ≤ c by omega) with a | ⟨a, b⟩ | ⟨a, b⟩ | a
  · rw [putU_1 h a, size_1 a]; rfl
  · rw [putU_2 h a b, size_2 a b]; rfl
  · rw [putU_3 h a b, size_3 a b]; rfl
  · rw [putU_4 h a, size_4 a]; rfl
theorem putU_bd (c : Int) : (putU c).length ≤ 4 := by
  by_cases h : rightU c
  · have := putU_len h
    unfold utfSize at this
    split at this
    · omega
    · split at this
      · omega
      · split at this <;> omega
  · rw [putU_no h]; simp
theorem put_next' (l : List Int) (hb : Bytes l) (h : (nextU l).2 ≠ 0) : rightU (nextU l).1 ∧ (nextU l).2 = ((putU (nextU l).1).length : Int) ∧ ∃ rest, l = putU (nextU l).1 ++ rest := put_next l (nextU l).1 (nextU l).2 hb rfl h
def charsU (l : List Int) : List Int := match l with
  | [] => []
  | a :: r => if (nextU (a :: r)).2 = 0 then 65533 :: charsU r else (nextU (a :: r)).1 :: charsU (r.drop ((nextU (a :: r)).2.toNat - 1))
  termination_by l.length
  decreasing_by all_goals (simp only [List.length_cons, List.length_drop]; omega)
def wellU (l : List Int) : Prop := match l with
  | [] => True
  | a :: r => (nextU (a :: r)).2 ≠ 0 ∧ wellU (r.drop ((nextU (a :: r)).2.toNat - 1))
  termination_by l.length
  decreasing_by all_goals (simp only [List.length_cons, List.length_drop]; omega)
def flatU (cs : List Int) : List Int := cs.flatMap putU
theorem chars_nil : charsU [] = [] := by rw [charsU]
theorem chars_bad {a : Int} {r : List Int} (h : (nextU (a :: r)).2 = 0) : charsU (a :: r) = 65533 :: charsU r := by rw [charsU, if_pos h]
theorem chars_good {a : Int} {r : List Int} (h : (nextU (a :: r)).2 ≠ 0) : charsU (a :: r) = (nextU (a :: r)).1 :: charsU (r.drop ((nextU (a :: r)).2.toNat - 1)) := by rw [charsU, if_neg h]
theorem well_nil : wellU [] := by rw [wellU]; trivial
theorem well_cons {a : Int} {r : List Int} : wellU (a :: r) ↔ (nextU (a :: r)).2 ≠ 0 ∧ wellU (r.drop ((nextU (a :: r)).2.toNat - 1)) := by rw [wellU]
theorem right_fffd : rightU 65533 := by decide
theorem next_pos {a : Int} {r : List Int} (hb : Bytes (a :: r)) (h : (nextU (a :: r)).2 ≠ 0) : 1 ≤ (nextU (a :: r)).2 ∧ (nextU (a :: r)).2 ≤ ((a :: r).length : Int) := by
  obtain ⟨h1, h2, rest, h3⟩ := put_next' (a :: r) hb h
  generalize (nextU (a :: r)).1 = c at h1 h2 h3
  have := congrArg List.length h3
  rw [List.length_append] at this
  omega
theorem drop_pos {a : Int} {r : List Int} {k : Int} (h : 1 ≤ k) : (a :: r).drop k.toNat = r.drop (k.toNat - 1) := by
  obtain ⟨n, hn⟩ : ∃ n, k.toNat = n + 1 := ⟨k.toNat - 1, by omega⟩
  rw [hn]; rfl
theorem chars_right : ∀ (n : Nat) (l : List Int), l.length ≤ n → Bytes l → ∀ c ∈ charsU l, rightU c
  | n, [], hn, hb => by rw [chars_nil]; intro c hc; cases hc
  | 0, a :: r, hn, hb => by simp at hn
  | n + 1, a :: r, hn, hb => by
    by_cases h : (nextU (a :: r)).2 = 0
    · rw [chars_bad h]
      intro c hc
      rcases List.mem_cons.1 hc with rfl | hc
      · exact right_fffd
      · exact chars_right n r (by simp at hn; omega) hb.tail c hc
    · rw [chars_good h]
      intro c hc
      rcases List.mem_cons.1 hc with rfl | hc
      · exact (put_next' (a :: r) hb h).1
      · exact chars_right n _ (by simp at hn ⊢; omega) (hb.tail.drop _) c hc
theorem chars_len : ∀ (n : Nat) (l : List Int), l.length ≤ n → (charsU l).length ≤ l.length
  | n, [], hn => by rw [chars_nil]; simp
  | 0, a :: r, hn => by simp at hn
  | n + 1, a :: r, hn => by
    by_cases h : (nextU (a :: r)).2 = 0
    · rw [chars_bad h]
      have := chars_len n r (by simp at hn; omega)
      simp; omega
    · rw [chars_good h]
      have := chars_len n (r.drop ((nextU (a :: r)).2.toNat - 1)) (by simp at hn ⊢; omega)
      simp at this ⊢; omega
theorem putU_ne {c : Int} (h : rightU c) : ∃ a r, putU c = a :: r := by
  cases hp : putU c with
  | nil =>
    have := putU_len h
    rw [hp] at this
    unfold utfSize at this
    simp at this
    split at this
    · omega
    · split at this
      · omega
      · split at this <;> omega
  | cons a r => exact ⟨a, r, rfl⟩
theorem chars_flat : ∀ (cs : List Int), (∀ c ∈ cs, rightU c) → charsU (flatU cs) = cs ∧ wellU (flatU cs)
  | [], _ => ⟨chars_nil, well_nil⟩
  | c :: cs, h => by
    have hc := h c List.mem_cons_self
    obtain ⟨h1, h2⟩ := chars_flat cs (fun x hx => h x (List.mem_cons_of_mem _ hx))
    have hn := next_put hc (flatU cs)
    obtain ⟨a, r, hp⟩ := putU_ne hc
    have e : flatU (c :: cs) = a :: (r ++ flatU cs) := by show putU c ++ flatU cs = _; rw [hp]; rfl
    rw [hp] at hn
    have hn' : nextU (a :: (r ++ flatU cs)) = (c, ((a :: r).length : Int)) := hn
    have hd : (r ++ flatU cs).drop (((a :: r).length : Int).toNat - 1) = flatU cs := by
      rw [Int.toNat_natCast, List.length_cons, Nat.add_sub_cancel, List.drop_left]
    rw [e]
    have hne : (nextU (a :: (r ++ flatU cs))).2 ≠ 0 := by rw [hn']; simp; omega
    constructor
    · rw [chars_good hne, hn']
      simp only
      rw [hd, h1]
    · rw [well_cons, hn']
      simp only
      rw [hd]
      exact ⟨by simp; omega, h2⟩
theorem flatU_bytes (cs : List Int) : Bytes (flatU cs) := by
  intro x hx
  obtain ⟨c, _, hc⟩ := List.mem_flatMap.1 hx
  exact putU_bytes c x hc
theorem flatU_len (cs : List Int) : (flatU cs).length ≤ 4 * cs.length := by
  induction cs with
  | nil => simp [flatU]
  | cons c cs ih =>
    show (putU c ++ flatU cs).length ≤ _
    have := putU_bd c
    simp
    omega
noncomputable def countU (n : Int) (l : List Int) : Int := open Classical in if wellU l then n + (charsU l).length else -1
theorem count_nil (n : Int) : countU n [] = n := by unfold countU; rw [if_pos well_nil, chars_nil]; simp
theorem count_bad {n : Int} {a : Int} {r : List Int} (h : (nextU (a :: r)).2 = 0) : countU n (a :: r) = -1 := by unfold countU; rw [if_neg (fun e => (well_cons.1 e).1 h)]
theorem count_good {n : Int} {a : Int} {r : List Int} (h : (nextU (a :: r)).2 ≠ 0) : countU n (a :: r) = countU (n + 1) (r.drop ((nextU (a :: r)).2.toNat - 1)) := by
  unfold countU
  by_cases hw : wellU (r.drop ((nextU (a :: r)).2.toNat - 1))
  · rw [if_pos hw, if_pos (well_cons.2 ⟨h, hw⟩), chars_good h]
    simp
    omega
  · rw [if_neg hw, if_neg (fun e => hw (well_cons.1 e).2)]
theorem count_ge {l : List Int} : countU 0 l ≥ 0 ↔ wellU l := by
  unfold countU
  by_cases h : wellU l
  · rw [if_pos h]; exact ⟨fun _ => h, fun _ => by omega⟩
  · rw [if_neg h]; exact ⟨fun e => by omega, fun e => absurd e h⟩
end Go.Proofs.YtjkfobmfddfjhaaDoorX

/- Characters: what utf.Next, Count and Right answer, the words on bytes. -/
set_option linter.unusedVariables false
set_option linter.unusedSimpArgs false
namespace Go.Proofs.YtjkfobmfddfjhaaDoorX
open Go
theorem right_eq (n : Nat) (c : Int) : F110 n c = some (decide (rightU c)) := by
  rw [F110]
  by_cases h0 : 0 ≤ c
  · rw [decide_eq_true h0, iteB_t]
    by_cases h1 : c ≤ 1114111
    · rw [decide_eq_true h1, iteB_t]
      by_cases h2 : c < 55296
      · rw [decide_eq_true h2, iteB_t, decide_eq_true (show rightU c from ⟨h0, h1, .inl h2⟩)]
      · rw [decide_eq_false h2, iteB_f]
        congr 1
        rw [decide_eq_decide]; unfold rightU; omega
    · rw [decide_eq_false h1, iteB_f, decide_eq_false (fun e : rightU c => h1 e.2.1)]
  · rw [decide_eq_false h0, iteB_f, decide_eq_false (fun e : rightU c => h0 e.1)]
theorem size_eq (n : Nat) (c : Int) : F111 n c = some (utfSize c) := by
  rw [F111]
  rcases (show c < 128 ∨ (128 ≤ c ∧ c < 2048) ∨ (2048 ≤ c ∧ c < 65536) ∨ 65536 ≤ c by omega) with a | ⟨a, b⟩ | ⟨a, b⟩ | a
  · rw [size_1 a, decide_eq_false (by omega), iteB_f, F111_J1, decide_eq_false (by omega), iteB_f, F111_J2, decide_eq_false (by omega), iteB_f]; rfl
  · rw [size_2 a b, decide_eq_true (by omega), iteB_t, F111_J1, decide_eq_false (by omega), iteB_f, F111_J2, decide_eq_false (by omega), iteB_f]; rfl
  · rw [size_3 a b, decide_eq_true (by omega), iteB_t, F111_J1, decide_eq_true (by omega), iteB_t, F111_J2, decide_eq_false (by omega), iteB_f]; rfl
  · rw [size_4 a, decide_eq_true (by omega), iteB_t, F111_J1, decide_eq_true (by omega), iteB_t, F111_J2, decide_eq_true (by omega), iteB_t]; rfl
theorem length_eq (n : Nat) (a : Int) : F107 n a = some (lenU a : Int) := by
  rw [F107]
  unfold lenU
  by_cases h1 : a < 128
  · rw [decide_eq_true h1, if_pos h1]; rfl
  · rw [decide_eq_false h1, if_neg h1, iteB_f]
    by_cases h2 : a < 192
    · rw [decide_eq_true h2, if_pos h2]; rfl
    · rw [decide_eq_false h2, if_neg h2, iteB_f]
      by_cases h3 : a < 224
      · rw [decide_eq_true h3, if_pos h3]; rfl
      · rw [decide_eq_false h3, if_neg h3, iteB_f]
        by_cases h4 : a < 240
        · rw [decide_eq_true h4, if_pos h4]; rfl
        · rw [decide_eq_false h4, if_neg h4, iteB_f]
          by_cases h5 : a < 248
          · rw [decide_eq_true h5, if_pos h5]; rfl
          · rw [decide_eq_false h5, if_neg h5, iteB_f]; rfl
theorem lead_eq (k n : Nat) (h0 : 1 ≤ n) (h1 : n ≤ 4) : F109 k (n : Int) = some (leadU n) := by
  rw [F109]
  rcases (show n = 1 ∨ n = 2 ∨ n = 3 ∨ n = 4 by omega) with rfl | rfl | rfl | rfl <;> decide +kernel
theorem off_fin : ∀ a : Fin 256, lenU (a.val : Int) ≠ 0 → IntKind.wrap .i32 (bAndNot .i32 (a.val : Int) (leadU (lenU (a.val : Int)))) = (a.val : Int) - leadU (lenU (a.val : Int)) := by decide +kernel
theorem lead_off {a : Int} (h0 : 0 ≤ a) (h1 : a ≤ 255) (h : lenU a ≠ 0) : IntKind.wrap .i32 (bAndNot .i32 a (leadU (lenU a))) = a - leadU (lenU a) := by
  obtain ⟨m, rfl⟩ := Int.eq_ofNat_of_zero_le h0
  exact off_fin ⟨m, by omega⟩ h
theorem goes_fin : ∀ b : Fin 256, (IntKind.wrap .u8 (bAndNot .u8 (b.val : Int) 63) == (128 : Int)) = decide (128 ≤ (b.val : Int) ∧ (b.val : Int) ≤ 191) := by decide +kernel
theorem goes_eq (k : Nat) {b : Int} (h0 : 0 ≤ b) (h1 : b ≤ 255) : F108 k b = some (decide (128 ≤ b ∧ b ≤ 191)) := by
  obtain ⟨m, rfl⟩ := Int.eq_ofNat_of_zero_le h0
  rw [F108]
  exact congrArg some (goes_fin ⟨m, by omega⟩)
theorem acc_step {c b : Int} {m : Nat} (h0 : 0 ≤ c) (hb : 0 ≤ b) (hc : c * 64 ^ (m + 1) + 64 ^ (m + 1) ≤ 2097152) : c * 64 + 64 ≤ 2097152 ∧ (c * 64 + b % 64) * 64 ^ m + 64 ^ m ≤ 2097152 := by
  have hp : (0 : Int) < 64 ^ m := Int.pow_pos (by omega)
  have hpe : (64 : Int) ^ (m + 1) = 64 ^ m * 64 := Int.pow_succ ..
  rw [hpe] at hc
  generalize (64 : Int) ^ m = P at hc hp
  clear hpe
  have e1 : c * (P * 64) = c * 64 * P := by rw [Int.mul_comm P 64, Int.mul_assoc]
  rw [e1] at hc
  have h1 : (c * 64 + 64) * 1 ≤ (c * 64 + 64) * P := Int.mul_le_mul_of_nonneg_left (by omega) (by omega)
  have h2 : (c * 64 + 64) * P = c * 64 * P + 64 * P := Int.add_mul ..
  have e5 : (c * 64 + b % 64) * P ≤ (c * 64 + 63) * P := Int.mul_le_mul_of_nonneg_right (by omega) (by omega)
  have e6 : (c * 64 + 63) * P = c * 64 * P + 63 * P := Int.add_mul ..
  rw [h2] at h1
  rw [e6] at e5
  generalize c * 64 * P = X at *
  generalize (c * 64 + b % 64) * P = Y at *
  exact ⟨by omega, by omega⟩
theorem acc_eq {c b : Int} (h0 : 0 ≤ c) (hb : 0 ≤ b) (hb1 : b ≤ 255) (hc : c * 64 + 64 ≤ 2097152) : IntKind.wrap .i32 (bOr .i32 (IntKind.wrap .i32 (bShl .i32 c 6)) (IntKind.wrap .i32 (IntKind.wrap .u8 (bAnd .u8 b (63 : Int))))) = c * 64 + b % 64 := by
  have e1 : bAnd .u8 b 63 = b % 64 := bAnd_low .u8 6 b hb (by show b < 256; omega) (by decide) 63 (by decide)
  have e2 : bShl .i32 c 6 = c * 64 := by
    unfold bShl
    rw [show (2 : Int) ^ min 6 (IntKind.bits .i32) = 64 by decide]
  rw [e1, e2, wu8 (by omega), w32 (n := b % 64) (by omega), w32 (n := c * 64) (by omega)]
  rw [bOr_add .i32 6 (c * 64) (b % 64) (by omega) (by show c * 64 < 4294967296; omega) (by show c * 64 % 64 = 0; omega) (by omega) (by show b % 64 < 64; omega) (by decide), w32 (by omega)]
/-! ### Next -/
theorem ev_Next_loop (s : List UInt8) (n : Nat) (hn : n ≤ 4) (hns : n ≤ s.length) : ∀ (m i : Nat) (c : Int), i + m = n → 0 ≤ c → c * 64 ^ m + 64 ^ m ≤ 2097152 →
    Ev (fun k => F72_L1 k s (n : Int) c (i : Int)) (contU n c ((ints s).drop i) m) := by
  intro m
  induction m with
  | zero =>
    intro i c hi h0 hc
    rw [contU_fin]
    unfold finU
    by_cases hr : rightU c
    · by_cases hz : utfSize c = (n : Int)
      · rw [if_pos (show rightU c ∧ utfSize c = (n : Int) from ⟨hr, hz⟩)]
        refine Ev.step (Ev.pure.congr fun k => ?_)
        rw [F72_L1, decide_eq_false (by omega), iteB_f, right_eq, bind_some', decide_eq_true hr]
        show iteB false _ _ = _
        rw [iteB_f, size_eq, bind_some', show (utfSize c != (n : Int)) = false by rw [hz]; simp, iteB_f]
      · rw [if_neg (show ¬ (rightU c ∧ utfSize c = (n : Int)) from fun e => hz e.2)]
        refine Ev.step (Ev.pure.congr fun k => ?_)
        rw [F72_L1, decide_eq_false (by omega), iteB_f, right_eq, bind_some', decide_eq_true hr]
        show iteB false _ _ = _
        rw [iteB_f, size_eq, bind_some', show (utfSize c != (n : Int)) = true by rw [bne_iff_ne]; exact hz, iteB_t]
    · rw [if_neg (show ¬ (rightU c ∧ utfSize c = (n : Int)) from fun e => hr e.1)]
      refine Ev.step (Ev.pure.congr fun k => ?_)
      rw [F72_L1, decide_eq_false (by omega), iteB_f, right_eq, bind_some', decide_eq_false hr]
      rfl
  | succ m ih =>
    intro i c hi h0 hc
    rw [drop_bt s i (by omega)]
    have hb := bt_bd s i
    have hbe : ((s.getD i 0).toNat : Int) = bt s i := rfl
    have hw : IntKind.wrap .i64 ((i : Int) + 1) = ((i + 1 : Nat) : Int) := by rw [w64 (by omega)]; omega
    have hg := fun k => goes_eq k hb.1 hb.2
    generalize bt s i = b at *
    by_cases hcn : 128 ≤ b ∧ b ≤ 191
    · obtain ⟨k1, k2⟩ := acc_step h0 hb.1 hc
      rw [contU_step hcn]
      refine Ev.step ((ih (i + 1) (c * 64 + b % 64) (by omega) (by omega) k2).congr fun k => ?_)
      rw [F72_L1, decide_eq_true (by omega), iteB_t, grd_t _ (by omega), toNat_nat, hbe, hg, bind_some', decide_eq_true hcn]
      show iteB false _ _ = _
      rw [iteB_f, grd_t _ (by omega), acc_eq h0 hb.1 hb.2 k1, hw]
    · rw [contU_no hcn]
      refine Ev.step (Ev.pure.congr fun k => ?_)
      rw [F72_L1, decide_eq_true (by omega), iteB_t, grd_t _ (by omega), toNat_nat, hbe, hg, bind_some', decide_eq_false hcn]
      rfl
theorem lenU_le (a : Int) : lenU a ≤ 4 := by
  unfold lenU
  repeat' split
  all_goals omega
theorem ev_Next (s : List UInt8) : Ev (fun k => F72 k s) (nextU (ints s)) := by
  by_cases h0 : s.length = 0
  · obtain rfl := List.eq_nil_of_length_eq_zero h0
    refine Ev.pure.congr fun k => ?_
    rw [F72]; rfl
  · have hd := drop_bt s 0 (by omega)
    rw [List.drop_zero] at hd
    have hb := bt_bd s 0
    have hbe : ((s.getD 0 0).toNat : Int) = bt s 0 := rfl
    have hne : (s == []) = false := by rw [beq_eq_false_iff_ne]; rintro rfl; exact h0 rfl
    have z0 : ((0 : Int)).toNat = 0 := rfl
    rw [hd]
    have hlen : (bt s 0 :: (ints s).drop 1).length = s.length := by simp [ints_len]; omega
    show Ev _ (nextU (bt s 0 :: (ints s).drop 1))
    rw [nextU, hlen]
    have h4 := lenU_le (bt s 0)
    generalize hB : bt s 0 = b at *
    by_cases hz : lenU b = 0
    · rw [if_pos (.inl hz)]
      refine Ev.pure.congr fun k => ?_
      rw [F72, hne, iteB_f, grd_t _ (by omega), z0, hbe, length_eq, bind_some', hz]; rfl
    · by_cases hg : lenU b > s.length
      · rw [if_pos (.inr hg)]
        refine Ev.pure.congr fun k => ?_
        rw [F72, hne, iteB_f, grd_t _ (by omega), z0, hbe, length_eq, bind_some', show (((lenU b : Nat) : Int) == 0) = false by rw [beq_eq_false_iff_ne]; omega, iteB_f, decide_eq_true (by omega), iteB_t]
      · rw [if_neg (by omega)]
        have hlead : 0 ≤ b - leadU (lenU b) ∧ (b - leadU (lenU b)) * 64 ^ (lenU b - 1) + 64 ^ (lenU b - 1) ≤ 2097152 := by
          rcases (show b < 128 ∨ (192 ≤ b ∧ b < 224) ∨ (224 ≤ b ∧ b < 240) ∨ (240 ≤ b ∧ b < 248) ∨ ((128 ≤ b ∧ b < 192) ∨ 248 ≤ b) by omega) with e | ⟨e1, e2⟩ | ⟨e1, e2⟩ | ⟨e1, e2⟩ | e
          · rw [len_1 e, show leadU 1 = 0 from rfl]; simp; omega
          · rw [len_2 e1 e2, show leadU 2 = 192 from rfl]; simp; omega
          · rw [len_3 e1 e2, show leadU 3 = 224 from rfl]; simp; omega
          · rw [len_4 e1 e2, show leadU 4 = 240 from rfl]; simp; omega
          · exact absurd (len_0 e) hz
        have e := ev_Next_loop s (lenU b) h4 (by omega) (lenU b - 1) 1 (b - leadU (lenU b)) (by omega) hlead.1 hlead.2
        refine e.congr fun k => ?_
        rw [F72, hne, iteB_f, grd_t _ (by omega), z0, hbe, length_eq, bind_some', show (((lenU b : Nat) : Int) == 0) = false by rw [beq_eq_false_iff_ne]; omega, iteB_f, decide_eq_false (by omega), iteB_f, grd_t _ (by omega), lead_eq k (lenU b) (by omega) (by omega), bind_some', w32 (n := b) (by omega), lead_off hb.1 hb.2 hz]
        rfl
end Go.Proofs.YtjkfobmfddfjhaaDoorX

/- Characters: Count and Right. -/
set_option linter.unusedVariables false
set_option linter.unusedSimpArgs false
namespace Go.Proofs.YtjkfobmfddfjhaaDoorX
open Go
theorem ev_Count_loop : ∀ (d : Nat) (s : List UInt8) (n : Int), s.length ≤ d → s.length ≤ 1000000000 → 0 ≤ n → n + s.length ≤ 1000000000 →
    Ev (fun k => F141_L1 k s n) (countU n (ints s)) := by
  intro d
  have zero : ∀ (s : List UInt8) (n : Int), s.length = 0 → Ev (fun k => F141_L1 k s n) (countU n (ints s)) := by
    intro s n hz
    obtain rfl := List.eq_nil_of_length_eq_zero hz
    rw [show ints [] = [] from rfl, count_nil]
    exact Ev.step (Ev.pure.congr fun k => by rw [F141_L1]; rfl)
  induction d with
  | zero => intro s n hd hs h0 hn; exact zero s n (by omega)
  | succ d ih =>
    intro s n hd hs h0 hn
    by_cases hz : s.length = 0
    · exact zero s n hz
    · obtain ⟨a, r, hl⟩ := ints_cons s hz
      have hb := ints_bytes s
      have hlen := ints_len s
      obtain ⟨N1, e1⟩ := ev_Next s
      have hne : (s == []) = false := by rw [beq_eq_false_iff_ne]; rintro rfl; exact hz rfl
      rw [hl] at hb hlen e1 ⊢
      by_cases h : (nextU (a :: r)).2 = 0
      · rw [count_bad h]
        have hzb : ((nextU (a :: r)).2 == (0 : Int)) = true := by rw [h]; rfl
        refine Ev.step ⟨N1, fun n' hn' => ?_⟩
        have q := e1 n' hn'
        dsimp only at q
        show F141_L1 (n' + 1) s n = _
        rw [F141_L1, hne, Bool.not_false, iteB_t, q, bind_some', hzb, iteB_t]
      · have hp := next_pos hb h
        rw [count_good h]
        have hzb : ((nextU (a :: r)).2 == (0 : Int)) = false := by rw [beq_eq_false_iff_ne]; exact h
        have hdr : ints (s.drop (nextU (a :: r)).2.toNat) = r.drop ((nextU (a :: r)).2.toNat - 1) := by rw [ints_drop, hl, drop_pos hp.1]
        have hw : IntKind.wrap .i64 (n + 1) = n + 1 := w64 (by omega)
        obtain ⟨M2, i2⟩ := ih (s.drop (nextU (a :: r)).2.toNat) (n + 1) (by rw [List.length_drop]; omega) (by rw [List.length_drop]; omega) (by omega) (by rw [List.length_drop]; omega)
        rw [hdr] at i2
        have q1 : (nextU (a :: r)).2 ≤ (s.length : Int) := by rw [← hlen]; exact hp.2
        refine Ev.step ⟨N1 + M2, fun n' hn' => ?_⟩
        have q := e1 n' (by omega)
        have q' := i2 n' (by omega)
        dsimp only at q q'
        show F141_L1 (n' + 1) s n = _
        rw [F141_L1, hne, Bool.not_false, iteB_t, q, bind_some', hzb, iteB_f, grd_t _ (by omega), hw, q']
theorem ev_Count (s : List UInt8) (hs : s.length ≤ 1000000000) : Ev (fun k => F141 k s) (countU 0 (ints s)) := (ev_Count_loop s.length s 0 (Nat.le_refl _) hs (by omega) (by omega)).congr fun k => rfl
theorem ev_Right (s : List UInt8) (hs : s.length ≤ 1000000000) : Ev (fun k => F119 k s) (decide ((0 : Int) ≤ countU 0 (ints s))) :=
  (Ev.bind (g := fun _ v => some (decide ((0 : Int) ≤ v))) (ev_Count s hs) Ev.pure).congr fun k => rfl
end Go.Proofs.YtjkfobmfddfjhaaDoorX

/- Characters: what utf.Put and Clean answer. -/
set_option linter.unusedVariables false
set_option linter.unusedSimpArgs false
namespace Go.Proofs.YtjkfobmfddfjhaaDoorX
open Go
theorem leadB (L d : Int) (i : Nat) (hi : i ≤ 8) (h0 : 0 ≤ d) (h1 : d < 2 ^ i) (hL : L % 2 ^ i = 0) (hL0 : 0 ≤ L) (hs : L + d ≤ 255) : IntKind.u8.wrap (IntKind.i32.wrap (bOr .i32 L d)) = L + d := by
  have e : (2 : Int) ^ IntKind.i32.bits = 4294967296 := by decide
  rw [bOr_add .i32 i L d hL0 (by omega) hL h0 h1 (by show i ≤ 32; omega), Go.IntWalk.i32_in _ (by omega), Go.IntWalk.u8_in _ (by omega)]
theorem followB (d : Int) (h0 : 0 ≤ d) (h1 : d < 2147483648) : IntKind.u8.wrap (IntKind.i32.wrap (bOr .i32 128 (IntKind.i32.wrap (bAnd .i32 d 63)))) = 128 + d % 64 := by
  have e : (2 : Int) ^ IntKind.i32.bits = 4294967296 := by decide
  rw [bAnd_low .i32 6 d h0 (by omega) (by decide) 63 (by decide), Go.IntWalk.i32_in (d % 2 ^ 6) (by omega)]
  exact leadB 128 (d % 2 ^ 6) 6 (by omega) (by omega) (by omega) (by decide) (by decide) (by omega)
def tailU (c : Int) : Nat → List Int
  | 0 => []
  | k + 1 => (128 + c / 64 ^ k % 64) :: tailU c k
theorem put_loop (c : Int) (h0 : 0 ≤ c) (h1 : c ≤ 1114111) : ∀ (k : Nat) (l : List Int), k ≤ 3 → l.length + k ≤ 549755813000 → Ev (fun n => F78_L1 n c ((k : Int) - 1) l) (l ++ tailU c k)
  | 0, l, hk, hl => Ev.step (Ev.pure.congr fun n => by
      rw [F78_L1, decide_eq_false (by omega), iteB_f]; simp [tailU])
  | k + 1, l, hk, hl => by
    have e1 : (((k + 1 : Nat) : Int) - 1) = (k : Int) := by omega
    have e2 : IntKind.wrap .i64 ((k : Int) - 1) = (k : Int) - 1 := w64 (by omega)
    have e3 : IntKind.wrap .i64 (6 * (k : Int)) = 6 * (k : Int) := w64 (by omega)
    have hp : (1 : Int) ≤ 64 ^ k := by
      match k, hk with
      | 0, _ => decide
      | 1, _ => decide
      | 2, _ => decide
    have e4 : bShr .i32 c (6 * (k : Int)).toNat = c / 64 ^ k := by
      refine bShr_div .i32 c _ _ ?_ (by omega)
      match k, hk with
      | 0, _ => decide
      | 1, _ => decide
      | 2, _ => decide
    have q0 : 0 ≤ c / 64 ^ k := Int.ediv_nonneg h0 (by omega)
    have q1 : c / 64 ^ k ≤ c := Int.ediv_le_self _ h0
    have ih := put_loop c h0 h1 k (l ++ [128 + c / 64 ^ k % 64]) (by omega) (by simp; omega)
    rw [show l ++ tailU c (k + 1) = l ++ [128 + c / 64 ^ k % 64] ++ tailU c k by simp [tailU]]
    refine Ev.step (ih.congr fun n => ?_)
    show F78_L1 (n + 1) c (((k + 1 : Nat) : Int) - 1) l = _
    rw [e1, F78_L1, decide_eq_true (show (0 : Int) ≤ (k : Int) by omega), iteB_t, e3, e2, e4, followB _ q0 (by omega)]
    rw [grd_t _ (by omega), grd_t _ (by omega)]
theorem ev_Put (l : List Int) (c : Int) (hc0 : -2147483648 ≤ c) (hc1 : c ≤ 2147483647) (hl : l.length ≤ 549755800000) : Ev (fun n => F78 n l c) (l ++ putU c) := by
  by_cases hr : rightU c
  case neg =>
    refine Ev.pure.congr fun n => ?_
    rw [F78, grd_t _ (by omega), right_eq, bind_some', decide_eq_false hr, Bool.not_false, iteB_t, putU_no hr, List.append_nil]
  obtain ⟨h0, h1, _⟩ := id hr
  have key : ∀ (k : Nat) (L m : Int), k ≤ 3 → utfSize c = (k : Int) + 1 → leadU (k + 1) = L → 64 ^ k = m → IntKind.u8.wrap (IntKind.i32.wrap (bOr .i32 L (c / m))) = L + c / m → putU c = (L + c / m) :: tailU c k → Ev (fun n => F78 n l c) (l ++ putU c) := by
    intro k L m hk hs hL hm hb hp
    have ih := put_loop c h0 h1 k (l ++ [L + c / m]) hk (by simp; omega)
    rw [hp]
    rw [List.append_assoc] at ih
    refine ih.congr fun n => ?_
    have e1 : IntKind.wrap .i64 ((k : Int) + 1 - 1) = (k : Int) := by rw [w64 (by omega)]; omega
    have e2 : IntKind.wrap .i64 ((k : Int) + 1 - 2) = (k : Int) - 1 := by rw [w64 (by omega)]; omega
    have e3 : IntKind.wrap .i64 (6 * (k : Int)) = 6 * (k : Int) := w64 (by omega)
    have e4 : bShr .i32 c (6 * (k : Int)).toNat = c / m := by
      subst hm
      refine bShr_div .i32 c _ _ ?_ ?_
      · match k, hk with
        | 0, _ => decide
        | 1, _ => decide
        | 2, _ => decide
        | 3, _ => decide
      · match k, hk with
        | 0, _ => decide
        | 1, _ => decide
        | 2, _ => decide
        | 3, _ => decide
    have hle := lead_eq n (k + 1) (by omega) (by omega)
    rw [show (((k + 1 : Nat)) : Int) = (k : Int) + 1 from by omega, hL] at hle
    rw [F78, grd_t _ (by omega), right_eq, bind_some', decide_eq_true hr, Bool.not_true, iteB_f, size_eq, bind_some', hs, hle, bind_some', e1, e2, e3, grd_t _ (by omega), grd_t _ (by omega), e4, hb]
  rcases (show c < 128 ∨ (128 ≤ c ∧ c < 2048) ∨ (2048 ≤ c ∧ c < 65536) ∨ 65536 ≤ c by omega) with a | ⟨a, b⟩ | ⟨a, b⟩ | a
  · exact key 0 0 1 (by omega) (size_1 a) (by decide) (by decide) (leadB 0 (c / 1) 7 (by omega) (by omega) (by omega) (by decide) (by decide) (by omega)) (by rw [putU_1 hr a]; simp [tailU])
  · exact key 1 192 64 (by omega) (size_2 a b) (by decide) (by decide) (leadB 192 (c / 64) 5 (by omega) (by omega) (by omega) (by decide) (by decide) (by omega)) (by rw [putU_2 hr a b]; simp [tailU])
  · exact key 2 224 4096 (by omega) (size_3 a b) (by decide) (by decide) (leadB 224 (c / 4096) 4 (by omega) (by omega) (by omega) (by decide) (by decide) (by omega)) (by rw [putU_3 hr a b]; simp [tailU])
  · exact key 3 240 262144 (by omega) (size_4 a) (by decide) (by decide) (leadB 240 (c / 262144) 3 (by omega) (by omega) (by omega) (by decide) (by decide) (by omega)) (by rw [putU_4 hr a]; simp [tailU])
theorem clean_loop : ∀ (d : Nat) (s : List UInt8) (l : List Int), s.length ≤ d → d ≤ 1000000000 → l.length + 4 * d ≤ 10000000000 → Ev (fun n => F36_L1 n s l) ((l ++ flatU (charsU (ints s))).map toB) := by
  intro d
  induction d with
  | zero =>
    intro s l hd _ _
    obtain rfl := List.eq_nil_of_length_eq_zero (by omega : s.length = 0)
    rw [show ints [] = [] from rfl, chars_nil]
    exact Ev.step (Ev.pure.congr fun n => by rw [F36_L1]; simp [flatU, iteB])
  | succ d ih =>
    intro s l hd hd1 hl
    by_cases hz : s.length = 0
    · obtain rfl := List.eq_nil_of_length_eq_zero hz
      rw [show ints [] = [] from rfl, chars_nil]
      exact Ev.step (Ev.pure.congr fun n => by rw [F36_L1]; simp [flatU, iteB])
    · obtain ⟨a, r, hi⟩ := ints_cons s hz
      have hb := ints_bytes s
      have hlen := ints_len s
      obtain ⟨N1, e1⟩ := ev_Next s
      have hne : (s == []) = false := by rw [beq_eq_false_iff_ne]; rintro rfl; exact hz rfl
      rw [hi] at hb hlen e1 ⊢
      by_cases h : (nextU (a :: r)).2 = 0
      · have hzb : ((nextU (a :: r)).2 == (0 : Int)) = true := by rw [h]; rfl
        rw [chars_bad h]
        obtain ⟨N2, e2⟩ := ev_Put l 65533 (by omega) (by omega) (by omega)
        obtain ⟨N3, e3⟩ := ih (s.drop 1) (l ++ putU 65533) (by rw [List.length_drop]; omega) (by omega) (by have := putU_bd 65533; simp; omega)
        have hdr : ints (s.drop 1) = r := by rw [ints_drop, hi]; rfl
        rw [hdr, List.append_assoc] at e3
        refine Ev.step ⟨N1 + N2 + N3, fun n hn => ?_⟩
        have q1 := e1 n (by omega)
        have q2 := e2 n (by omega)
        have q3 := e3 n (by omega)
        dsimp only at q1 q2 q3
        show F36_L1 (n + 1) s l = _
        rw [F36_L1, hne, Bool.not_false, iteB_t, q1, bind_some', hzb, iteB_t, F36_J2, q2, bind_some', grd_t _ (by omega)]
        exact q3
      · have hzb : ((nextU (a :: r)).2 == (0 : Int)) = false := by rw [beq_eq_false_iff_ne]; exact h
        have hp := next_pos hb h
        have hr := (put_next' _ hb h).1
        obtain ⟨g0, g1, _⟩ := id hr
        rw [chars_good h]
        obtain ⟨N2, e2⟩ := ev_Put l (nextU (a :: r)).1 (by omega) (by omega) (by omega)
        obtain ⟨N3, e3⟩ := ih (s.drop (nextU (a :: r)).2.toNat) (l ++ putU (nextU (a :: r)).1) (by rw [List.length_drop]; omega) (by omega) (by have := putU_bd (nextU (a :: r)).1; simp; omega)
        have hdr : ints (s.drop (nextU (a :: r)).2.toNat) = r.drop ((nextU (a :: r)).2.toNat - 1) := by rw [ints_drop, hi, drop_pos hp.1]
        rw [hdr, List.append_assoc] at e3
        refine Ev.step ⟨N1 + N2 + N3, fun n hn => ?_⟩
        have q1 := e1 n (by omega)
        have q2 := e2 n (by omega)
        have q3 := e3 n (by omega)
        dsimp only at q1 q2 q3
        show F36_L1 (n + 1) s l = _
        rw [F36_L1, hne, Bool.not_false, iteB_t, q1, bind_some', hzb, iteB_f, F36_J2, q2, bind_some', grd_t _ (by omega)]
        exact q3
theorem ev_Clean (s : List UInt8) (hs : s.length ≤ 1000000000) : Ev (fun n => F36 n s) ((flatU (charsU (ints s))).map toB) := by
  have := clean_loop s.length s [] (Nat.le_refl _) hs (by simp; omega)
  rw [List.nil_append] at this
  exact this.congr fun n => rfl
end Go.Proofs.YtjkfobmfddfjhaaDoorX

/- What stands between elements, in characters: its bytes, and when it is as it was. -/
set_option linter.unusedVariables false
set_option linter.unusedSimpArgs false
namespace Go.Proofs.YtjkfobmfddfjhaaDoorX
open Go
def escC (c : Int) : List Int :=
  if c = 60 then [38, 108, 116, 59] else if c = 62 then [38, 103, 116, 59] else if c = 38 then [38, 97, 109, 112, 59] else if c = 34 then [38, 113, 117, 111, 116, 59]
  else if c = 13 then [38, 35, 49, 51, 59] else if c = 9 ∨ c = 10 then [c] else if c = 65534 ∨ c = 65535 then [65533] else if c < 32 then [65533] else [c]
def esc1 (c : Int) : List Int := flatU (escC c)
def escU (cs : List Int) : List Int := cs.flatMap esc1
theorem flatU_one (c : Int) : flatU [c] = putU c := by simp [flatU]
theorem flatU_append (l r : List Int) : flatU (l ++ r) = flatU l ++ flatU r := by simp [flatU]
theorem escU_flat : ∀ cs : List Int, escU cs = flatU (cs.flatMap escC)
  | [] => rfl
  | c :: cs => by rw [List.flatMap_cons, flatU_append, ← escU_flat cs]; rfl
theorem escC_right {c : Int} (h : rightU c) : ∀ x ∈ escC c, rightU x := by
  intro x hx
  unfold escC at hx
  repeat' split at hx
  all_goals simp only [List.mem_cons, List.not_mem_nil, or_false] at hx
  all_goals (first | (subst hx; first | exact h | decide) | (rcases hx with h | h | h | h | h | h <;> (subst h; decide)) | (rcases hx with h | h | h | h | h <;> (subst h; decide)) | (rcases hx with h | h | h | h <;> (subst h; decide)))
theorem escU_well {cs : List Int} (h : ∀ c ∈ cs, rightU c) : wellU (escU cs) := by
  rw [escU_flat]
  refine (chars_flat _ fun x hx => ?_).2
  obtain ⟨c, hc, hx⟩ := List.mem_flatMap.1 hx
  exact escC_right (h c hc) x hx
def badS (x : Int) : Prop := x = 60 ∨ x = 62 ∨ x = 34 ∨ (x < 32 ∧ x ≠ 9 ∧ x ≠ 10)
theorem putU_hi {c : Int} (h : rightU c) (h1 : 128 ≤ c) : ∀ x ∈ putU c, 128 ≤ x := by
  intro x hx
  obtain ⟨h0, h2, h3⟩ := id h
  rcases (show (128 ≤ c ∧ c < 2048) ∨ (2048 ≤ c ∧ c < 65536) ∨ 65536 ≤ c by omega) with ⟨a, b⟩ | ⟨a, b⟩ | a
  · rw [putU_2 h a b] at hx; simp only [List.mem_cons, List.not_mem_nil, or_false] at hx; rcases hx with e | e <;> omega
  · rw [putU_3 h a b] at hx; simp only [List.mem_cons, List.not_mem_nil, or_false] at hx; rcases hx with e | e | e <;> omega
  · rw [putU_4 h a] at hx; simp only [List.mem_cons, List.not_mem_nil, or_false] at hx; rcases hx with e | e | e | e <;> omega
theorem escC_ok {c : Int} (h : rightU c) : ∀ x ∈ escC c, ¬ badS x := by
  intro x hx
  unfold escC at hx
  obtain ⟨g0, g1, g2⟩ := h
  repeat' split at hx
  all_goals simp only [List.mem_cons, List.not_mem_nil, or_false] at hx
  all_goals unfold badS
  all_goals omega
theorem escU_ok {cs : List Int} (h : ∀ c ∈ cs, rightU c) : ∀ x ∈ escU cs, ¬ badS x := by
  intro x hx
  rw [escU_flat] at hx
  obtain ⟨y, hy, hx⟩ := List.mem_flatMap.1 hx
  obtain ⟨c, hc, hy⟩ := List.mem_flatMap.1 hy
  have hr := escC_right (h c hc) y hy
  by_cases h8 : y < 128
  · rw [putU_1 hr h8] at hx
    simp only [List.mem_cons, List.not_mem_nil, or_false] at hx
    subst hx
    exact escC_ok (h c hc) x hy
  · have := putU_hi hr (by omega) x hx
    unfold badS; omega
theorem esc1_len (c : Int) : (esc1 c).length ≤ 24 := by
  have : (escC c).length ≤ 6 := by unfold escC; repeat' split
                                   all_goals simp
  have := flatU_len (escC c)
  unfold esc1; omega
theorem escU_len : ∀ cs : List Int, (escU cs).length ≤ 24 * cs.length
  | [] => by simp [escU]
  | c :: cs => by
    show (esc1 c ++ escU cs).length ≤ _
    have := esc1_len c
    have := escU_len cs
    simp; omega
theorem escU_bytes (cs : List Int) : Bytes (escU cs) := by rw [escU_flat]; exact flatU_bytes _
end Go.Proofs.YtjkfobmfddfjhaaDoorX

/- strings.Builder, plain. -/
set_option linter.unusedVariables false
set_option linter.unusedSimpArgs false
namespace Go.Proofs.YtjkfobmfddfjhaaDoorX
open Go
theorem bld_String (n : Nat) (b : Bool) (l : List Int) (h : Bytes l) (hl : l.length ≤ 549755813888) : F39 n (b, l) = some (l.map toB, (b, l)) := by
  unfold F39
  exact if_pos ⟨hl, all_bytes h⟩
theorem bld_Write (n : Nat) (b : Bool) (l : List Int) (s : List UInt8) (hl : l.length + s.length ≤ 549755813888) : F37 n (b, l) s = some ((s.length : Int), (), true, l ++ ints s) := by
  unfold F37
  rw [show F77 n (b, l) = some (true, l) from rfl, bind_some', grd_t _ hl]
  rfl
end Go.Proofs.YtjkfobmfddfjhaaDoorX

/- What xmlout.Escape answers. -/
set_option linter.unusedVariables false
set_option linter.unusedSimpArgs false
namespace Go.Proofs.YtjkfobmfddfjhaaDoorX
open Go
theorem sign_eq (n : Nat) (c : Int) : F150 n c ((putU c).map toB) = some ((esc1 c).map toB) := by
  unfold F150
  by_cases h1 : c = 60
  · subst h1; rfl
  by_cases h2 : c = 62
  · subst h2; rfl
  by_cases h3 : c = 38
  · subst h3; rfl
  by_cases h4 : c = 34
  · subst h4; rfl
  by_cases h5 : c = 13
  · subst h5; rfl
  rw [bq h1, iteB_f, bq h2, iteB_f, bq h3, iteB_f, bq h4, iteB_f, bq h5, iteB_f]
  by_cases h6 : c = 9
  · subst h6; rfl
  by_cases h7 : c = 10
  · subst h7; rfl
  rw [bq h6, bq h7, iteB_f]
  unfold F150_J1
  rw [iteB_f]
  by_cases h8 : c = 65534
  · subst h8; rfl
  by_cases h9 : c = 65535
  · subst h9; rfl
  rw [bq h8, bq h9, iteB_f, iteB_f]
  have e : esc1 c = if c < 32 then [239, 191, 189] else putU c := by
    unfold esc1 escC
    rw [if_neg h1, if_neg h2, if_neg h3, if_neg h4, if_neg h5, if_neg (by omega), if_neg (by omega)]
    split
    · rfl
    · exact flatU_one c
  rw [e]
  by_cases ha : c < 32
  · rw [decide_eq_true ha, iteB_t, if_pos ha]; rfl
  · rw [decide_eq_false ha, iteB_f, if_neg ha]
theorem esc1_bytes (c : Int) : Bytes (esc1 c) := flatU_bytes _
theorem escape_loop : ∀ (cs : List Int) (s : List UInt8) (b : Bool) (l : List Int), (∀ c ∈ cs, rightU c) → ints s = flatU cs → Bytes l → l.length + 24 * cs.length ≤ 549755813000 → s.length ≤ 4000000000 →
    Ev (fun n => F129_L1 n s b l) ((l ++ escU cs).map toB)
  | [], s, b, l, hr, hs, hb, hl, hsl => by
    obtain rfl : s = [] := of_ints hs
    rw [show escU [] = [] from rfl, List.append_nil]
    exact Ev.step (Ev.pure.congr fun n => by
      rw [F129_L1, show (!(([] : List UInt8) == [])) = false from rfl, iteB_f, bld_String n b l hb (by simp at hl; omega), bind_some'])
  | c :: cs, s, b, l, hr, hs, hb, hl, hsl => by
    have hc := hr c (by simp)
    have hs' : ints s = putU c ++ flatU cs := hs
    obtain ⟨N1, e1⟩ := ev_Next s
    rw [hs', next_put hc] at e1
    have hlen := ints_len s
    rw [hs', List.length_append] at hlen
    obtain ⟨x, r, hp⟩ := putU_ne hc
    have hp1 : 1 ≤ (putU c).length := by rw [hp]; simp
    have hne : (s == []) = false := by
      rw [beq_eq_false_iff_ne]; rintro rfl
      rw [List.length_nil] at hlen; omega
    have htake : s.take (putU c).length = (putU c).map toB := of_ints (by rw [ints_take, hs', List.take_left])
    have hdrop : ints (s.drop (putU c).length) = flatU cs := by rw [ints_drop, hs', List.drop_left]
    have h24 := esc1_len c
    have hl' : l.length + 24 * (cs.length + 1) ≤ 549755813000 := hl
    obtain ⟨N2, e2⟩ := escape_loop cs (s.drop (putU c).length) true (l ++ esc1 c) (fun y hy => hr y (by simp [hy])) hdrop (hb.append (esc1_bytes c)) (by simp; omega) (by rw [List.length_drop]; omega)
    refine Ev.step ⟨N1 + N2, fun n hn => ?_⟩
    have q1 := e1 n (by omega)
    have q2 := e2 n (by omega)
    dsimp only at q1 q2
    show F129_L1 (n + 1) s b l = _
    rw [F129_L1, hne, Bool.not_false, iteB_t, q1, bind_some', grd_t _ (by dsimp only; omega)]
    dsimp only
    rw [toNat_nat, htake, sign_eq, bind_some', bld_Write n b l _ (by rw [List.length_map]; omega), bind_some', grd_t _ (by omega)]
    dsimp only
    rw [ints_toB (esc1_bytes c), q2, List.append_assoc]
    rfl
def chs (s : List UInt8) : List Int := charsU (ints s)
theorem chs_right (s : List UInt8) : ∀ c ∈ chs s, rightU c := chars_right _ _ (Nat.le_refl _) (ints_bytes s)
theorem chs_len (s : List UInt8) : (chs s).length ≤ s.length := by
  have := chars_len (ints s).length (ints s) (Nat.le_refl _)
  rwa [ints_len] at this
theorem ev_Escape (s : List UInt8) (hs : s.length ≤ 1000000000) : Ev (fun n => F129 n s) ((escU (chs s)).map toB) := by
  have hl := chs_len s
  have hfl := flatU_len (chs s)
  have := escape_loop (chs s) ((flatU (chs s)).map toB) false [] (chs_right s) (ints_toB (flatU_bytes _)) Bytes.nil (by simp; omega) (by rw [List.length_map]; omega)
  rw [List.nil_append] at this
  exact (Ev.bind (g := fun n v => F129_L1 n v false []) (ev_Clean s hs) this).congr fun n => rfl
end Go.Proofs.YtjkfobmfddfjhaaDoorX

/- Texts cut at a byte. -/
set_option linter.unusedVariables false
set_option linter.unusedSimpArgs false
namespace Go.Proofs.YtjkfobmfddfjhaaDoorX
open Go
def splitB (c : UInt8) : List UInt8 → List (List UInt8)
  | [] => [[]]
  | x :: l => if x = c then [] :: splitB c l else match splitB c l with
    | [] => [[x]]
    | y :: ys => (x :: y) :: ys
theorem split_ne (c : UInt8) : ∀ l, splitB c l ≠ []
  | [] => by simp [splitB]
  | x :: l => by
    rw [splitB]
    split
    · simp
    · split <;> simp
theorem idx_cases (c : UInt8) : ∀ s : List UInt8, (Lib.indexByte s c = -1 ∧ c ∉ s ∧ s.count c = 0 ∧ splitB c s = [s]) ∨
    ∃ m : Nat, m < s.length ∧ Lib.indexByte s c = (m : Int) ∧ c ∉ s.take m ∧ s = s.take m ++ c :: s.drop (m + 1) ∧ s.count c = 1 + (s.drop (m + 1)).count c ∧ splitB c s = s.take m :: splitB c (s.drop (m + 1))
  | [] => .inl ⟨rfl, by simp, rfl, rfl⟩
  | x :: l => by
    by_cases h : x = c
    · subst h
      refine .inr ⟨0, by simp, ?_, by simp, by simp, by simp; omega, by simp [splitB]⟩
      rw [Lib.indexByte, beq_self_eq_true, if_pos rfl]; rfl
    · have hb : (x == c) = false := by rw [beq_eq_false_iff_ne]; exact h
      rcases idx_cases c l with ⟨h1, h2, h3, h4⟩ | ⟨m, h1, h2, h3, h4, h5, h6⟩
      · refine .inl ⟨?_, ?_, ?_, ?_⟩
        · rw [Lib.indexByte, hb, h1]; rfl
        · simp only [List.mem_cons, not_or]; exact ⟨fun e => h e.symm, h2⟩
        · rw [List.count_cons_of_ne h, h3]
        · rw [splitB, if_neg h, h4]
      · refine .inr ⟨m + 1, by simp; omega, ?_, ?_, ?_, ?_, ?_⟩
        · rw [Lib.indexByte, hb, h2]
          simp only [Bool.false_eq_true, if_false]
          rw [if_neg (by rw [beq_iff_eq]; omega)]; omega
        · rw [List.take_succ_cons]; simp only [List.mem_cons, not_or]; exact ⟨fun e => h e.symm, h3⟩
        · rw [List.take_succ_cons, List.drop_succ_cons, List.cons_append, ← h4]
        · rw [List.count_cons_of_ne h, List.drop_succ_cons, h5]
        · rw [splitB, if_neg h, h6, List.take_succ_cons, List.drop_succ_cons]
theorem Index_eq (n : Nat) (s : List UInt8) (c : UInt8) : F157 n s [c] = some (Lib.indexByte s c) := by
  rw [F157]
  show iteB false _ _ = _
  rw [iteB_f]
  by_cases h : ([c] : List UInt8) = s
  · rw [show (([c] : List UInt8) == s) = true by rw [beq_iff_eq]; exact h, iteB_t, ← h, Lib.indexByte, beq_self_eq_true]; rfl
  · rw [show (([c] : List UInt8) == s) = false by rw [beq_eq_false_iff_ne]; exact h, iteB_f]
    show iteB true _ _ = _
    rw [iteB_t, grd_t _ (by simp), F138, bind_some']
    show some (Lib.indexByte s (((c.toNat : Nat) : Int).toNat.toUInt8)) = _
    rw [toNat_nat, show c.toNat.toUInt8 = c by simp]
def cutB (c : UInt8) (s : List UInt8) : List UInt8 × List UInt8 × Bool := if c ∈ s then (s.take (Lib.indexByte s c).toNat, s.drop ((Lib.indexByte s c).toNat + 1), true) else (s, [], false)
theorem Cut_eq (n : Nat) (s : List UInt8) (c : UInt8) (hs : s.length ≤ 1000000) : F148 n s [c] = some (cutB c s) := by
  unfold cutB
  rw [F148, F156, Index_eq, bind_some', show (([c] : List UInt8).length : Int) = 1 from rfl]
  rcases idx_cases c s with ⟨h1, h2, h3, h4⟩ | ⟨m, h1, h2, h3, h4, h5, h6⟩
  · rw [if_neg h2, h1]; rfl
  · have hm : c ∈ s := by rw [h4]; simp
    rw [if_pos hm, h2, decide_eq_true (by omega), iteB_t, w64 (by omega), grd_t _ (by omega), grd_t _ (by omega), bind_some', show ((m : Int) + 1).toNat = m + 1 by omega, toNat_nat]
theorem idx_app (c : UInt8) (b : List UInt8) : ∀ a : List UInt8, c ∉ a → Lib.indexByte (a ++ c :: b) c = (a.length : Int)
  | [], _ => by rw [List.nil_append, Lib.indexByte, beq_self_eq_true, if_pos rfl]; rfl
  | x :: a, h => by
    simp only [List.mem_cons, not_or] at h
    rw [List.cons_append, Lib.indexByte, show (x == c) = false by (rw [beq_eq_false_iff_ne]; exact fun e => h.1 e.symm), idx_app c b a h.2]
    simp only [Bool.false_eq_true, if_false]
    rw [if_neg (by rw [beq_iff_eq]; omega), List.length_cons]; omega
theorem cut_app (c : UInt8) (a b : List UInt8) (h : c ∉ a) : cutB c (a ++ c :: b) = (a, b, true) := by
  unfold cutB
  rw [if_pos (by simp), idx_app c b a h, toNat_nat, List.take_left']
  · rw [show a.length + 1 = (a ++ [c]).length by simp, show a ++ c :: b = (a ++ [c]) ++ b by simp, List.drop_left']; rfl
  · rfl
theorem cut_none (c : UInt8) (a : List UInt8) (h : c ∉ a) : cutB c a = (a, [], false) := by unfold cutB; rw [if_neg h]
end Go.Proofs.YtjkfobmfddfjhaaDoorX

/- hex.ReadDecimal. -/
set_option linter.unusedVariables false
set_option linter.unusedSimpArgs false
namespace Go.Proofs.YtjkfobmfddfjhaaDoorX
open Go
def decP : List UInt8 → Int → Int × Bool
  | [], n => (n, true)
  | c :: l, n => if kindOf (c.toNat : Int) = 1 then decP l (n * 10 + ((c.toNat : Int) - 48)) else (0, false)
theorem kind_one {c : Int} (h : kindOf c = 1) : 48 ≤ c ∧ c ≤ 57 := by
  unfold kindOf at h
  split at h
  · assumption
  · split at h
    · omega
    · split at h
      · omega
      · split at h <;> omega
theorem pow10 (i : Nat) (h : i ≤ 17) : 1 ≤ (10 : Int) ^ i ∧ (10 : Int) ^ i ≤ 100000000000000000 ∧ (10 : Int) ^ (i + 1) = 10 ^ i * 10 := by
  have h1 : (10 : Nat) ^ i ≤ 10 ^ 17 := Nat.pow_le_pow_right (by omega) h
  have h2 : 1 ≤ (10 : Nat) ^ i := Nat.pos_of_ne_zero (by simp)
  have h3 : ((10 : Nat) ^ i : Nat) = ((10 : Int) ^ i) := by simp
  refine ⟨by omega, by omega, Int.pow_succ _ _⟩
theorem ev_dec_l (l : List UInt8) (hl : l.length ≤ 18) : ∀ (d i : Nat) (x : Int), i + d = l.length → 0 ≤ x ∧ x < (10 : Int) ^ i → Ev (fun k => F97_L1 k l x (i : Int)) (decP (l.drop i) x) := by
  intro d
  induction d with
  | zero =>
    intro i x hi hx
    rw [List.drop_of_length_le (by omega)]
    refine Ev.step (Ev.pure.congr fun k => ?_)
    rw [F97_L1, decide_eq_false (by omega), iteB_f]; rfl
  | succ d ih =>
    intro i x hi hx
    rw [drop_cons l i 0 (by omega), decP]
    obtain ⟨p1, p2, p3⟩ := pow10 i (by omega)
    have hb := u8_lt (l.getD i 0)
    have w1 : IntKind.wrap .i64 ((i : Int) + 1) = ((i + 1 : Nat) : Int) := by rw [w64 (by omega)]; omega
    generalize hc : l.getD i 0 = c at *
    by_cases hk : kindOf (c.toNat : Int) = 1
    · rw [if_pos hk]
      have hk' := kind_one hk
      have e := ih (i + 1) (x * 10 + ((c.toNat : Int) - 48)) (by omega) (by rw [p3]; omega)
      refine Ev.step (e.congr fun k => ?_)
      rw [F97_L1, decide_eq_true (by omega), iteB_t, grd_t _ (by omega), toNat_nat, hc, F127, bind_some', hk]
      show iteB false _ _ = _
      rw [iteB_f, grd_t _ (by omega), wu8 (by omega), w64 (n := (c.toNat : Int) - 48) (by omega), w64 (n := x * 10) (by omega), w64 (n := x * 10 + _) (by omega), w1]
    · rw [if_neg hk]
      refine Ev.step (Ev.pure.congr fun k => ?_)
      rw [F97_L1, decide_eq_true (by omega), iteB_t, grd_t _ (by omega), toNat_nat, hc, F127, bind_some', show (kindOf (c.toNat : Int) != 1) = true by rw [bne_iff_ne]; exact hk, iteB_t]
def readD (l : List UInt8) : Int × Bool := if l = [] ∨ 18 < l.length then (0, false) else decP l 0
theorem ev_ReadDecimal (l : List UInt8) : Ev (fun k => F97 k l) (readD l) := by
  unfold readD
  cases l with
  | nil => rw [if_pos (Or.inl rfl)]; exact Ev.pure.congr fun k => rfl
  | cons a l =>
    by_cases h : 18 < (a :: l).length
    · rw [if_pos (Or.inr h)]
      refine Ev.pure.congr fun k => ?_
      rw [F97, show ((a :: l) == []) = false by rfl, iteB_f, decide_eq_true (by omega), iteB_t]
    · rw [if_neg (by simp only [reduceCtorEq, false_or]; exact h)]
      have e := ev_dec_l (a :: l) (by omega) (a :: l).length 0 0 (by omega) (by decide)
      refine e.congr fun k => ?_
      rw [F97, show ((a :: l) == []) = false by rfl, iteB_f, decide_eq_false (by omega), iteB_f]; rfl
theorem decP_bd : ∀ (l : List UInt8) (x : Int) (m : Nat), 0 ≤ x → x < (10 : Int) ^ m → m + l.length ≤ 18 → 0 ≤ (decP l x).1 ∧ (decP l x).1 ≤ 1000000000000000000
  | [], x, m, h0, h, hl => by
    have h1 : (10 : Nat) ^ m ≤ 10 ^ 18 := Nat.pow_le_pow_right (by omega) (by simpa using hl)
    have h3 : ((10 : Nat) ^ m : Nat) = ((10 : Int) ^ m) := by simp
    rw [decP]; dsimp only; omega
  | c :: l, x, m, h0, h, hl => by
    rw [decP]
    rw [List.length_cons] at hl
    obtain ⟨p1, p2, p3⟩ := pow10 m (by omega)
    by_cases hk : kindOf (c.toNat : Int) = 1
    · have hk' := kind_one hk
      rw [if_pos hk]
      exact decP_bd l _ (m + 1) (by omega) (by rw [p3]; omega) (by omega)
    · rw [if_neg hk]; dsimp only; omega
theorem readD_bd (l : List UInt8) : 0 ≤ (readD l).1 ∧ (readD l).1 ≤ 1000000000000000000 := by
  unfold readD
  split
  · dsimp only; omega
  · exact decP_bd l 0 0 (by omega) (by decide) (by omega)
end Go.Proofs.YtjkfobmfddfjhaaDoorX
