/- Part of the proof of ClockTells: walks and plain words, merged. -/
import Derived.Test.YtdfghdppbfabfaaBClockTellsb
import Derived.Test.YtdfghdppbfabfaaBClockTellsc
import Derived.Test.YtdfghdppbfabfaaBClockTellsd
import Derived.Test.YtdfghdppbfabfaaRows
import Derived.Test.YtdfghdppbfabfaaChecked
import Derived.WalkKit
import Derived.ProofKit
import Derived.OpenShut
set_option linter.unusedVariables false
set_option linter.unusedSimpArgs false

set_option linter.unusedVariables false
set_option linter.unusedSimpArgs false
namespace Go.Proofs.YtdfghdppbfabfaaX
open Go Go.RowKit Go.Proofs
set_option maxRecDepth 100000
/-! ### shadowboxlaw15.ClockTells -/
def F5 (n : Nat) (a0 : Int) (a1 : (Int) × (Int) × (Int) × (Int) × (Int) × (Int)) : Option (Bool) := (F13 n a0).bind fun v1 => (F17 n a0).bind fun v2 => (F18 n (a1.1, a1.2.1, a1.2.2.1, a1.2.2.2.1, a1.2.2.2.2.1, a1.2.2.2.2.2)).bind fun v3 => (F19 n (a1.1, a1.2.1, a1.2.2.1, a1.2.2.2.1, a1.2.2.2.2.1, a1.2.2.2.2.2)).bind fun v4 => iteB ((v1.1.1 == v2.1.1) && ((v1.1.2.1 == v2.1.2.1) && ((v1.1.2.2.1 == v2.1.2.2.1) && ((v1.1.2.2.2.1 == v2.1.2.2.2.1) && ((v1.1.2.2.2.2.1 == v2.1.2.2.2.2.1) && (v1.1.2.2.2.2.2 == v2.1.2.2.2.2.2)))))) (iteB (v1.2 == v2.2) (iteB (v3.1 == v4.1) (iteB (v3.2 == v4.2) ((F14 n (a1.1, a1.2.1, a1.2.2.1, a1.2.2.2.1, a1.2.2.2.2.1, a1.2.2.2.2.2)).bind fun v9 => (F20 n (a1.1, a1.2.1, a1.2.2.1, a1.2.2.2.1, a1.2.2.2.2.1, a1.2.2.2.2.2)).bind fun v10 => iteB (v9 == v10) ((F16 n (a1.1, a1.2.1, a1.2.2.1, a1.2.2.2.1, a1.2.2.2.2.1, a1.2.2.2.2.2)).bind fun v12 => (F21 n (a1.1, a1.2.1, a1.2.2.1, a1.2.2.2.1, a1.2.2.2.2.1, a1.2.2.2.2.2)).bind fun v13 => iteB (v12 == v13) ((F15 n (a1.1, a1.2.1, a1.2.2.1, a1.2.2.2.1, a1.2.2.2.2.1, a1.2.2.2.2.2)).bind fun v15 => (F22 n (a1.1, a1.2.1, a1.2.2.1, a1.2.2.2.1, a1.2.2.2.2.1, a1.2.2.2.2.2)).bind fun v16 => iteB (v15 == v16) ((F23 n (a1.1, a1.2.1, a1.2.2.1, a1.2.2.2.1, a1.2.2.2.2.1, a1.2.2.2.2.2)).bind fun v18 => (F24 n (a1.1, a1.2.1, a1.2.2.1, a1.2.2.2.1, a1.2.2.2.2.1, a1.2.2.2.2.2)).bind fun v19 => iteB (v18 == v19) ((F25 n a1.1).bind fun v21 => (F26 n a1.1).bind fun v22 => iteB (v21 == v22) ((F27 n a1.1 a1.2.1).bind fun v24 => (F28 n a1.1 a1.2.1).bind fun v25 => iteB (v24 == v25) ((F27 n (2000 : Int) (2 : Int)).bind fun v27 => some (v27 == (29 : Int))) (some false)) (some false)) (some false)) (some false)) (some false)) (some false)) (some false)) (some false)) (some false)) (some false)
set_option maxHeartbeats 4000000 in
theorem F5_ok : ∀ (n : Nat) (a0 : Int) (a1 : (Int) × (Int) × (Int) × (Int) × (Int) × (Int)) (r : Bool), F5 n a0 a1 = some r → FnC Try.prog 5 [.imm (.int .i64 a0), .agg [.imm (.int .i64 a1.1), .imm (.int .i64 a1.2.1), .imm (.int .i64 a1.2.2.1), .imm (.int .i64 a1.2.2.2.1), .imm (.int .i64 a1.2.2.2.2.1), .imm (.int .i64 a1.2.2.2.2.2)]] (.imm (.bool r))
  | n, a0, a1, r, h => by
    unfold F5 at h
    refine FnC.goX mixed Try.func5 (by kernel_rfl) rfl ?_
    simp only [Try.ntmps5, List.length_cons, List.length_nil, List.replicate, List.cons_append, List.nil_append, Nat.reduceAdd, Nat.reduceSub]
    refine runX_seq ?_
    refine runX_regionC fun C hC => ?_
    try simp -implicitDefEqProofs (maxSteps := 4000000) (disch := first | omega | decide | (simp only [go_sem]; omega)) only [go_sem, ↓reduceIte, String.reduceEq, String.reduceNe, reduceCtorEq, Int.reduceEq, Nat.reduceAdd, Nat.reduceSub, Nat.reduceMul, Nat.reduceLT, Nat.reduceLeDiff, Nat.reduceEqDiff, Nat.reduceBEq, Int.reduceToNat, Int.reduceLT, Int.reduceLE, Int.reduceGT, Int.reduceGE, Int.reduceAdd, Int.reduceSub, Int.reduceMul, Int.reduceNeg, Int.reduceBEq, Int.reduceBNe, Int.reducePow, Int.reduceDiv, Int.reduceMod, Int.reduceTDiv, Int.reduceTMod, Int.reduceNatCast]
    repeat (with_reducible refine And.intro (by first | assumption | omega | (simp; done) | (simp; omega)) ?_)
    refine toEnd hC ?_
    refine endX_seq ?_
    refine runX_seq ?_
    refine runX_regionC fun C hC => ?_
    obtain ⟨v1, h1, h⟩ := bnd_some h
    try simp -implicitDefEqProofs (maxSteps := 4000000) (disch := first | omega | decide | (simp only [go_sem]; omega)) only [go_sem, ↓reduceIte, String.reduceEq, String.reduceNe, reduceCtorEq, Int.reduceEq, Nat.reduceAdd, Nat.reduceSub, Nat.reduceMul, Nat.reduceLT, Nat.reduceLeDiff, Nat.reduceEqDiff, Nat.reduceBEq, Int.reduceToNat, Int.reduceLT, Int.reduceLE, Int.reduceGT, Int.reduceGE, Int.reduceAdd, Int.reduceSub, Int.reduceMul, Int.reduceNeg, Int.reduceBEq, Int.reduceBNe, Int.reducePow, Int.reduceDiv, Int.reduceMod, Int.reduceTDiv, Int.reduceTMod, Int.reduceNatCast]
    repeat (with_reducible refine And.intro (by first | assumption | omega | (simp; done) | (simp; omega)) ?_)
    refine callG_X (F13_ok n a0 _ h1) (by repeat (first | exact leL_refl _ | refine leL_cons (by first | exact leT_refl _ | exact leT_virt | exact leT_junk _ | exact leT_sl | exact leT_sln | exact leT_nil) ?_)) ?_
    try simp -implicitDefEqProofs (maxSteps := 4000000) (disch := first | omega | decide | (simp only [go_sem]; omega)) only [go_sem, ↓reduceIte, String.reduceEq, String.reduceNe, reduceCtorEq, Int.reduceEq, Nat.reduceAdd, Nat.reduceSub, Nat.reduceMul, Nat.reduceLT, Nat.reduceLeDiff, Nat.reduceEqDiff, Nat.reduceBEq, Int.reduceToNat, Int.reduceLT, Int.reduceLE, Int.reduceGT, Int.reduceGE, Int.reduceAdd, Int.reduceSub, Int.reduceMul, Int.reduceNeg, Int.reduceBEq, Int.reduceBNe, Int.reducePow, Int.reduceDiv, Int.reduceMod, Int.reduceTDiv, Int.reduceTMod, Int.reduceNatCast]
    repeat (with_reducible refine And.intro (by first | assumption | omega | (simp; done) | (simp; omega)) ?_)
    refine toEnd hC ?_
    refine endX_seq ?_
    refine runX_seq ?_
    refine runX_regionC fun C hC => ?_
    obtain ⟨v2, h2, h⟩ := bnd_some h
    try simp -implicitDefEqProofs (maxSteps := 4000000) (disch := first | omega | decide | (simp only [go_sem]; omega)) only [go_sem, ↓reduceIte, String.reduceEq, String.reduceNe, reduceCtorEq, Int.reduceEq, Nat.reduceAdd, Nat.reduceSub, Nat.reduceMul, Nat.reduceLT, Nat.reduceLeDiff, Nat.reduceEqDiff, Nat.reduceBEq, Int.reduceToNat, Int.reduceLT, Int.reduceLE, Int.reduceGT, Int.reduceGE, Int.reduceAdd, Int.reduceSub, Int.reduceMul, Int.reduceNeg, Int.reduceBEq, Int.reduceBNe, Int.reducePow, Int.reduceDiv, Int.reduceMod, Int.reduceTDiv, Int.reduceTMod, Int.reduceNatCast]
    repeat (with_reducible refine And.intro (by first | assumption | omega | (simp; done) | (simp; omega)) ?_)
    refine callG_X (F17_ok n a0 _ h2) (by repeat (first | exact leL_refl _ | refine leL_cons (by first | exact leT_refl _ | exact leT_virt | exact leT_junk _ | exact leT_sl | exact leT_sln | exact leT_nil) ?_)) ?_
    try simp -implicitDefEqProofs (maxSteps := 4000000) (disch := first | omega | decide | (simp only [go_sem]; omega)) only [go_sem, ↓reduceIte, String.reduceEq, String.reduceNe, reduceCtorEq, Int.reduceEq, Nat.reduceAdd, Nat.reduceSub, Nat.reduceMul, Nat.reduceLT, Nat.reduceLeDiff, Nat.reduceEqDiff, Nat.reduceBEq, Int.reduceToNat, Int.reduceLT, Int.reduceLE, Int.reduceGT, Int.reduceGE, Int.reduceAdd, Int.reduceSub, Int.reduceMul, Int.reduceNeg, Int.reduceBEq, Int.reduceBNe, Int.reducePow, Int.reduceDiv, Int.reduceMod, Int.reduceTDiv, Int.reduceTMod, Int.reduceNatCast]
    repeat (with_reducible refine And.intro (by first | assumption | omega | (simp; done) | (simp; omega)) ?_)
    refine toEnd hC ?_
    refine endX_seq ?_
    refine runX_seq ?_
    refine runX_regionC fun C hC => ?_
    obtain ⟨v3, h3, h⟩ := bnd_some h
    try simp -implicitDefEqProofs (maxSteps := 4000000) (disch := first | omega | decide | (simp only [go_sem]; omega)) only [go_sem, ↓reduceIte, String.reduceEq, String.reduceNe, reduceCtorEq, Int.reduceEq, Nat.reduceAdd, Nat.reduceSub, Nat.reduceMul, Nat.reduceLT, Nat.reduceLeDiff, Nat.reduceEqDiff, Nat.reduceBEq, Int.reduceToNat, Int.reduceLT, Int.reduceLE, Int.reduceGT, Int.reduceGE, Int.reduceAdd, Int.reduceSub, Int.reduceMul, Int.reduceNeg, Int.reduceBEq, Int.reduceBNe, Int.reducePow, Int.reduceDiv, Int.reduceMod, Int.reduceTDiv, Int.reduceTMod, Int.reduceNatCast]
    repeat (with_reducible refine And.intro (by first | assumption | omega | (simp; done) | (simp; omega)) ?_)
    refine callG_X (F18_ok n (a1.1, a1.2.1, a1.2.2.1, a1.2.2.2.1, a1.2.2.2.2.1, a1.2.2.2.2.2) _ h3) (by repeat (first | exact leL_refl _ | refine leL_cons (by first | exact leT_refl _ | exact leT_virt | exact leT_junk _ | exact leT_sl | exact leT_sln | exact leT_nil) ?_)) ?_
    try simp -implicitDefEqProofs (maxSteps := 4000000) (disch := first | omega | decide | (simp only [go_sem]; omega)) only [go_sem, ↓reduceIte, String.reduceEq, String.reduceNe, reduceCtorEq, Int.reduceEq, Nat.reduceAdd, Nat.reduceSub, Nat.reduceMul, Nat.reduceLT, Nat.reduceLeDiff, Nat.reduceEqDiff, Nat.reduceBEq, Int.reduceToNat, Int.reduceLT, Int.reduceLE, Int.reduceGT, Int.reduceGE, Int.reduceAdd, Int.reduceSub, Int.reduceMul, Int.reduceNeg, Int.reduceBEq, Int.reduceBNe, Int.reducePow, Int.reduceDiv, Int.reduceMod, Int.reduceTDiv, Int.reduceTMod, Int.reduceNatCast]
    repeat (with_reducible refine And.intro (by first | assumption | omega | (simp; done) | (simp; omega)) ?_)
    refine toEnd hC ?_
    refine endX_seq ?_
    refine runX_seq ?_
    refine runX_regionC fun C hC => ?_
    try simp -implicitDefEqProofs (maxSteps := 4000000) (disch := first | omega | decide | (simp only [go_sem]; omega)) only [go_sem, ↓reduceIte, String.reduceEq, String.reduceNe, reduceCtorEq, Int.reduceEq, Nat.reduceAdd, Nat.reduceSub, Nat.reduceMul, Nat.reduceLT, Nat.reduceLeDiff, Nat.reduceEqDiff, Nat.reduceBEq, Int.reduceToNat, Int.reduceLT, Int.reduceLE, Int.reduceGT, Int.reduceGE, Int.reduceAdd, Int.reduceSub, Int.reduceMul, Int.reduceNeg, Int.reduceBEq, Int.reduceBNe, Int.reducePow, Int.reduceDiv, Int.reduceMod, Int.reduceTDiv, Int.reduceTMod, Int.reduceNatCast]
    repeat (with_reducible refine And.intro (by first | assumption | omega | (simp; done) | (simp; omega)) ?_)
    refine toEnd hC ?_
    refine endX_seq ?_
    refine runX_seq ?_
    refine runX_regionC fun C hC => ?_
    obtain ⟨v4, h4, h⟩ := bnd_some h
    try simp -implicitDefEqProofs (maxSteps := 4000000) (disch := first | omega | decide | (simp only [go_sem]; omega)) only [go_sem, ↓reduceIte, String.reduceEq, String.reduceNe, reduceCtorEq, Int.reduceEq, Nat.reduceAdd, Nat.reduceSub, Nat.reduceMul, Nat.reduceLT, Nat.reduceLeDiff, Nat.reduceEqDiff, Nat.reduceBEq, Int.reduceToNat, Int.reduceLT, Int.reduceLE, Int.reduceGT, Int.reduceGE, Int.reduceAdd, Int.reduceSub, Int.reduceMul, Int.reduceNeg, Int.reduceBEq, Int.reduceBNe, Int.reducePow, Int.reduceDiv, Int.reduceMod, Int.reduceTDiv, Int.reduceTMod, Int.reduceNatCast]
    repeat (with_reducible refine And.intro (by first | assumption | omega | (simp; done) | (simp; omega)) ?_)
    refine callG_X (F19_ok n (a1.1, a1.2.1, a1.2.2.1, a1.2.2.2.1, a1.2.2.2.2.1, a1.2.2.2.2.2) _ h4) (by repeat (first | exact leL_refl _ | refine leL_cons (by first | exact leT_refl _ | exact leT_virt | exact leT_junk _ | exact leT_sl | exact leT_sln | exact leT_nil) ?_)) ?_
    try simp -implicitDefEqProofs (maxSteps := 4000000) (disch := first | omega | decide | (simp only [go_sem]; omega)) only [go_sem, ↓reduceIte, String.reduceEq, String.reduceNe, reduceCtorEq, Int.reduceEq, Nat.reduceAdd, Nat.reduceSub, Nat.reduceMul, Nat.reduceLT, Nat.reduceLeDiff, Nat.reduceEqDiff, Nat.reduceBEq, Int.reduceToNat, Int.reduceLT, Int.reduceLE, Int.reduceGT, Int.reduceGE, Int.reduceAdd, Int.reduceSub, Int.reduceMul, Int.reduceNeg, Int.reduceBEq, Int.reduceBNe, Int.reducePow, Int.reduceDiv, Int.reduceMod, Int.reduceTDiv, Int.reduceTMod, Int.reduceNatCast]
    repeat (with_reducible refine And.intro (by first | assumption | omega | (simp; done) | (simp; omega)) ?_)
    refine toEnd hC ?_
    refine endX_seq ?_
    refine runX_seq ?_
    refine runX_drawC mixed (by kernel_rfl) fun C hC => ?_
    try simp -implicitDefEqProofs (maxSteps := 4000000) (disch := first | omega | decide | (simp only [go_sem]; omega)) only [go_sem, ↓reduceIte, String.reduceEq, String.reduceNe, reduceCtorEq, Int.reduceEq, Nat.reduceAdd, Nat.reduceSub, Nat.reduceMul, Nat.reduceLT, Nat.reduceLeDiff, Nat.reduceEqDiff, Nat.reduceBEq, Int.reduceToNat, Int.reduceLT, Int.reduceLE, Int.reduceGT, Int.reduceGE, Int.reduceAdd, Int.reduceSub, Int.reduceMul, Int.reduceNeg, Int.reduceBEq, Int.reduceBNe, Int.reducePow, Int.reduceDiv, Int.reduceMod, Int.reduceTDiv, Int.reduceTMod, Int.reduceNatCast]
    repeat (with_reducible refine And.intro (by first | assumption | omega | (simp; done) | (simp; omega)) ?_)
    rcases iteB_some h with ⟨c5, h⟩ | ⟨c5, h⟩
    · refine guardD_T c5 ?_
      try simp -implicitDefEqProofs (maxSteps := 4000000) (disch := first | omega | decide | (simp only [go_sem]; omega)) only [go_sem, ↓reduceIte, String.reduceEq, String.reduceNe, reduceCtorEq, Int.reduceEq, Nat.reduceAdd, Nat.reduceSub, Nat.reduceMul, Nat.reduceLT, Nat.reduceLeDiff, Nat.reduceEqDiff, Nat.reduceBEq, Int.reduceToNat, Int.reduceLT, Int.reduceLE, Int.reduceGT, Int.reduceGE, Int.reduceAdd, Int.reduceSub, Int.reduceMul, Int.reduceNeg, Int.reduceBEq, Int.reduceBNe, Int.reducePow, Int.reduceDiv, Int.reduceMod, Int.reduceTDiv, Int.reduceTMod, Int.reduceNatCast]
      repeat (with_reducible refine And.intro (by first | assumption | omega | (simp; done) | (simp; omega)) ?_)
      rcases iteB_some h with ⟨c6, h⟩ | ⟨c6, h⟩
      · refine guardD_T c6 ?_
        try simp -implicitDefEqProofs (maxSteps := 4000000) (disch := first | omega | decide | (simp only [go_sem]; omega)) only [go_sem, ↓reduceIte, String.reduceEq, String.reduceNe, reduceCtorEq, Int.reduceEq, Nat.reduceAdd, Nat.reduceSub, Nat.reduceMul, Nat.reduceLT, Nat.reduceLeDiff, Nat.reduceEqDiff, Nat.reduceBEq, Int.reduceToNat, Int.reduceLT, Int.reduceLE, Int.reduceGT, Int.reduceGE, Int.reduceAdd, Int.reduceSub, Int.reduceMul, Int.reduceNeg, Int.reduceBEq, Int.reduceBNe, Int.reducePow, Int.reduceDiv, Int.reduceMod, Int.reduceTDiv, Int.reduceTMod, Int.reduceNatCast]
        repeat (with_reducible refine And.intro (by first | assumption | omega | (simp; done) | (simp; omega)) ?_)
        rcases iteB_some h with ⟨c7, h⟩ | ⟨c7, h⟩
        · refine guardD_T c7 ?_
          try simp -implicitDefEqProofs (maxSteps := 4000000) (disch := first | omega | decide | (simp only [go_sem]; omega)) only [go_sem, ↓reduceIte, String.reduceEq, String.reduceNe, reduceCtorEq, Int.reduceEq, Nat.reduceAdd, Nat.reduceSub, Nat.reduceMul, Nat.reduceLT, Nat.reduceLeDiff, Nat.reduceEqDiff, Nat.reduceBEq, Int.reduceToNat, Int.reduceLT, Int.reduceLE, Int.reduceGT, Int.reduceGE, Int.reduceAdd, Int.reduceSub, Int.reduceMul, Int.reduceNeg, Int.reduceBEq, Int.reduceBNe, Int.reducePow, Int.reduceDiv, Int.reduceMod, Int.reduceTDiv, Int.reduceTMod, Int.reduceNatCast]
          repeat (with_reducible refine And.intro (by first | assumption | omega | (simp; done) | (simp; omega)) ?_)
          rcases iteB_some h with ⟨c8, h⟩ | ⟨c8, h⟩
          · refine guardD_T c8 ?_
            obtain ⟨v9, h9, h⟩ := bnd_some h
            try simp -implicitDefEqProofs (maxSteps := 4000000) (disch := first | omega | decide | (simp only [go_sem]; omega)) only [go_sem, ↓reduceIte, String.reduceEq, String.reduceNe, reduceCtorEq, Int.reduceEq, Nat.reduceAdd, Nat.reduceSub, Nat.reduceMul, Nat.reduceLT, Nat.reduceLeDiff, Nat.reduceEqDiff, Nat.reduceBEq, Int.reduceToNat, Int.reduceLT, Int.reduceLE, Int.reduceGT, Int.reduceGE, Int.reduceAdd, Int.reduceSub, Int.reduceMul, Int.reduceNeg, Int.reduceBEq, Int.reduceBNe, Int.reducePow, Int.reduceDiv, Int.reduceMod, Int.reduceTDiv, Int.reduceTMod, Int.reduceNatCast]
            repeat (with_reducible refine And.intro (by first | assumption | omega | (simp; done) | (simp; omega)) ?_)
            refine callD_X (F14_ok n (a1.1, a1.2.1, a1.2.2.1, a1.2.2.2.1, a1.2.2.2.2.1, a1.2.2.2.2.2) _ h9) (by repeat (first | exact leL_refl _ | refine leL_cons (by first | exact leT_refl _ | exact leT_virt | exact leT_junk _ | exact leT_sl | exact leT_sln | exact leT_nil) ?_)) ?_
            obtain ⟨v10, h10, h⟩ := bnd_some h
            try simp -implicitDefEqProofs (maxSteps := 4000000) (disch := first | omega | decide | (simp only [go_sem]; omega)) only [go_sem, ↓reduceIte, String.reduceEq, String.reduceNe, reduceCtorEq, Int.reduceEq, Nat.reduceAdd, Nat.reduceSub, Nat.reduceMul, Nat.reduceLT, Nat.reduceLeDiff, Nat.reduceEqDiff, Nat.reduceBEq, Int.reduceToNat, Int.reduceLT, Int.reduceLE, Int.reduceGT, Int.reduceGE, Int.reduceAdd, Int.reduceSub, Int.reduceMul, Int.reduceNeg, Int.reduceBEq, Int.reduceBNe, Int.reducePow, Int.reduceDiv, Int.reduceMod, Int.reduceTDiv, Int.reduceTMod, Int.reduceNatCast]
            repeat (with_reducible refine And.intro (by first | assumption | omega | (simp; done) | (simp; omega)) ?_)
            refine callD_X (F20_ok n (a1.1, a1.2.1, a1.2.2.1, a1.2.2.2.1, a1.2.2.2.2.1, a1.2.2.2.2.2) _ h10) (by repeat (first | exact leL_refl _ | refine leL_cons (by first | exact leT_refl _ | exact leT_virt | exact leT_junk _ | exact leT_sl | exact leT_sln | exact leT_nil) ?_)) ?_
            try simp -implicitDefEqProofs (maxSteps := 4000000) (disch := first | omega | decide | (simp only [go_sem]; omega)) only [go_sem, ↓reduceIte, String.reduceEq, String.reduceNe, reduceCtorEq, Int.reduceEq, Nat.reduceAdd, Nat.reduceSub, Nat.reduceMul, Nat.reduceLT, Nat.reduceLeDiff, Nat.reduceEqDiff, Nat.reduceBEq, Int.reduceToNat, Int.reduceLT, Int.reduceLE, Int.reduceGT, Int.reduceGE, Int.reduceAdd, Int.reduceSub, Int.reduceMul, Int.reduceNeg, Int.reduceBEq, Int.reduceBNe, Int.reducePow, Int.reduceDiv, Int.reduceMod, Int.reduceTDiv, Int.reduceTMod, Int.reduceNatCast]
            repeat (with_reducible refine And.intro (by first | assumption | omega | (simp; done) | (simp; omega)) ?_)
            rcases iteB_some h with ⟨c11, h⟩ | ⟨c11, h⟩
            · refine guardD_T c11 ?_
              obtain ⟨v12, h12, h⟩ := bnd_some h
              try simp -implicitDefEqProofs (maxSteps := 4000000) (disch := first | omega | decide | (simp only [go_sem]; omega)) only [go_sem, ↓reduceIte, String.reduceEq, String.reduceNe, reduceCtorEq, Int.reduceEq, Nat.reduceAdd, Nat.reduceSub, Nat.reduceMul, Nat.reduceLT, Nat.reduceLeDiff, Nat.reduceEqDiff, Nat.reduceBEq, Int.reduceToNat, Int.reduceLT, Int.reduceLE, Int.reduceGT, Int.reduceGE, Int.reduceAdd, Int.reduceSub, Int.reduceMul, Int.reduceNeg, Int.reduceBEq, Int.reduceBNe, Int.reducePow, Int.reduceDiv, Int.reduceMod, Int.reduceTDiv, Int.reduceTMod, Int.reduceNatCast]
              repeat (with_reducible refine And.intro (by first | assumption | omega | (simp; done) | (simp; omega)) ?_)
              refine callD_X (F16_ok n (a1.1, a1.2.1, a1.2.2.1, a1.2.2.2.1, a1.2.2.2.2.1, a1.2.2.2.2.2) _ h12) (by repeat (first | exact leL_refl _ | refine leL_cons (by first | exact leT_refl _ | exact leT_virt | exact leT_junk _ | exact leT_sl | exact leT_sln | exact leT_nil) ?_)) ?_
              obtain ⟨v13, h13, h⟩ := bnd_some h
              try simp -implicitDefEqProofs (maxSteps := 4000000) (disch := first | omega | decide | (simp only [go_sem]; omega)) only [go_sem, ↓reduceIte, String.reduceEq, String.reduceNe, reduceCtorEq, Int.reduceEq, Nat.reduceAdd, Nat.reduceSub, Nat.reduceMul, Nat.reduceLT, Nat.reduceLeDiff, Nat.reduceEqDiff, Nat.reduceBEq, Int.reduceToNat, Int.reduceLT, Int.reduceLE, Int.reduceGT, Int.reduceGE, Int.reduceAdd, Int.reduceSub, Int.reduceMul, Int.reduceNeg, Int.reduceBEq, Int.reduceBNe, Int.reducePow, Int.reduceDiv, Int.reduceMod, Int.reduceTDiv, Int.reduceTMod, Int.reduceNatCast]
              repeat (with_reducible refine And.intro (by first | assumption | omega | (simp; done) | (simp; omega)) ?_)
              refine callD_X (F21_ok n (a1.1, a1.2.1, a1.2.2.1, a1.2.2.2.1, a1.2.2.2.2.1, a1.2.2.2.2.2) _ h13) (by repeat (first | exact leL_refl _ | refine leL_cons (by first | exact leT_refl _ | exact leT_virt | exact leT_junk _ | exact leT_sl | exact leT_sln | exact leT_nil) ?_)) ?_
              try simp -implicitDefEqProofs (maxSteps := 4000000) (disch := first | omega | decide | (simp only [go_sem]; omega)) only [go_sem, ↓reduceIte, String.reduceEq, String.reduceNe, reduceCtorEq, Int.reduceEq, Nat.reduceAdd, Nat.reduceSub, Nat.reduceMul, Nat.reduceLT, Nat.reduceLeDiff, Nat.reduceEqDiff, Nat.reduceBEq, Int.reduceToNat, Int.reduceLT, Int.reduceLE, Int.reduceGT, Int.reduceGE, Int.reduceAdd, Int.reduceSub, Int.reduceMul, Int.reduceNeg, Int.reduceBEq, Int.reduceBNe, Int.reducePow, Int.reduceDiv, Int.reduceMod, Int.reduceTDiv, Int.reduceTMod, Int.reduceNatCast]
              repeat (with_reducible refine And.intro (by first | assumption | omega | (simp; done) | (simp; omega)) ?_)
              rcases iteB_some h with ⟨c14, h⟩ | ⟨c14, h⟩
              · refine guardD_T c14 ?_
                obtain ⟨v15, h15, h⟩ := bnd_some h
                try simp -implicitDefEqProofs (maxSteps := 4000000) (disch := first | omega | decide | (simp only [go_sem]; omega)) only [go_sem, ↓reduceIte, String.reduceEq, String.reduceNe, reduceCtorEq, Int.reduceEq, Nat.reduceAdd, Nat.reduceSub, Nat.reduceMul, Nat.reduceLT, Nat.reduceLeDiff, Nat.reduceEqDiff, Nat.reduceBEq, Int.reduceToNat, Int.reduceLT, Int.reduceLE, Int.reduceGT, Int.reduceGE, Int.reduceAdd, Int.reduceSub, Int.reduceMul, Int.reduceNeg, Int.reduceBEq, Int.reduceBNe, Int.reducePow, Int.reduceDiv, Int.reduceMod, Int.reduceTDiv, Int.reduceTMod, Int.reduceNatCast]
                repeat (with_reducible refine And.intro (by first | assumption | omega | (simp; done) | (simp; omega)) ?_)
                refine callD_X (F15_ok n (a1.1, a1.2.1, a1.2.2.1, a1.2.2.2.1, a1.2.2.2.2.1, a1.2.2.2.2.2) _ h15) (by repeat (first | exact leL_refl _ | refine leL_cons (by first | exact leT_refl _ | exact leT_virt | exact leT_junk _ | exact leT_sl | exact leT_sln | exact leT_nil) ?_)) ?_
                obtain ⟨v16, h16, h⟩ := bnd_some h
                try simp -implicitDefEqProofs (maxSteps := 4000000) (disch := first | omega | decide | (simp only [go_sem]; omega)) only [go_sem, ↓reduceIte, String.reduceEq, String.reduceNe, reduceCtorEq, Int.reduceEq, Nat.reduceAdd, Nat.reduceSub, Nat.reduceMul, Nat.reduceLT, Nat.reduceLeDiff, Nat.reduceEqDiff, Nat.reduceBEq, Int.reduceToNat, Int.reduceLT, Int.reduceLE, Int.reduceGT, Int.reduceGE, Int.reduceAdd, Int.reduceSub, Int.reduceMul, Int.reduceNeg, Int.reduceBEq, Int.reduceBNe, Int.reducePow, Int.reduceDiv, Int.reduceMod, Int.reduceTDiv, Int.reduceTMod, Int.reduceNatCast]
                repeat (with_reducible refine And.intro (by first | assumption | omega | (simp; done) | (simp; omega)) ?_)
                refine callD_X (F22_ok n (a1.1, a1.2.1, a1.2.2.1, a1.2.2.2.1, a1.2.2.2.2.1, a1.2.2.2.2.2) _ h16) (by repeat (first | exact leL_refl _ | refine leL_cons (by first | exact leT_refl _ | exact leT_virt | exact leT_junk _ | exact leT_sl | exact leT_sln | exact leT_nil) ?_)) ?_
                try simp -implicitDefEqProofs (maxSteps := 4000000) (disch := first | omega | decide | (simp only [go_sem]; omega)) only [go_sem, ↓reduceIte, String.reduceEq, String.reduceNe, reduceCtorEq, Int.reduceEq, Nat.reduceAdd, Nat.reduceSub, Nat.reduceMul, Nat.reduceLT, Nat.reduceLeDiff, Nat.reduceEqDiff, Nat.reduceBEq, Int.reduceToNat, Int.reduceLT, Int.reduceLE, Int.reduceGT, Int.reduceGE, Int.reduceAdd, Int.reduceSub, Int.reduceMul, Int.reduceNeg, Int.reduceBEq, Int.reduceBNe, Int.reducePow, Int.reduceDiv, Int.reduceMod, Int.reduceTDiv, Int.reduceTMod, Int.reduceNatCast]
                repeat (with_reducible refine And.intro (by first | assumption | omega | (simp; done) | (simp; omega)) ?_)
                rcases iteB_some h with ⟨c17, h⟩ | ⟨c17, h⟩
                · refine guardD_T c17 ?_
                  obtain ⟨v18, h18, h⟩ := bnd_some h
                  try simp -implicitDefEqProofs (maxSteps := 4000000) (disch := first | omega | decide | (simp only [go_sem]; omega)) only [go_sem, ↓reduceIte, String.reduceEq, String.reduceNe, reduceCtorEq, Int.reduceEq, Nat.reduceAdd, Nat.reduceSub, Nat.reduceMul, Nat.reduceLT, Nat.reduceLeDiff, Nat.reduceEqDiff, Nat.reduceBEq, Int.reduceToNat, Int.reduceLT, Int.reduceLE, Int.reduceGT, Int.reduceGE, Int.reduceAdd, Int.reduceSub, Int.reduceMul, Int.reduceNeg, Int.reduceBEq, Int.reduceBNe, Int.reducePow, Int.reduceDiv, Int.reduceMod, Int.reduceTDiv, Int.reduceTMod, Int.reduceNatCast]
                  repeat (with_reducible refine And.intro (by first | assumption | omega | (simp; done) | (simp; omega)) ?_)
                  refine callD_X (F23_ok n (a1.1, a1.2.1, a1.2.2.1, a1.2.2.2.1, a1.2.2.2.2.1, a1.2.2.2.2.2) _ h18) (by repeat (first | exact leL_refl _ | refine leL_cons (by first | exact leT_refl _ | exact leT_virt | exact leT_junk _ | exact leT_sl | exact leT_sln | exact leT_nil) ?_)) ?_
                  obtain ⟨v19, h19, h⟩ := bnd_some h
                  try simp -implicitDefEqProofs (maxSteps := 4000000) (disch := first | omega | decide | (simp only [go_sem]; omega)) only [go_sem, ↓reduceIte, String.reduceEq, String.reduceNe, reduceCtorEq, Int.reduceEq, Nat.reduceAdd, Nat.reduceSub, Nat.reduceMul, Nat.reduceLT, Nat.reduceLeDiff, Nat.reduceEqDiff, Nat.reduceBEq, Int.reduceToNat, Int.reduceLT, Int.reduceLE, Int.reduceGT, Int.reduceGE, Int.reduceAdd, Int.reduceSub, Int.reduceMul, Int.reduceNeg, Int.reduceBEq, Int.reduceBNe, Int.reducePow, Int.reduceDiv, Int.reduceMod, Int.reduceTDiv, Int.reduceTMod, Int.reduceNatCast]
                  repeat (with_reducible refine And.intro (by first | assumption | omega | (simp; done) | (simp; omega)) ?_)
                  refine callD_X (F24_ok n (a1.1, a1.2.1, a1.2.2.1, a1.2.2.2.1, a1.2.2.2.2.1, a1.2.2.2.2.2) _ h19) (by repeat (first | exact leL_refl _ | refine leL_cons (by first | exact leT_refl _ | exact leT_virt | exact leT_junk _ | exact leT_sl | exact leT_sln | exact leT_nil) ?_)) ?_
                  try simp -implicitDefEqProofs (maxSteps := 4000000) (disch := first | omega | decide | (simp only [go_sem]; omega)) only [go_sem, ↓reduceIte, String.reduceEq, String.reduceNe, reduceCtorEq, Int.reduceEq, Nat.reduceAdd, Nat.reduceSub, Nat.reduceMul, Nat.reduceLT, Nat.reduceLeDiff, Nat.reduceEqDiff, Nat.reduceBEq, Int.reduceToNat, Int.reduceLT, Int.reduceLE, Int.reduceGT, Int.reduceGE, Int.reduceAdd, Int.reduceSub, Int.reduceMul, Int.reduceNeg, Int.reduceBEq, Int.reduceBNe, Int.reducePow, Int.reduceDiv, Int.reduceMod, Int.reduceTDiv, Int.reduceTMod, Int.reduceNatCast]
                  repeat (with_reducible refine And.intro (by first | assumption | omega | (simp; done) | (simp; omega)) ?_)
                  rcases iteB_some h with ⟨c20, h⟩ | ⟨c20, h⟩
                  · refine guardD_T c20 ?_
                    obtain ⟨v21, h21, h⟩ := bnd_some h
                    try simp -implicitDefEqProofs (maxSteps := 4000000) (disch := first | omega | decide | (simp only [go_sem]; omega)) only [go_sem, ↓reduceIte, String.reduceEq, String.reduceNe, reduceCtorEq, Int.reduceEq, Nat.reduceAdd, Nat.reduceSub, Nat.reduceMul, Nat.reduceLT, Nat.reduceLeDiff, Nat.reduceEqDiff, Nat.reduceBEq, Int.reduceToNat, Int.reduceLT, Int.reduceLE, Int.reduceGT, Int.reduceGE, Int.reduceAdd, Int.reduceSub, Int.reduceMul, Int.reduceNeg, Int.reduceBEq, Int.reduceBNe, Int.reducePow, Int.reduceDiv, Int.reduceMod, Int.reduceTDiv, Int.reduceTMod, Int.reduceNatCast]
                    repeat (with_reducible refine And.intro (by first | assumption | omega | (simp; done) | (simp; omega)) ?_)
                    refine callD_X (F25_ok n a1.1 _ h21) (by repeat (first | exact leL_refl _ | refine leL_cons (by first | exact leT_refl _ | exact leT_virt | exact leT_junk _ | exact leT_sl | exact leT_sln | exact leT_nil) ?_)) ?_
                    obtain ⟨v22, h22, h⟩ := bnd_some h
                    try simp -implicitDefEqProofs (maxSteps := 4000000) (disch := first | omega | decide | (simp only [go_sem]; omega)) only [go_sem, ↓reduceIte, String.reduceEq, String.reduceNe, reduceCtorEq, Int.reduceEq, Nat.reduceAdd, Nat.reduceSub, Nat.reduceMul, Nat.reduceLT, Nat.reduceLeDiff, Nat.reduceEqDiff, Nat.reduceBEq, Int.reduceToNat, Int.reduceLT, Int.reduceLE, Int.reduceGT, Int.reduceGE, Int.reduceAdd, Int.reduceSub, Int.reduceMul, Int.reduceNeg, Int.reduceBEq, Int.reduceBNe, Int.reducePow, Int.reduceDiv, Int.reduceMod, Int.reduceTDiv, Int.reduceTMod, Int.reduceNatCast]
                    repeat (with_reducible refine And.intro (by first | assumption | omega | (simp; done) | (simp; omega)) ?_)
                    refine callD_X (F26_ok n a1.1 _ h22) (by repeat (first | exact leL_refl _ | refine leL_cons (by first | exact leT_refl _ | exact leT_virt | exact leT_junk _ | exact leT_sl | exact leT_sln | exact leT_nil) ?_)) ?_
                    try simp -implicitDefEqProofs (maxSteps := 4000000) (disch := first | omega | decide | (simp only [go_sem]; omega)) only [go_sem, ↓reduceIte, String.reduceEq, String.reduceNe, reduceCtorEq, Int.reduceEq, Nat.reduceAdd, Nat.reduceSub, Nat.reduceMul, Nat.reduceLT, Nat.reduceLeDiff, Nat.reduceEqDiff, Nat.reduceBEq, Int.reduceToNat, Int.reduceLT, Int.reduceLE, Int.reduceGT, Int.reduceGE, Int.reduceAdd, Int.reduceSub, Int.reduceMul, Int.reduceNeg, Int.reduceBEq, Int.reduceBNe, Int.reducePow, Int.reduceDiv, Int.reduceMod, Int.reduceTDiv, Int.reduceTMod, Int.reduceNatCast]
                    repeat (with_reducible refine And.intro (by first | assumption | omega | (simp; done) | (simp; omega)) ?_)
                    rcases iteB_some h with ⟨c23, h⟩ | ⟨c23, h⟩
                    · refine guardD_T c23 ?_
                      obtain ⟨v24, h24, h⟩ := bnd_some h
                      try simp -implicitDefEqProofs (maxSteps := 4000000) (disch := first | omega | decide | (simp only [go_sem]; omega)) only [go_sem, ↓reduceIte, String.reduceEq, String.reduceNe, reduceCtorEq, Int.reduceEq, Nat.reduceAdd, Nat.reduceSub, Nat.reduceMul, Nat.reduceLT, Nat.reduceLeDiff, Nat.reduceEqDiff, Nat.reduceBEq, Int.reduceToNat, Int.reduceLT, Int.reduceLE, Int.reduceGT, Int.reduceGE, Int.reduceAdd, Int.reduceSub, Int.reduceMul, Int.reduceNeg, Int.reduceBEq, Int.reduceBNe, Int.reducePow, Int.reduceDiv, Int.reduceMod, Int.reduceTDiv, Int.reduceTMod, Int.reduceNatCast]
                      repeat (with_reducible refine And.intro (by first | assumption | omega | (simp; done) | (simp; omega)) ?_)
                      refine callD_X (F27_ok n a1.1 a1.2.1 _ h24) (by repeat (first | exact leL_refl _ | refine leL_cons (by first | exact leT_refl _ | exact leT_virt | exact leT_junk _ | exact leT_sl | exact leT_sln | exact leT_nil) ?_)) ?_
                      obtain ⟨v25, h25, h⟩ := bnd_some h
                      try simp -implicitDefEqProofs (maxSteps := 4000000) (disch := first | omega | decide | (simp only [go_sem]; omega)) only [go_sem, ↓reduceIte, String.reduceEq, String.reduceNe, reduceCtorEq, Int.reduceEq, Nat.reduceAdd, Nat.reduceSub, Nat.reduceMul, Nat.reduceLT, Nat.reduceLeDiff, Nat.reduceEqDiff, Nat.reduceBEq, Int.reduceToNat, Int.reduceLT, Int.reduceLE, Int.reduceGT, Int.reduceGE, Int.reduceAdd, Int.reduceSub, Int.reduceMul, Int.reduceNeg, Int.reduceBEq, Int.reduceBNe, Int.reducePow, Int.reduceDiv, Int.reduceMod, Int.reduceTDiv, Int.reduceTMod, Int.reduceNatCast]
                      repeat (with_reducible refine And.intro (by first | assumption | omega | (simp; done) | (simp; omega)) ?_)
                      refine callD_X (F28_ok n a1.1 a1.2.1 _ h25) (by repeat (first | exact leL_refl _ | refine leL_cons (by first | exact leT_refl _ | exact leT_virt | exact leT_junk _ | exact leT_sl | exact leT_sln | exact leT_nil) ?_)) ?_
                      try simp -implicitDefEqProofs (maxSteps := 4000000) (disch := first | omega | decide | (simp only [go_sem]; omega)) only [go_sem, ↓reduceIte, String.reduceEq, String.reduceNe, reduceCtorEq, Int.reduceEq, Nat.reduceAdd, Nat.reduceSub, Nat.reduceMul, Nat.reduceLT, Nat.reduceLeDiff, Nat.reduceEqDiff, Nat.reduceBEq, Int.reduceToNat, Int.reduceLT, Int.reduceLE, Int.reduceGT, Int.reduceGE, Int.reduceAdd, Int.reduceSub, Int.reduceMul, Int.reduceNeg, Int.reduceBEq, Int.reduceBNe, Int.reducePow, Int.reduceDiv, Int.reduceMod, Int.reduceTDiv, Int.reduceTMod, Int.reduceNatCast]
                      repeat (with_reducible refine And.intro (by first | assumption | omega | (simp; done) | (simp; omega)) ?_)
                      rcases iteB_some h with ⟨c26, h⟩ | ⟨c26, h⟩
                      · refine guardD_T c26 ?_
                        obtain ⟨v27, h27, h⟩ := bnd_some h
                        try simp -implicitDefEqProofs (maxSteps := 4000000) (disch := first | omega | decide | (simp only [go_sem]; omega)) only [go_sem, ↓reduceIte, String.reduceEq, String.reduceNe, reduceCtorEq, Int.reduceEq, Nat.reduceAdd, Nat.reduceSub, Nat.reduceMul, Nat.reduceLT, Nat.reduceLeDiff, Nat.reduceEqDiff, Nat.reduceBEq, Int.reduceToNat, Int.reduceLT, Int.reduceLE, Int.reduceGT, Int.reduceGE, Int.reduceAdd, Int.reduceSub, Int.reduceMul, Int.reduceNeg, Int.reduceBEq, Int.reduceBNe, Int.reducePow, Int.reduceDiv, Int.reduceMod, Int.reduceTDiv, Int.reduceTMod, Int.reduceNatCast]
                        repeat (with_reducible refine And.intro (by first | assumption | omega | (simp; done) | (simp; omega)) ?_)
                        refine callD_X (F27_ok n (2000 : Int) (2 : Int) _ h27) (by repeat (first | exact leL_refl _ | refine leL_cons (by first | exact leT_refl _ | exact leT_virt | exact leT_junk _ | exact leT_sl | exact leT_sln | exact leT_nil) ?_)) ?_
                        try simp -implicitDefEqProofs (maxSteps := 4000000) (disch := first | omega | decide | (simp only [go_sem]; omega)) only [go_sem, ↓reduceIte, String.reduceEq, String.reduceNe, reduceCtorEq, Int.reduceEq, Nat.reduceAdd, Nat.reduceSub, Nat.reduceMul, Nat.reduceLT, Nat.reduceLeDiff, Nat.reduceEqDiff, Nat.reduceBEq, Int.reduceToNat, Int.reduceLT, Int.reduceLE, Int.reduceGT, Int.reduceGE, Int.reduceAdd, Int.reduceSub, Int.reduceMul, Int.reduceNeg, Int.reduceBEq, Int.reduceBNe, Int.reducePow, Int.reduceDiv, Int.reduceMod, Int.reduceTDiv, Int.reduceTMod, Int.reduceNatCast]
                        repeat (with_reducible refine And.intro (by first | assumption | omega | (simp; done) | (simp; omega)) ?_)
                        refine toEnd hC ?_
                        refine endX_seq ?_
                        refine runX_ret ?_
                        refine endX_q ?_
                        obtain rfl := Option.some.inj h
                        show RetW _ _ _ _ _
                        simp only [RetW]
                        (try simp -implicitDefEqProofs (maxSteps := 4000000) (disch := first | omega | decide | (simp only [go_sem]; omega)) only [go_sem, ↓reduceIte, String.reduceEq, String.reduceNe, reduceCtorEq, Int.reduceEq, Nat.reduceAdd, Nat.reduceSub, Nat.reduceMul, Nat.reduceLT, Nat.reduceLeDiff, Nat.reduceEqDiff, Nat.reduceBEq, Int.reduceToNat, Int.reduceLT, Int.reduceLE, Int.reduceGT, Int.reduceGE, Int.reduceAdd, Int.reduceSub, Int.reduceMul, Int.reduceNeg, Int.reduceBEq, Int.reduceBNe, Int.reducePow, Int.reduceDiv, Int.reduceMod, Int.reduceTDiv, Int.reduceTMod, Int.reduceNatCast])
                        first | exact leT_refl _ | (refine ⟨rfl, ?_⟩; first | exact leT_refl _ | exact leT_sl | exact leT_sln | exact leT_nil | (refine leT_tup (by repeat (first | exact leL_refl _ | refine leL_cons (by first | exact leT_refl _ | exact leT_virt | exact leT_junk _ | exact leT_sl | exact leT_sln | exact leT_nil) ?_))) | (refine leT_agg (by repeat (first | exact leL_refl _ | refine leL_cons (by first | exact leT_refl _ | exact leT_virt | exact leT_junk _ | exact leT_sl | exact leT_sln | exact leT_nil) ?_)))) | (first | exact leT_refl _ | exact leT_sl | exact leT_sln | exact leT_nil | (refine leT_tup (by repeat (first | exact leL_refl _ | refine leL_cons (by first | exact leT_refl _ | exact leT_virt | exact leT_junk _ | exact leT_sl | exact leT_sln | exact leT_nil) ?_))) | (refine leT_agg (by repeat (first | exact leL_refl _ | refine leL_cons (by first | exact leT_refl _ | exact leT_virt | exact leT_junk _ | exact leT_sl | exact leT_sln | exact leT_nil) ?_))))
                      · refine guardD_F c26 ?_
                        try simp -implicitDefEqProofs (maxSteps := 4000000) (disch := first | omega | decide | (simp only [go_sem]; omega)) only [go_sem, ↓reduceIte, String.reduceEq, String.reduceNe, reduceCtorEq, Int.reduceEq, Nat.reduceAdd, Nat.reduceSub, Nat.reduceMul, Nat.reduceLT, Nat.reduceLeDiff, Nat.reduceEqDiff, Nat.reduceBEq, Int.reduceToNat, Int.reduceLT, Int.reduceLE, Int.reduceGT, Int.reduceGE, Int.reduceAdd, Int.reduceSub, Int.reduceMul, Int.reduceNeg, Int.reduceBEq, Int.reduceBNe, Int.reducePow, Int.reduceDiv, Int.reduceMod, Int.reduceTDiv, Int.reduceTMod, Int.reduceNatCast]
                        repeat (with_reducible refine And.intro (by first | assumption | omega | (simp; done) | (simp; omega)) ?_)
                        refine toEnd hC ?_
                        refine endX_seq ?_
                        refine runX_ret ?_
                        refine endX_q ?_
                        obtain rfl := Option.some.inj h
                        show RetW _ _ _ _ _
                        simp only [RetW]
                        (try simp -implicitDefEqProofs (maxSteps := 4000000) (disch := first | omega | decide | (simp only [go_sem]; omega)) only [go_sem, ↓reduceIte, String.reduceEq, String.reduceNe, reduceCtorEq, Int.reduceEq, Nat.reduceAdd, Nat.reduceSub, Nat.reduceMul, Nat.reduceLT, Nat.reduceLeDiff, Nat.reduceEqDiff, Nat.reduceBEq, Int.reduceToNat, Int.reduceLT, Int.reduceLE, Int.reduceGT, Int.reduceGE, Int.reduceAdd, Int.reduceSub, Int.reduceMul, Int.reduceNeg, Int.reduceBEq, Int.reduceBNe, Int.reducePow, Int.reduceDiv, Int.reduceMod, Int.reduceTDiv, Int.reduceTMod, Int.reduceNatCast])
                        first | exact leT_refl _ | (refine ⟨rfl, ?_⟩; first | exact leT_refl _ | exact leT_sl | exact leT_sln | exact leT_nil | (refine leT_tup (by repeat (first | exact leL_refl _ | refine leL_cons (by first | exact leT_refl _ | exact leT_virt | exact leT_junk _ | exact leT_sl | exact leT_sln | exact leT_nil) ?_))) | (refine leT_agg (by repeat (first | exact leL_refl _ | refine leL_cons (by first | exact leT_refl _ | exact leT_virt | exact leT_junk _ | exact leT_sl | exact leT_sln | exact leT_nil) ?_)))) | (first | exact leT_refl _ | exact leT_sl | exact leT_sln | exact leT_nil | (refine leT_tup (by repeat (first | exact leL_refl _ | refine leL_cons (by first | exact leT_refl _ | exact leT_virt | exact leT_junk _ | exact leT_sl | exact leT_sln | exact leT_nil) ?_))) | (refine leT_agg (by repeat (first | exact leL_refl _ | refine leL_cons (by first | exact leT_refl _ | exact leT_virt | exact leT_junk _ | exact leT_sl | exact leT_sln | exact leT_nil) ?_))))
                    · refine guardD_F c23 ?_
                      try simp -implicitDefEqProofs (maxSteps := 4000000) (disch := first | omega | decide | (simp only [go_sem]; omega)) only [go_sem, ↓reduceIte, String.reduceEq, String.reduceNe, reduceCtorEq, Int.reduceEq, Nat.reduceAdd, Nat.reduceSub, Nat.reduceMul, Nat.reduceLT, Nat.reduceLeDiff, Nat.reduceEqDiff, Nat.reduceBEq, Int.reduceToNat, Int.reduceLT, Int.reduceLE, Int.reduceGT, Int.reduceGE, Int.reduceAdd, Int.reduceSub, Int.reduceMul, Int.reduceNeg, Int.reduceBEq, Int.reduceBNe, Int.reducePow, Int.reduceDiv, Int.reduceMod, Int.reduceTDiv, Int.reduceTMod, Int.reduceNatCast]
                      repeat (with_reducible refine And.intro (by first | assumption | omega | (simp; done) | (simp; omega)) ?_)
                      refine toEnd hC ?_
                      refine endX_seq ?_
                      refine runX_ret ?_
                      refine endX_q ?_
                      obtain rfl := Option.some.inj h
                      show RetW _ _ _ _ _
                      simp only [RetW]
                      (try simp -implicitDefEqProofs (maxSteps := 4000000) (disch := first | omega | decide | (simp only [go_sem]; omega)) only [go_sem, ↓reduceIte, String.reduceEq, String.reduceNe, reduceCtorEq, Int.reduceEq, Nat.reduceAdd, Nat.reduceSub, Nat.reduceMul, Nat.reduceLT, Nat.reduceLeDiff, Nat.reduceEqDiff, Nat.reduceBEq, Int.reduceToNat, Int.reduceLT, Int.reduceLE, Int.reduceGT, Int.reduceGE, Int.reduceAdd, Int.reduceSub, Int.reduceMul, Int.reduceNeg, Int.reduceBEq, Int.reduceBNe, Int.reducePow, Int.reduceDiv, Int.reduceMod, Int.reduceTDiv, Int.reduceTMod, Int.reduceNatCast])
                      first | exact leT_refl _ | (refine ⟨rfl, ?_⟩; first | exact leT_refl _ | exact leT_sl | exact leT_sln | exact leT_nil | (refine leT_tup (by repeat (first | exact leL_refl _ | refine leL_cons (by first | exact leT_refl _ | exact leT_virt | exact leT_junk _ | exact leT_sl | exact leT_sln | exact leT_nil) ?_))) | (refine leT_agg (by repeat (first | exact leL_refl _ | refine leL_cons (by first | exact leT_refl _ | exact leT_virt | exact leT_junk _ | exact leT_sl | exact leT_sln | exact leT_nil) ?_)))) | (first | exact leT_refl _ | exact leT_sl | exact leT_sln | exact leT_nil | (refine leT_tup (by repeat (first | exact leL_refl _ | refine leL_cons (by first | exact leT_refl _ | exact leT_virt | exact leT_junk _ | exact leT_sl | exact leT_sln | exact leT_nil) ?_))) | (refine leT_agg (by repeat (first | exact leL_refl _ | refine leL_cons (by first | exact leT_refl _ | exact leT_virt | exact leT_junk _ | exact leT_sl | exact leT_sln | exact leT_nil) ?_))))
                  · refine guardD_F c20 ?_
                    try simp -implicitDefEqProofs (maxSteps := 4000000) (disch := first | omega | decide | (simp only [go_sem]; omega)) only [go_sem, ↓reduceIte, String.reduceEq, String.reduceNe, reduceCtorEq, Int.reduceEq, Nat.reduceAdd, Nat.reduceSub, Nat.reduceMul, Nat.reduceLT, Nat.reduceLeDiff, Nat.reduceEqDiff, Nat.reduceBEq, Int.reduceToNat, Int.reduceLT, Int.reduceLE, Int.reduceGT, Int.reduceGE, Int.reduceAdd, Int.reduceSub, Int.reduceMul, Int.reduceNeg, Int.reduceBEq, Int.reduceBNe, Int.reducePow, Int.reduceDiv, Int.reduceMod, Int.reduceTDiv, Int.reduceTMod, Int.reduceNatCast]
                    repeat (with_reducible refine And.intro (by first | assumption | omega | (simp; done) | (simp; omega)) ?_)
                    refine toEnd hC ?_
                    refine endX_seq ?_
                    refine runX_ret ?_
                    refine endX_q ?_
                    obtain rfl := Option.some.inj h
                    show RetW _ _ _ _ _
                    simp only [RetW]
                    (try simp -implicitDefEqProofs (maxSteps := 4000000) (disch := first | omega | decide | (simp only [go_sem]; omega)) only [go_sem, ↓reduceIte, String.reduceEq, String.reduceNe, reduceCtorEq, Int.reduceEq, Nat.reduceAdd, Nat.reduceSub, Nat.reduceMul, Nat.reduceLT, Nat.reduceLeDiff, Nat.reduceEqDiff, Nat.reduceBEq, Int.reduceToNat, Int.reduceLT, Int.reduceLE, Int.reduceGT, Int.reduceGE, Int.reduceAdd, Int.reduceSub, Int.reduceMul, Int.reduceNeg, Int.reduceBEq, Int.reduceBNe, Int.reducePow, Int.reduceDiv, Int.reduceMod, Int.reduceTDiv, Int.reduceTMod, Int.reduceNatCast])
                    first | exact leT_refl _ | (refine ⟨rfl, ?_⟩; first | exact leT_refl _ | exact leT_sl | exact leT_sln | exact leT_nil | (refine leT_tup (by repeat (first | exact leL_refl _ | refine leL_cons (by first | exact leT_refl _ | exact leT_virt | exact leT_junk _ | exact leT_sl | exact leT_sln | exact leT_nil) ?_))) | (refine leT_agg (by repeat (first | exact leL_refl _ | refine leL_cons (by first | exact leT_refl _ | exact leT_virt | exact leT_junk _ | exact leT_sl | exact leT_sln | exact leT_nil) ?_)))) | (first | exact leT_refl _ | exact leT_sl | exact leT_sln | exact leT_nil | (refine leT_tup (by repeat (first | exact leL_refl _ | refine leL_cons (by first | exact leT_refl _ | exact leT_virt | exact leT_junk _ | exact leT_sl | exact leT_sln | exact leT_nil) ?_))) | (refine leT_agg (by repeat (first | exact leL_refl _ | refine leL_cons (by first | exact leT_refl _ | exact leT_virt | exact leT_junk _ | exact leT_sl | exact leT_sln | exact leT_nil) ?_))))
                · refine guardD_F c17 ?_
                  try simp -implicitDefEqProofs (maxSteps := 4000000) (disch := first | omega | decide | (simp only [go_sem]; omega)) only [go_sem, ↓reduceIte, String.reduceEq, String.reduceNe, reduceCtorEq, Int.reduceEq, Nat.reduceAdd, Nat.reduceSub, Nat.reduceMul, Nat.reduceLT, Nat.reduceLeDiff, Nat.reduceEqDiff, Nat.reduceBEq, Int.reduceToNat, Int.reduceLT, Int.reduceLE, Int.reduceGT, Int.reduceGE, Int.reduceAdd, Int.reduceSub, Int.reduceMul, Int.reduceNeg, Int.reduceBEq, Int.reduceBNe, Int.reducePow, Int.reduceDiv, Int.reduceMod, Int.reduceTDiv, Int.reduceTMod, Int.reduceNatCast]
                  repeat (with_reducible refine And.intro (by first | assumption | omega | (simp; done) | (simp; omega)) ?_)
                  refine toEnd hC ?_
                  refine endX_seq ?_
                  refine runX_ret ?_
                  refine endX_q ?_
                  obtain rfl := Option.some.inj h
                  show RetW _ _ _ _ _
                  simp only [RetW]
                  (try simp -implicitDefEqProofs (maxSteps := 4000000) (disch := first | omega | decide | (simp only [go_sem]; omega)) only [go_sem, ↓reduceIte, String.reduceEq, String.reduceNe, reduceCtorEq, Int.reduceEq, Nat.reduceAdd, Nat.reduceSub, Nat.reduceMul, Nat.reduceLT, Nat.reduceLeDiff, Nat.reduceEqDiff, Nat.reduceBEq, Int.reduceToNat, Int.reduceLT, Int.reduceLE, Int.reduceGT, Int.reduceGE, Int.reduceAdd, Int.reduceSub, Int.reduceMul, Int.reduceNeg, Int.reduceBEq, Int.reduceBNe, Int.reducePow, Int.reduceDiv, Int.reduceMod, Int.reduceTDiv, Int.reduceTMod, Int.reduceNatCast])
                  first | exact leT_refl _ | (refine ⟨rfl, ?_⟩; first | exact leT_refl _ | exact leT_sl | exact leT_sln | exact leT_nil | (refine leT_tup (by repeat (first | exact leL_refl _ | refine leL_cons (by first | exact leT_refl _ | exact leT_virt | exact leT_junk _ | exact leT_sl | exact leT_sln | exact leT_nil) ?_))) | (refine leT_agg (by repeat (first | exact leL_refl _ | refine leL_cons (by first | exact leT_refl _ | exact leT_virt | exact leT_junk _ | exact leT_sl | exact leT_sln | exact leT_nil) ?_)))) | (first | exact leT_refl _ | exact leT_sl | exact leT_sln | exact leT_nil | (refine leT_tup (by repeat (first | exact leL_refl _ | refine leL_cons (by first | exact leT_refl _ | exact leT_virt | exact leT_junk _ | exact leT_sl | exact leT_sln | exact leT_nil) ?_))) | (refine leT_agg (by repeat (first | exact leL_refl _ | refine leL_cons (by first | exact leT_refl _ | exact leT_virt | exact leT_junk _ | exact leT_sl | exact leT_sln | exact leT_nil) ?_))))
              · refine guardD_F c14 ?_
                try simp -implicitDefEqProofs (maxSteps := 4000000) (disch := first | omega | decide | (simp only [go_sem]; omega)) only [go_sem, ↓reduceIte, String.reduceEq, String.reduceNe, reduceCtorEq, Int.reduceEq, Nat.reduceAdd, Nat.reduceSub, Nat.reduceMul, Nat.reduceLT, Nat.reduceLeDiff, Nat.reduceEqDiff, Nat.reduceBEq, Int.reduceToNat, Int.reduceLT, Int.reduceLE, Int.reduceGT, Int.reduceGE, Int.reduceAdd, Int.reduceSub, Int.reduceMul, Int.reduceNeg, Int.reduceBEq, Int.reduceBNe, Int.reducePow, Int.reduceDiv, Int.reduceMod, Int.reduceTDiv, Int.reduceTMod, Int.reduceNatCast]
                repeat (with_reducible refine And.intro (by first | assumption | omega | (simp; done) | (simp; omega)) ?_)
                refine toEnd hC ?_
                refine endX_seq ?_
                refine runX_ret ?_
                refine endX_q ?_
                obtain rfl := Option.some.inj h
                show RetW _ _ _ _ _
                simp only [RetW]
                (try simp -implicitDefEqProofs (maxSteps := 4000000) (disch := first | omega | decide | (simp only [go_sem]; omega)) only [go_sem, ↓reduceIte, String.reduceEq, String.reduceNe, reduceCtorEq, Int.reduceEq, Nat.reduceAdd, Nat.reduceSub, Nat.reduceMul, Nat.reduceLT, Nat.reduceLeDiff, Nat.reduceEqDiff, Nat.reduceBEq, Int.reduceToNat, Int.reduceLT, Int.reduceLE, Int.reduceGT, Int.reduceGE, Int.reduceAdd, Int.reduceSub, Int.reduceMul, Int.reduceNeg, Int.reduceBEq, Int.reduceBNe, Int.reducePow, Int.reduceDiv, Int.reduceMod, Int.reduceTDiv, Int.reduceTMod, Int.reduceNatCast])
                first | exact leT_refl _ | (refine ⟨rfl, ?_⟩; first | exact leT_refl _ | exact leT_sl | exact leT_sln | exact leT_nil | (refine leT_tup (by repeat (first | exact leL_refl _ | refine leL_cons (by first | exact leT_refl _ | exact leT_virt | exact leT_junk _ | exact leT_sl | exact leT_sln | exact leT_nil) ?_))) | (refine leT_agg (by repeat (first | exact leL_refl _ | refine leL_cons (by first | exact leT_refl _ | exact leT_virt | exact leT_junk _ | exact leT_sl | exact leT_sln | exact leT_nil) ?_)))) | (first | exact leT_refl _ | exact leT_sl | exact leT_sln | exact leT_nil | (refine leT_tup (by repeat (first | exact leL_refl _ | refine leL_cons (by first | exact leT_refl _ | exact leT_virt | exact leT_junk _ | exact leT_sl | exact leT_sln | exact leT_nil) ?_))) | (refine leT_agg (by repeat (first | exact leL_refl _ | refine leL_cons (by first | exact leT_refl _ | exact leT_virt | exact leT_junk _ | exact leT_sl | exact leT_sln | exact leT_nil) ?_))))
            · refine guardD_F c11 ?_
              try simp -implicitDefEqProofs (maxSteps := 4000000) (disch := first | omega | decide | (simp only [go_sem]; omega)) only [go_sem, ↓reduceIte, String.reduceEq, String.reduceNe, reduceCtorEq, Int.reduceEq, Nat.reduceAdd, Nat.reduceSub, Nat.reduceMul, Nat.reduceLT, Nat.reduceLeDiff, Nat.reduceEqDiff, Nat.reduceBEq, Int.reduceToNat, Int.reduceLT, Int.reduceLE, Int.reduceGT, Int.reduceGE, Int.reduceAdd, Int.reduceSub, Int.reduceMul, Int.reduceNeg, Int.reduceBEq, Int.reduceBNe, Int.reducePow, Int.reduceDiv, Int.reduceMod, Int.reduceTDiv, Int.reduceTMod, Int.reduceNatCast]
              repeat (with_reducible refine And.intro (by first | assumption | omega | (simp; done) | (simp; omega)) ?_)
              refine toEnd hC ?_
              refine endX_seq ?_
              refine runX_ret ?_
              refine endX_q ?_
              obtain rfl := Option.some.inj h
              show RetW _ _ _ _ _
              simp only [RetW]
              (try simp -implicitDefEqProofs (maxSteps := 4000000) (disch := first | omega | decide | (simp only [go_sem]; omega)) only [go_sem, ↓reduceIte, String.reduceEq, String.reduceNe, reduceCtorEq, Int.reduceEq, Nat.reduceAdd, Nat.reduceSub, Nat.reduceMul, Nat.reduceLT, Nat.reduceLeDiff, Nat.reduceEqDiff, Nat.reduceBEq, Int.reduceToNat, Int.reduceLT, Int.reduceLE, Int.reduceGT, Int.reduceGE, Int.reduceAdd, Int.reduceSub, Int.reduceMul, Int.reduceNeg, Int.reduceBEq, Int.reduceBNe, Int.reducePow, Int.reduceDiv, Int.reduceMod, Int.reduceTDiv, Int.reduceTMod, Int.reduceNatCast])
              first | exact leT_refl _ | (refine ⟨rfl, ?_⟩; first | exact leT_refl _ | exact leT_sl | exact leT_sln | exact leT_nil | (refine leT_tup (by repeat (first | exact leL_refl _ | refine leL_cons (by first | exact leT_refl _ | exact leT_virt | exact leT_junk _ | exact leT_sl | exact leT_sln | exact leT_nil) ?_))) | (refine leT_agg (by repeat (first | exact leL_refl _ | refine leL_cons (by first | exact leT_refl _ | exact leT_virt | exact leT_junk _ | exact leT_sl | exact leT_sln | exact leT_nil) ?_)))) | (first | exact leT_refl _ | exact leT_sl | exact leT_sln | exact leT_nil | (refine leT_tup (by repeat (first | exact leL_refl _ | refine leL_cons (by first | exact leT_refl _ | exact leT_virt | exact leT_junk _ | exact leT_sl | exact leT_sln | exact leT_nil) ?_))) | (refine leT_agg (by repeat (first | exact leL_refl _ | refine leL_cons (by first | exact leT_refl _ | exact leT_virt | exact leT_junk _ | exact leT_sl | exact leT_sln | exact leT_nil) ?_))))
          · refine guardD_F c8 ?_
            try simp -implicitDefEqProofs (maxSteps := 4000000) (disch := first | omega | decide | (simp only [go_sem]; omega)) only [go_sem, ↓reduceIte, String.reduceEq, String.reduceNe, reduceCtorEq, Int.reduceEq, Nat.reduceAdd, Nat.reduceSub, Nat.reduceMul, Nat.reduceLT, Nat.reduceLeDiff, Nat.reduceEqDiff, Nat.reduceBEq, Int.reduceToNat, Int.reduceLT, Int.reduceLE, Int.reduceGT, Int.reduceGE, Int.reduceAdd, Int.reduceSub, Int.reduceMul, Int.reduceNeg, Int.reduceBEq, Int.reduceBNe, Int.reducePow, Int.reduceDiv, Int.reduceMod, Int.reduceTDiv, Int.reduceTMod, Int.reduceNatCast]
            repeat (with_reducible refine And.intro (by first | assumption | omega | (simp; done) | (simp; omega)) ?_)
            refine toEnd hC ?_
            refine endX_seq ?_
            refine runX_ret ?_
            refine endX_q ?_
            obtain rfl := Option.some.inj h
            show RetW _ _ _ _ _
            simp only [RetW]
            (try simp -implicitDefEqProofs (maxSteps := 4000000) (disch := first | omega | decide | (simp only [go_sem]; omega)) only [go_sem, ↓reduceIte, String.reduceEq, String.reduceNe, reduceCtorEq, Int.reduceEq, Nat.reduceAdd, Nat.reduceSub, Nat.reduceMul, Nat.reduceLT, Nat.reduceLeDiff, Nat.reduceEqDiff, Nat.reduceBEq, Int.reduceToNat, Int.reduceLT, Int.reduceLE, Int.reduceGT, Int.reduceGE, Int.reduceAdd, Int.reduceSub, Int.reduceMul, Int.reduceNeg, Int.reduceBEq, Int.reduceBNe, Int.reducePow, Int.reduceDiv, Int.reduceMod, Int.reduceTDiv, Int.reduceTMod, Int.reduceNatCast])
            first | exact leT_refl _ | (refine ⟨rfl, ?_⟩; first | exact leT_refl _ | exact leT_sl | exact leT_sln | exact leT_nil | (refine leT_tup (by repeat (first | exact leL_refl _ | refine leL_cons (by first | exact leT_refl _ | exact leT_virt | exact leT_junk _ | exact leT_sl | exact leT_sln | exact leT_nil) ?_))) | (refine leT_agg (by repeat (first | exact leL_refl _ | refine leL_cons (by first | exact leT_refl _ | exact leT_virt | exact leT_junk _ | exact leT_sl | exact leT_sln | exact leT_nil) ?_)))) | (first | exact leT_refl _ | exact leT_sl | exact leT_sln | exact leT_nil | (refine leT_tup (by repeat (first | exact leL_refl _ | refine leL_cons (by first | exact leT_refl _ | exact leT_virt | exact leT_junk _ | exact leT_sl | exact leT_sln | exact leT_nil) ?_))) | (refine leT_agg (by repeat (first | exact leL_refl _ | refine leL_cons (by first | exact leT_refl _ | exact leT_virt | exact leT_junk _ | exact leT_sl | exact leT_sln | exact leT_nil) ?_))))
        · refine guardD_F c7 ?_
          try simp -implicitDefEqProofs (maxSteps := 4000000) (disch := first | omega | decide | (simp only [go_sem]; omega)) only [go_sem, ↓reduceIte, String.reduceEq, String.reduceNe, reduceCtorEq, Int.reduceEq, Nat.reduceAdd, Nat.reduceSub, Nat.reduceMul, Nat.reduceLT, Nat.reduceLeDiff, Nat.reduceEqDiff, Nat.reduceBEq, Int.reduceToNat, Int.reduceLT, Int.reduceLE, Int.reduceGT, Int.reduceGE, Int.reduceAdd, Int.reduceSub, Int.reduceMul, Int.reduceNeg, Int.reduceBEq, Int.reduceBNe, Int.reducePow, Int.reduceDiv, Int.reduceMod, Int.reduceTDiv, Int.reduceTMod, Int.reduceNatCast]
          repeat (with_reducible refine And.intro (by first | assumption | omega | (simp; done) | (simp; omega)) ?_)
          refine toEnd hC ?_
          refine endX_seq ?_
          refine runX_ret ?_
          refine endX_q ?_
          obtain rfl := Option.some.inj h
          show RetW _ _ _ _ _
          simp only [RetW]
          (try simp -implicitDefEqProofs (maxSteps := 4000000) (disch := first | omega | decide | (simp only [go_sem]; omega)) only [go_sem, ↓reduceIte, String.reduceEq, String.reduceNe, reduceCtorEq, Int.reduceEq, Nat.reduceAdd, Nat.reduceSub, Nat.reduceMul, Nat.reduceLT, Nat.reduceLeDiff, Nat.reduceEqDiff, Nat.reduceBEq, Int.reduceToNat, Int.reduceLT, Int.reduceLE, Int.reduceGT, Int.reduceGE, Int.reduceAdd, Int.reduceSub, Int.reduceMul, Int.reduceNeg, Int.reduceBEq, Int.reduceBNe, Int.reducePow, Int.reduceDiv, Int.reduceMod, Int.reduceTDiv, Int.reduceTMod, Int.reduceNatCast])
          first | exact leT_refl _ | (refine ⟨rfl, ?_⟩; first | exact leT_refl _ | exact leT_sl | exact leT_sln | exact leT_nil | (refine leT_tup (by repeat (first | exact leL_refl _ | refine leL_cons (by first | exact leT_refl _ | exact leT_virt | exact leT_junk _ | exact leT_sl | exact leT_sln | exact leT_nil) ?_))) | (refine leT_agg (by repeat (first | exact leL_refl _ | refine leL_cons (by first | exact leT_refl _ | exact leT_virt | exact leT_junk _ | exact leT_sl | exact leT_sln | exact leT_nil) ?_)))) | (first | exact leT_refl _ | exact leT_sl | exact leT_sln | exact leT_nil | (refine leT_tup (by repeat (first | exact leL_refl _ | refine leL_cons (by first | exact leT_refl _ | exact leT_virt | exact leT_junk _ | exact leT_sl | exact leT_sln | exact leT_nil) ?_))) | (refine leT_agg (by repeat (first | exact leL_refl _ | refine leL_cons (by first | exact leT_refl _ | exact leT_virt | exact leT_junk _ | exact leT_sl | exact leT_sln | exact leT_nil) ?_))))
      · refine guardD_F c6 ?_
        try simp -implicitDefEqProofs (maxSteps := 4000000) (disch := first | omega | decide | (simp only [go_sem]; omega)) only [go_sem, ↓reduceIte, String.reduceEq, String.reduceNe, reduceCtorEq, Int.reduceEq, Nat.reduceAdd, Nat.reduceSub, Nat.reduceMul, Nat.reduceLT, Nat.reduceLeDiff, Nat.reduceEqDiff, Nat.reduceBEq, Int.reduceToNat, Int.reduceLT, Int.reduceLE, Int.reduceGT, Int.reduceGE, Int.reduceAdd, Int.reduceSub, Int.reduceMul, Int.reduceNeg, Int.reduceBEq, Int.reduceBNe, Int.reducePow, Int.reduceDiv, Int.reduceMod, Int.reduceTDiv, Int.reduceTMod, Int.reduceNatCast]
        repeat (with_reducible refine And.intro (by first | assumption | omega | (simp; done) | (simp; omega)) ?_)
        refine toEnd hC ?_
        refine endX_seq ?_
        refine runX_ret ?_
        refine endX_q ?_
        obtain rfl := Option.some.inj h
        show RetW _ _ _ _ _
        simp only [RetW]
        (try simp -implicitDefEqProofs (maxSteps := 4000000) (disch := first | omega | decide | (simp only [go_sem]; omega)) only [go_sem, ↓reduceIte, String.reduceEq, String.reduceNe, reduceCtorEq, Int.reduceEq, Nat.reduceAdd, Nat.reduceSub, Nat.reduceMul, Nat.reduceLT, Nat.reduceLeDiff, Nat.reduceEqDiff, Nat.reduceBEq, Int.reduceToNat, Int.reduceLT, Int.reduceLE, Int.reduceGT, Int.reduceGE, Int.reduceAdd, Int.reduceSub, Int.reduceMul, Int.reduceNeg, Int.reduceBEq, Int.reduceBNe, Int.reducePow, Int.reduceDiv, Int.reduceMod, Int.reduceTDiv, Int.reduceTMod, Int.reduceNatCast])
        first | exact leT_refl _ | (refine ⟨rfl, ?_⟩; first | exact leT_refl _ | exact leT_sl | exact leT_sln | exact leT_nil | (refine leT_tup (by repeat (first | exact leL_refl _ | refine leL_cons (by first | exact leT_refl _ | exact leT_virt | exact leT_junk _ | exact leT_sl | exact leT_sln | exact leT_nil) ?_))) | (refine leT_agg (by repeat (first | exact leL_refl _ | refine leL_cons (by first | exact leT_refl _ | exact leT_virt | exact leT_junk _ | exact leT_sl | exact leT_sln | exact leT_nil) ?_)))) | (first | exact leT_refl _ | exact leT_sl | exact leT_sln | exact leT_nil | (refine leT_tup (by repeat (first | exact leL_refl _ | refine leL_cons (by first | exact leT_refl _ | exact leT_virt | exact leT_junk _ | exact leT_sl | exact leT_sln | exact leT_nil) ?_))) | (refine leT_agg (by repeat (first | exact leL_refl _ | refine leL_cons (by first | exact leT_refl _ | exact leT_virt | exact leT_junk _ | exact leT_sl | exact leT_sln | exact leT_nil) ?_))))
    · refine guardD_F c5 ?_
      try simp -implicitDefEqProofs (maxSteps := 4000000) (disch := first | omega | decide | (simp only [go_sem]; omega)) only [go_sem, ↓reduceIte, String.reduceEq, String.reduceNe, reduceCtorEq, Int.reduceEq, Nat.reduceAdd, Nat.reduceSub, Nat.reduceMul, Nat.reduceLT, Nat.reduceLeDiff, Nat.reduceEqDiff, Nat.reduceBEq, Int.reduceToNat, Int.reduceLT, Int.reduceLE, Int.reduceGT, Int.reduceGE, Int.reduceAdd, Int.reduceSub, Int.reduceMul, Int.reduceNeg, Int.reduceBEq, Int.reduceBNe, Int.reducePow, Int.reduceDiv, Int.reduceMod, Int.reduceTDiv, Int.reduceTMod, Int.reduceNatCast]
      repeat (with_reducible refine And.intro (by first | assumption | omega | (simp; done) | (simp; omega)) ?_)
      refine toEnd hC ?_
      refine endX_seq ?_
      refine runX_ret ?_
      refine endX_q ?_
      obtain rfl := Option.some.inj h
      show RetW _ _ _ _ _
      simp only [RetW]
      (try simp -implicitDefEqProofs (maxSteps := 4000000) (disch := first | omega | decide | (simp only [go_sem]; omega)) only [go_sem, ↓reduceIte, String.reduceEq, String.reduceNe, reduceCtorEq, Int.reduceEq, Nat.reduceAdd, Nat.reduceSub, Nat.reduceMul, Nat.reduceLT, Nat.reduceLeDiff, Nat.reduceEqDiff, Nat.reduceBEq, Int.reduceToNat, Int.reduceLT, Int.reduceLE, Int.reduceGT, Int.reduceGE, Int.reduceAdd, Int.reduceSub, Int.reduceMul, Int.reduceNeg, Int.reduceBEq, Int.reduceBNe, Int.reducePow, Int.reduceDiv, Int.reduceMod, Int.reduceTDiv, Int.reduceTMod, Int.reduceNatCast])
      first | exact leT_refl _ | (refine ⟨rfl, ?_⟩; first | exact leT_refl _ | exact leT_sl | exact leT_sln | exact leT_nil | (refine leT_tup (by repeat (first | exact leL_refl _ | refine leL_cons (by first | exact leT_refl _ | exact leT_virt | exact leT_junk _ | exact leT_sl | exact leT_sln | exact leT_nil) ?_))) | (refine leT_agg (by repeat (first | exact leL_refl _ | refine leL_cons (by first | exact leT_refl _ | exact leT_virt | exact leT_junk _ | exact leT_sl | exact leT_sln | exact leT_nil) ?_)))) | (first | exact leT_refl _ | exact leT_sl | exact leT_sln | exact leT_nil | (refine leT_tup (by repeat (first | exact leL_refl _ | refine leL_cons (by first | exact leT_refl _ | exact leT_virt | exact leT_junk _ | exact leT_sl | exact leT_sln | exact leT_nil) ?_))) | (refine leT_agg (by repeat (first | exact leL_refl _ | refine leL_cons (by first | exact leT_refl _ | exact leT_virt | exact leT_junk _ | exact leT_sl | exact leT_sln | exact leT_nil) ?_))))
end Go.Proofs.YtdfghdppbfabfaaX

/- Shapes of arguments, as plain values. Of no program. -/
set_option linter.unusedVariables false
namespace Go.Proofs.YtdfghdppbfabfaaX
open Go Go.RowKit
theorem RepR.le {E : Env} {sz : Nat} : ∀ {l l' : List T} {c : List Value}, l.length = l'.length → (∀ i, leT anyE (l.getD i .junk) (l'.getD i .junk)) → RepR E sz l c → RepR E sz l' c
  | [], [], c, _, _, h => h
  | x :: l, y :: l', c, hl, hi, h => by
    simp only [RepR] at h ⊢
    obtain ⟨u, c', h1, h2, h3, h4⟩ := h
    exact ⟨u, c', h1, h2, by simpa using hi 0 E true u trivial (by simpa using h3), RepR.le (by simpa using hl) (fun i => by simpa using hi (i + 1)) h4⟩
  | [], _ :: _, c, hl, _, _ => by simp at hl
  | _ :: _, [], c, hl, _, _ => by simp at hl
theorem leT_slE {sz : Nat} {f : Bool} {l l' : List T} (hl : l.length = l'.length) (h : ∀ i, leT anyE (l.getD i .junk) (l'.getD i .junk)) : leT anyE (.sl sz f l) (.sl sz false l') := fun E cl v hp k => by
  simp only [Rep] at k ⊢
  obtain ⟨a, cap, c, h1, h2, h3, h4, h5⟩ := k
  exact ⟨a, cap, c, by rw [h1, hl], by rw [← hl]; exact h2, (fun h => by cases h), RepR.le hl h h4, h5⟩
theorem elems_shape {α : Type} (enc : α → T) (ok : α → Prop) : ∀ (l : List T), (∀ y ∈ l, ∃ v, leT anyE y (enc v) ∧ ok v) → ∃ vs : List α, vs.length = l.length ∧ (∀ i, leT anyE (l.getD i .junk) ((vs.map enc).getD i .junk)) ∧ ∀ v ∈ vs, ok v
  | [], _ => ⟨[], rfl, fun i => by simp [leT_refl], fun v hv => by simp at hv⟩
  | y :: l, h => by
    obtain ⟨v, h1, h2⟩ := h y (by simp)
    obtain ⟨vs, h3, h4, h5⟩ := elems_shape enc ok l fun z hz => h z (by simp [hz])
    refine ⟨v :: vs, by simp [h3], fun i => ?_, fun w hw => ?_⟩
    · cases i with
      | zero => simpa using h1
      | succ i => simpa using h4 i
    · rcases List.mem_cons.1 hw with rfl | hw
      · exact h2
      · exact h5 w hw
theorem sl_shape {α : Type} (enc : α → T) (ok : α → Prop) (l : List T) (h : ∀ y ∈ l, ∃ v, leT anyE y (enc v) ∧ ok v) {sz : Nat} {f : Bool} : ∃ vs : List α, leT anyE (.sl sz f l) (.sl sz false (vs.map enc)) ∧ vs.length = l.length ∧ ∀ v ∈ vs, ok v := by
  obtain ⟨vs, h1, h2, h3⟩ := elems_shape enc ok l h
  exact ⟨vs, leT_slE (by simp [h1]) h2, h1, h3⟩
theorem arr_shape {α : Type} (enc : α → T) (ok : α → Prop) : ∀ (l : List T), (∀ y ∈ l, ∃ v, y = enc v ∧ T.cells y = [y] ∧ ok v) → ∃ vs : List α, l.flatMap T.cells = vs.map enc ∧ vs.length = l.length ∧ ∀ v ∈ vs, ok v
  | [], _ => ⟨[], rfl, rfl, fun v hv => by simp at hv⟩
  | y :: l, h => by
    obtain ⟨v, rfl, hc, h2⟩ := h y (by simp)
    obtain ⟨vs, h3, h4, h5⟩ := arr_shape enc ok l fun z hz => h z (by simp [hz])
    refine ⟨v :: vs, by rw [List.flatMap_cons, hc, h3]; rfl, by simp [h4], fun w hw => ?_⟩
    rcases List.mem_cons.1 hw with rfl | hw
    · exact h2
    · exact h5 w hw
end Go.Proofs.YtdfghdppbfabfaaX

set_option linter.unusedVariables false
set_option linter.unusedSimpArgs false
namespace Go.Proofs.YtdfghdppbfabfaaX
open Go Go.RowKit Go.Proofs
set_option maxRecDepth 100000
def okT3 (v : Int) : Prop := (-9223372036854775808 : Int) ≤ v ∧ v ≤ 9223372036854775807
def okT27 (v : (Int) × (Int) × (Int) × (Int) × (Int) × (Int)) : Prop := okT3 v.1 ∧ okT3 v.2.1 ∧ okT3 v.2.2.1 ∧ okT3 v.2.2.2.1 ∧ okT3 v.2.2.2.2.1 ∧ okT3 v.2.2.2.2.2
theorem shp3 : ∀ (n : Nat) (x : T), ShapeW Try.prog n 3 x → ∃ v : Int, x = .imm (.int .i64 v) ∧ okT3 v
  | 0, x, h => h.elim
  | n + 1, x, h => by
    simp only [ShapeW, Try.underlying3] at h
    obtain ⟨i, rfl, hi⟩ := h
    exact ⟨i, rfl, wf_of hi⟩
theorem shp28 : ∀ (n : Nat) (x : T), ShapeW Try.prog n 28 x → ∃ v : (Int) × (Int) × (Int) × (Int) × (Int) × (Int), leT anyE x (.agg [.imm (.int .i64 v.1), .imm (.int .i64 v.2.1), .imm (.int .i64 v.2.2.1), .imm (.int .i64 v.2.2.2.1), .imm (.int .i64 v.2.2.2.2.1), .imm (.int .i64 v.2.2.2.2.2)]) ∧ okT27 v
  | 0, x, h => h.elim
  | n + 1, x, h => by
    simp only [ShapeW, Try.underlying28] at h
    obtain ⟨ys, rfl, hl, hf⟩ := h
    match ys, hl with
    | [y0, y1, y2, y3, y4, y5], _ =>
      have h0 := hf 0 _ y0 rfl rfl
      obtain ⟨v0, rfl, k0⟩ := shp3 n _ h0
      have h1 := hf 1 _ y1 rfl rfl
      obtain ⟨v1, rfl, k1⟩ := shp3 n _ h1
      have h2 := hf 2 _ y2 rfl rfl
      obtain ⟨v2, rfl, k2⟩ := shp3 n _ h2
      have h3 := hf 3 _ y3 rfl rfl
      obtain ⟨v3, rfl, k3⟩ := shp3 n _ h3
      have h4 := hf 4 _ y4 rfl rfl
      obtain ⟨v4, rfl, k4⟩ := shp3 n _ h4
      have h5 := hf 5 _ y5 rfl rfl
      obtain ⟨v5, rfl, k5⟩ := shp3 n _ h5
      refine ⟨(v0, v1, v2, v3, v4, v5), leT_agg ?_, k0, k1, k2, k3, k4, k5⟩
      show leL anyE [_, _, _, _, _, _] _
      exact leL_cons (leT_refl _) (leL_cons (leT_refl _) (leL_cons (leT_refl _) (leL_cons (leT_refl _) (leL_cons (leT_refl _) (leL_cons (leT_refl _) (leL_nil))))))
theorem shapedClockTells (main : ∀ (v0 : Int) (v1 : (Int) × (Int) × (Int) × (Int) × (Int) × (Int)), okT3 v0 → okT27 v1 → ∃ n, F5 n v0 v1 = some true) (xs : List T) (h : ShapesW Try.prog [3, 28] xs) : FnC Try.prog 5 xs (tb true) := by
  obtain ⟨x0, xs0, rfl, ⟨n0, h0⟩, x1, xs1, rfl, ⟨n1, h1⟩, rfl⟩ := h
  obtain ⟨v0, rfl, k0⟩ := shp3 _ _ h0
  obtain ⟨v1, e1, k1⟩ := shp28 _ _ h1
  obtain ⟨N, hN⟩ := main v0 v1 k0 k1
  exact (F5_ok N v0 v1 true hN).le (leL_cons (leT_refl _) (leL_cons (e1) (leL_nil))) (leT_refl _)

end Go.Proofs.YtdfghdppbfabfaaX

/- Plain functions with fuel: what they come to. Of no program. -/
set_option linter.unusedVariables false
set_option linter.unusedSimpArgs false
namespace Go.Proofs.YtdfghdppbfabfaaX
open Go

/-- With fuel enough the answer is this. -/
def Ev {α : Type} (f : Nat → Option α) (r : α) : Prop := ∃ N, ∀ n, N ≤ n → f n = some r
theorem Ev.pure {α : Type} {r : α} : Ev (fun _ => some r) r := ⟨0, fun _ _ => rfl⟩
theorem Ev.const {α : Type} {x : Option α} {r : α} (h : x = some r) : Ev (fun _ => x) r := ⟨0, fun _ _ => h⟩
theorem Ev.bind {α β : Type} {f : Nat → Option α} {g : Nat → α → Option β} {v : α} {r : β} (h : Ev f v) (h' : Ev (fun n => g n v) r) : Ev (fun n => (f n).bind (g n)) r := by
  obtain ⟨N, h⟩ := h
  obtain ⟨M, h'⟩ := h'
  exact ⟨max N M, fun n hn => by show (f n).bind (g n) = _; rw [h n (by omega)]; exact h' n (by omega)⟩
theorem Ev.step {α : Type} {f : Nat → Option α} {r : α} (h : Ev (fun n => f (n + 1)) r) : Ev f r := by
  obtain ⟨N, h⟩ := h
  refine ⟨N + 1, fun n hn => ?_⟩
  obtain ⟨m, rfl⟩ : ∃ m, n = m + 1 := ⟨n - 1, by omega⟩
  exact h m (by omega)
theorem Ev.congr {α : Type} {f g : Nat → Option α} {r : α} (h : Ev g r) (e : ∀ n, f n = g n) : Ev f r := by
  obtain ⟨N, h⟩ := h
  exact ⟨N, fun n hn => (e n).trans (h n hn)⟩
theorem Ev.grd {α : Type} {p : Prop} [Decidable p] {f : Nat → Option α} {r : α} (hp : p) (h : Ev f r) : Ev (fun n => grd p (f n)) r := h.congr fun n => if_pos hp
theorem Ev.ofT {α : Type} {b : Bool} {f g : Nat → Option α} {r : α} (hb : b = true) (h : Ev f r) : Ev (fun n => iteB b (f n) (g n)) r := h.congr fun n => by rw [hb]; rfl
theorem Ev.ofF {α : Type} {b : Bool} {f g : Nat → Option α} {r : α} (hb : b = false) (h : Ev g r) : Ev (fun n => iteB b (f n) (g n)) r := h.congr fun n => by rw [hb]; rfl
theorem Ev.ite {α : Type} {b : Bool} {f g : Nat → Option α} {r : α} (h1 : b = true → Ev f r) (h2 : b = false → Ev g r) : Ev (fun n => iteB b (f n) (g n)) r := by
  cases hb : b with
  | true => exact (h1 hb).congr fun n => rfl
  | false => exact (h2 hb).congr fun n => rfl
theorem iteB_t {α : Type} (x y : Option α) : iteB true x y = x := rfl
theorem iteB_f {α : Type} (x y : Option α) : iteB false x y = y := rfl
theorem grd_t {α : Type} {p : Prop} [Decidable p] (x : Option α) (h : p) : grd p x = x := if_pos h
theorem grd_True {α : Type} [Decidable True] (x : Option α) : grd True x = x := if_pos trivial
theorem bind_some' {α β : Type} (v : α) (g : α → Option β) : (some v).bind g = g v := rfl
theorem w64 {n : Int} (h : -9223372036854775808 ≤ n ∧ n ≤ 9223372036854775807) : IntKind.wrap .i64 n = n := Go.IntWalk.i64_in _ h
theorem w32 {n : Int} (h : -2147483648 ≤ n ∧ n ≤ 2147483647) : IntKind.wrap .i32 n = n := Go.IntWalk.i32_in _ h
theorem wu8 {n : Int} (h : 0 ≤ n ∧ n ≤ 255) : IntKind.wrap .u8 n = n := Go.IntWalk.u8_in _ h
theorem wu32 {n : Int} (h : 0 ≤ n ∧ n ≤ 4294967295) : IntKind.wrap .u32 n = n := Go.IntWalk.u32_in _ h
theorem wu64 {n : Int} (h : 0 ≤ n ∧ n ≤ 18446744073709551615) : IntKind.wrap .u64 n = n := Go.IntWalk.u64_in _ h
/-- Bytes as numbers. -/
theorem u8_beq (a b : UInt8) : ((a.toNat : Int) == (b.toNat : Int)) = (a == b) := by
  rw [Bool.eq_iff_iff, beq_iff_eq, beq_iff_eq]
  exact ⟨fun h => UInt8.toNat_inj.1 (by omega), fun h => by rw [h]⟩
theorem u8_lit (a : UInt8) (k : Nat) (hk : k < 256) : ((a.toNat : Int) == ((k : Nat) : Int)) = (a == UInt8.ofNat k) := by
  rw [Bool.eq_iff_iff, beq_iff_eq, beq_iff_eq]
  constructor
  · intro h
    apply UInt8.toNat_inj.1
    rw [UInt8.toNat_ofNat']
    omega
  · intro h
    subst h
    rw [UInt8.toNat_ofNat']
    omega
theorem u8_lt (a : UInt8) : (0 : Int) ≤ (a.toNat : Int) ∧ (a.toNat : Int) ≤ 255 := by
  have := a.toNat_lt; omega
theorem drop_cons {α : Type} (l : List α) (i : Nat) (d : α) (h : i < l.length) : l.drop i = l.getD i d :: l.drop (i + 1) := by
  rw [List.drop_eq_getElem_cons h, List.getD_eq_getElem?_getD, List.getElem?_eq_getElem h]; rfl
theorem toNat_nat (n : Nat) : ((n : Int)).toNat = n := rfl
end Go.Proofs.YtdfghdppbfabfaaX

/- The calendar: days, months, years. Of no program. -/
set_option linter.unusedVariables false
set_option linter.unusedSimpArgs false
namespace Go.Proofs.YtdfghdppbfabfaaX
open Go
theorem tdiv_nn {a : Int} (b : Int) (h : 0 ≤ a) : Int.tdiv a b = a / b := Int.tdiv_eq_ediv_of_nonneg h
theorem tmod_nn {a : Int} (b : Int) (h : 0 ≤ a) : Int.tmod a b = a % b := Int.tmod_eq_emod_of_nonneg h
def leapY (y : Int) : Prop := Int.tmod y 4 = 0 ∧ (Int.tmod y 100 ≠ 0 ∨ Int.tmod y 400 = 0)
instance (y : Int) : Decidable (leapY y) := by unfold leapY; exact inferInstance
def daysOf (y m : Int) : Int := if m < 1 ∨ m > 12 then 0 else if m = 2 then (if leapY y then 29 else 28) else if m = 4 ∨ m = 6 ∨ m = 9 ∨ m = 11 then 30 else 31
def aheadY (y : Int) : Int := (y - 1) * 365 + (y - 1) / 4 - (y - 1) / 100 + (y - 1) / 400
def lenY (y : Int) : Int := if leapY y then 366 else 365
theorem leap_iff {y : Int} (h : 0 ≤ y) : leapY y ↔ y % 4 = 0 ∧ (y % 100 ≠ 0 ∨ y % 400 = 0) := by
  unfold leapY
  rw [tmod_nn 4 h, tmod_nn 100 h, tmod_nn 400 h]
theorem lenY_bd (y : Int) : 365 ≤ lenY y ∧ lenY y ≤ 366 := by unfold lenY; split <;> omega
theorem ahead_succ {y : Int} (h : 1 ≤ y) : aheadY (y + 1) = aheadY y + lenY y := by
  unfold aheadY lenY
  have hi := leap_iff (show 0 ≤ y by omega)
  by_cases hl : leapY y
  · rw [if_pos hl]
    have := hi.1 hl
    omega
  · rw [if_neg hl]
    have : ¬ (y % 4 = 0 ∧ (y % 100 ≠ 0 ∨ y % 400 = 0)) := fun e => hl (hi.2 e)
    omega
theorem ahead_mono {a b : Int} (h : a ≤ b) : aheadY a ≤ aheadY b := by
  by_cases e : a = b
  · rw [e]; exact Int.le_refl _
  · unfold aheadY; omega
theorem ahead_lt {a b : Int} (h : aheadY a < aheadY b) : a < b := by
  by_cases e : a < b
  · exact e
  · have := ahead_mono (show b ≤ a by omega); omega
def cumM (y : Int) : Nat → Int
  | 0 => 0
  | n + 1 => cumM y n + daysOf y ((n : Int) + 1)
theorem days_bd (y m : Int) : 0 ≤ daysOf y m ∧ daysOf y m ≤ 31 := by
  unfold daysOf
  split
  · omega
  · split
    · split <;> omega
    · split <;> omega
theorem days_pos {y m : Int} (h : 1 ≤ daysOf y m) : 1 ≤ m ∧ m ≤ 12 := by
  by_cases e : m < 1 ∨ m > 12
  · unfold daysOf at h; rw [if_pos e] at h; omega
  · omega
theorem cum_12 (y : Int) : cumM y 12 = lenY y := by
  unfold lenY
  by_cases h : leapY y
  · simp [cumM, daysOf, h]
  · simp [cumM, daysOf, h]
theorem cum_mono (y : Int) {a b : Nat} (h : a ≤ b) : cumM y a ≤ cumM y b := by
  induction h with
  | refl => exact Int.le_refl _
  | step _ ih => have := days_bd y; rename_i m _; have := this (m + 1); rw [cumM]; omega
theorem cum_bd (y : Int) {a : Nat} (h : a ≤ 12) : 0 ≤ cumM y a ∧ cumM y a ≤ 366 := by
  have h1 := cum_mono y h
  have h2 := cum_mono y (Nat.zero_le a)
  rw [cum_12] at h1
  have := lenY_bd y
  rw [show cumM y 0 = 0 from rfl] at h2
  omega
def dayN (Y M D : Int) : Int := aheadY Y + cumM Y (M - 1).toNat + D - 1
structure IsT (N Y M D : Int) : Prop where
  y0 : 1 ≤ Y
  y1 : Y ≤ 9999
  m0 : 1 ≤ M
  m1 : M ≤ 12
  d0 : 1 ≤ D
  d1 : D ≤ daysOf Y M
  n : dayN Y M D = N
theorem month_step {Y M : Int} (h : 1 ≤ M) : cumM Y M.toNat = cumM Y (M - 1).toNat + daysOf Y M := by
  obtain ⟨i, rfl⟩ : ∃ i : Nat, M = i + 1 := ⟨(M - 1).toNat, by omega⟩
  rw [show ((i : Int) + 1).toNat = i + 1 by omega, show ((i : Int) + 1 - 1).toNat = i by omega, cumM]
theorem IsT.within {N Y M D : Int} (h : IsT N Y M D) : aheadY Y ≤ N ∧ N < aheadY (Y + 1) := by
  have hs := ahead_succ h.y0
  have hm := month_step (Y := Y) h.m0
  have hc := cum_mono Y (show M.toNat ≤ 12 by have := h.m1; omega)
  have hc0 := cum_bd Y (show (M - 1).toNat ≤ 12 by have := h.m1; omega)
  rw [cum_12] at hc
  have := h.n
  have := h.d0
  have := h.d1
  unfold dayN at *
  omega
/-- Days in order are days of years, months and days in order. -/
theorem IsT.lt {N Y M D N' Y' M' D' : Int} (h : IsT N Y M D) (h' : IsT N' Y' M' D') (hl : Y < Y' ∨ (Y = Y' ∧ (M < M' ∨ (M = M' ∧ D < D')))) : N < N' := by
  have w1 := h.within
  have w2 := h'.within
  rcases hl with hl | ⟨rfl, hl | ⟨rfl, hl⟩⟩
  · have := ahead_mono (show Y + 1 ≤ Y' by omega)
    omega
  · have e1 := h.n
    have e2 := h'.n
    have hm := month_step (Y := Y) h.m0
    have hc := cum_mono Y (show M.toNat ≤ (M' - 1).toNat by have := h.m0; omega)
    have := h.d1
    have := h'.d0
    unfold dayN at e1 e2
    omega
  · have e1 := h.n
    have e2 := h'.n
    unfold dayN at e1 e2
    omega
theorem IsT.one {N Y M D Y' M' D' : Int} (h : IsT N Y M D) (h' : IsT N Y' M' D') : Y = Y' ∧ M = M' ∧ D = D' := by
  have a : ¬ (Y < Y' ∨ (Y = Y' ∧ (M < M' ∨ (M = M' ∧ D < D')))) := fun e => Int.lt_irrefl _ (h.lt h' e)
  have b : ¬ (Y' < Y ∨ (Y' = Y ∧ (M' < M ∨ (M' = M ∧ D' < D)))) := fun e => Int.lt_irrefl _ (h'.lt h e)
  omega
theorem cum_step (Y : Int) (i : Nat) : cumM Y (i + 1) = cumM Y i + daysOf Y ((i : Int) + 1) := rfl
/-- A month and a day of it, of a day of the year. -/
theorem IsT.mk' {N Y M E x : Int} (hY : 1 ≤ Y ∧ Y ≤ 9999) (hM : 1 ≤ M ∧ M ≤ 12) (hE : 1 ≤ E ∧ E ≤ daysOf Y M) (hn : cumM Y (M - 1).toNat + E - 1 = x + cumM Y 0) (hx : x = N - aheadY Y) : IsT N Y M E := by
  rw [show cumM Y 0 = 0 from rfl] at hn
  exact ⟨hY.1, hY.2, hM.1, hM.2, hE.1, hE.2, by unfold dayN; omega⟩
def rightT (Y M D h m s : Int) : Prop := (1 ≤ Y ∧ Y ≤ 9999) ∧ (1 ≤ D ∧ D ≤ daysOf Y M) ∧ (0 ≤ h ∧ h ≤ 23) ∧ (0 ≤ m ∧ m ≤ 59) ∧ (0 ≤ s ∧ s ≤ 59)
instance (Y M D h m s : Int) : Decidable (rightT Y M D h m s) := by unfold rightT; exact inferInstance
theorem right_month {Y M D h m s : Int} (hr : rightT Y M D h m s) : 1 ≤ M ∧ M ≤ 12 := days_pos (y := Y) (by unfold rightT at hr; omega)
theorem right_IsT {Y M D h m s : Int} (hr : rightT Y M D h m s) : IsT (dayN Y M D) Y M D := by
  have hm := right_month hr
  unfold rightT at hr
  exact ⟨hr.1.1, hr.1.2, hm.1, hm.2, hr.2.1.1, hr.2.1.2, rfl⟩
theorem IsT.bd {N Y M D : Int} (h : IsT N Y M D) : 0 ≤ N ∧ N ≤ 3652058 := by
  have hw := h.within
  have h0 := ahead_mono h.y0
  have h1 := ahead_mono (show Y + 1 ≤ 10000 by have := h.y1; omega)
  rw [show aheadY 1 = 0 by decide] at h0
  rw [show aheadY 10000 = 3652059 by decide] at h1
  omega
/-- The year that the search begins with isn't too late. -/
theorem year_least (N : Int) (h0 : 0 ≤ N) (h1 : N < 3652059) : 1 ≤ N / 146097 * 400 + N % 146097 / 366 + 1 ∧ N / 146097 * 400 + N % 146097 / 366 + 1 ≤ 10000 ∧ aheadY (N / 146097 * 400 + N % 146097 / 366 + 1) ≤ N := by
  unfold aheadY
  have e : N = N / 146097 * 146097 + N % 146097 := by omega
  have hq0 : 0 ≤ N / 146097 := by omega
  have hq1 : N / 146097 ≤ 24 := by omega
  have hr0 : 0 ≤ N % 146097 := by omega
  have hr1 : N % 146097 < 146097 := by omega
  generalize N / 146097 = q at *
  generalize N % 146097 = r at *
  have hy0 : 366 * (r / 366) ≤ r := by omega
  have hy1 : r / 366 ≤ 399 := by omega
  have hy2 : 0 ≤ r / 366 := by omega
  generalize r / 366 = y at *
  refine ⟨by omega, by omega, ?_⟩
  omega
theorem tdm (sec : Int) : (Int.tmod sec 86400 < 0 ∧ Int.tdiv sec 86400 - 1 = sec / 86400 ∧ Int.tmod sec 86400 + 86400 = sec % 86400) ∨ (0 ≤ Int.tmod sec 86400 ∧ Int.tdiv sec 86400 = sec / 86400 ∧ Int.tmod sec 86400 = sec % 86400) := by
  by_cases h : 0 ≤ sec
  · right
    rw [tdiv_nn 86400 h, tmod_nn 86400 h]
    omega
  · have e1 : Int.tdiv sec 86400 = -((-sec) / 86400) := by
      rw [← tdiv_nn 86400 (show 0 ≤ -sec by omega), Int.neg_tdiv, Int.neg_neg]
    have e2 : Int.tmod sec 86400 = -((-sec) % 86400) := by
      rw [← tmod_nn 86400 (show 0 ≤ -sec by omega), Int.neg_tmod, Int.neg_neg]
    rw [e1, e2]
    omega

/-- A time: year, month, day, hour, minute, second. -/
abbrev Tm := Int × Int × Int × Int × Int × Int
def rT (t : Tm) : Prop := rightT t.1 t.2.1 t.2.2.1 t.2.2.2.1 t.2.2.2.2.1 t.2.2.2.2.2
instance (t : Tm) : Decidable (rT t) := by unfold rT; exact inferInstance
end Go.Proofs.YtdfghdppbfabfaaX

/- The calendar: the program's functions and the reference's. -/
set_option linter.unusedVariables false
set_option linter.unusedSimpArgs false
namespace Go.Proofs.YtdfghdppbfabfaaX
open Go

theorem beqI0 (a b : Int) : (a == b) = decide (a = b) := rfl
theorem leapF (y : Int) : F25 0 y = some (decide (leapY y)) := by
  unfold F25 leapY
  by_cases h1 : Int.tmod y 4 = 0 <;> by_cases h2 : Int.tmod y 100 = 0 <;> by_cases h3 : Int.tmod y 400 = 0 <;> simp [bne, beqI0, h1, h2, h3, iteB]
theorem Leap_eq (n : Nat) (y : Int) : F25 n y = some (decide (leapY y)) := leapF y
theorem rLeap_eq (n : Nat) (y : Int) : F26 n y = some (decide (leapY y)) := leapF y
theorem length_eq (n : Nat) (y : Int) : F51 n y = some (lenY y) := by
  unfold F51 lenY
  rw [rLeap_eq, bind_some']
  by_cases h : leapY y <;> simp [h, iteB]
theorem mlist (i : Nat) (h : i < 12) : ([(31 : Int), 28, 31, 30, 31, 30, 31, 31, 30, 31, 30, 31] : List Int).getD i default = if i = 1 then 28 else if i = 3 ∨ i = 5 ∨ i = 8 ∨ i = 10 then 30 else 31 := by
  have : ∀ i : Fin 12, ([(31 : Int), 28, 31, 30, 31, 30, 31, 31, 30, 31, 30, 31] : List Int).getD i.val default = if i.val = 1 then 28 else if i.val = 3 ∨ i.val = 5 ∨ i.val = 8 ∨ i.val = 10 then 30 else 31 := by decide
  exact this ⟨i, h⟩
theorem Days_eq (n : Nat) (y m : Int) : F27 n y m = some (daysOf y m) := by
  unfold F27 daysOf
  by_cases h1 : m < 1
  · rw [decide_eq_true h1, iteB_t, if_pos (.inl h1)]
  rw [decide_eq_false h1, iteB_f]
  by_cases h2 : 12 < m
  · rw [decide_eq_true h2, iteB_t, if_pos (.inr h2)]
  rw [decide_eq_false h2, iteB_f, if_neg (by omega)]
  obtain ⟨i, rfl⟩ : ∃ i : Nat, m = i + 1 := ⟨(m - 1).toNat, by omega⟩
  have hw : IntKind.wrap .i64 ((i : Int) + 1 - 1) = (i : Int) := by rw [w64 (by omega)]; omega
  have hg : (0 ≤ (i : Int) ∧ (i : Int) < 12 ∧ i < ([(31 : Int), 28, 31, 30, 31, 30, 31, 31, 30, 31, 30, 31] : List Int).length) := ⟨by omega, by omega, by simp only [List.length_cons, List.length_nil]; omega⟩
  simp only [F54, bind_some', hw, toNat_nat, mlist i (by omega)]
  by_cases h3 : (i : Int) + 1 = 2
  · obtain rfl : i = 1 := by omega
    rw [show (((1 : Nat) : Int) + 1 == 2) = true from rfl, iteB_t, Leap_eq, bind_some', if_pos (by omega)]
    by_cases h : leapY y
    · rw [decide_eq_true h, iteB_t, grd_t _ hg, if_pos h]; rfl
    · rw [decide_eq_false h, iteB_f, grd_t _ hg, if_neg h]; rfl
  · rw [show ((i : Int) + 1 == 2) = false by rw [beq_eq_false_iff_ne]; exact h3, iteB_f, grd_t _ hg, if_neg h3]
    by_cases h4 : i = 3 ∨ i = 5 ∨ i = 8 ∨ i = 10
    · rw [if_neg (by omega), if_pos h4, if_pos (by omega)]
    · rw [if_neg (by omega), if_neg h4, if_neg (by omega)]
theorem beqI (a b : Int) : (a == b) = decide (a = b) := rfl
theorem rDays_eq (n : Nat) (y m : Int) : F28 n y m = some (daysOf y m) := by
  unfold F28 F28_J1 F28_J2 daysOf
  simp only [rLeap_eq, bind_some', beqI]
  by_cases hr : m < 1 ∨ m > 12
  · rw [if_pos hr]
    have q : ∀ k : Int, 1 ≤ k → k ≤ 12 → decide (m = k) = false := fun k h1 h2 => decide_eq_false (by omega)
    simp only [q 1 (by omega) (by omega), q 2 (by omega) (by omega), q 3 (by omega) (by omega), q 4 (by omega) (by omega), q 5 (by omega) (by omega), q 6 (by omega) (by omega), q 7 (by omega) (by omega), q 8 (by omega) (by omega), q 9 (by omega) (by omega), q 10 (by omega) (by omega), q 11 (by omega) (by omega), q 12 (by omega) (by omega), iteB_f]
  · rw [if_neg hr]
    obtain h | h | h | h | h | h | h | h | h | h | h | h : m = 1 ∨ m = 2 ∨ m = 3 ∨ m = 4 ∨ m = 5 ∨ m = 6 ∨ m = 7 ∨ m = 8 ∨ m = 9 ∨ m = 10 ∨ m = 11 ∨ m = 12 := by omega
    all_goals subst h
    all_goals first
      | rfl
      | (by_cases h : leapY y
         · simp [h, iteB]
         · simp [h, iteB])
theorem ahead_eq (n : Nat) {y : Int} (h : 1 ≤ y) (h2 : y ≤ 100000) : F45 n y = some (aheadY y) := by
  unfold F45 aheadY
  rw [w64 (n := y - 1) (by omega), w64 (n := (y - 1) * 365) (by omega), tdiv_nn 4 (by omega), tdiv_nn 100 (by omega), tdiv_nn 400 (by omega), w64 (n := (y - 1) / 4) (by omega), w64 (n := (y - 1) / 100) (by omega), w64 (n := (y - 1) / 400) (by omega)]
  rw [w64 (n := (y - 1) * 365 + (y - 1) / 4) (by omega), w64 (n := (y - 1) * 365 + (y - 1) / 4 - (y - 1) / 100) (by omega), w64 (by omega)]
theorem in_eq (n : Nat) (a b c : Int) : F66 n a b c = some (decide (b ≤ a ∧ a ≤ c)) := by
  unfold F66
  by_cases h : b ≤ a
  · rw [decide_eq_true h, iteB_t]; congr 1; simp [h]
  · rw [decide_eq_false h, iteB_f]; congr 1; symm; rw [decide_eq_false_iff_not]; omega
theorem rin_eq (n : Nat) (a b c : Int) : F68 n a b c = some (decide (b ≤ a ∧ a ≤ c)) := in_eq n a b c
theorem right_eq (n : Nat) (t : Tm) : F46 n t = some (decide (rT t)) := by
  obtain ⟨Y, M, D, h, m, s⟩ := t
  unfold F46 rT rightT
  simp only [in_eq, Days_eq, bind_some']
  by_cases h1 : 1 ≤ Y ∧ Y ≤ 9999 <;> by_cases h2 : 1 ≤ D ∧ D ≤ daysOf Y M <;> by_cases h3 : 0 ≤ h ∧ h ≤ 23 <;> by_cases h4 : 0 ≤ m ∧ m ≤ 59 <;> simp [h1, h2, h3, h4, iteB]
theorem rRight_eq (n : Nat) (t : Tm) : F52 n t = some (decide (rT t)) := by
  obtain ⟨Y, M, D, h, m, s⟩ := t
  have hp := @days_pos Y M
  unfold F52 rT rightT
  simp only [rin_eq, rDays_eq, bind_some']
  by_cases h0 : 1 ≤ M ∧ M ≤ 12
  · by_cases h1 : 1 ≤ Y ∧ Y ≤ 9999 <;> by_cases h2 : 1 ≤ D ∧ D ≤ daysOf Y M <;> by_cases h3 : 0 ≤ h ∧ h ≤ 23 <;> by_cases h4 : 0 ≤ m ∧ m ≤ 59 <;> simp [h0, h1, h2, h3, h4, iteB]
  · have hn : ¬ (1 ≤ D ∧ D ≤ daysOf Y M) := fun e => h0 (hp (by omega))
    by_cases h1 : 1 ≤ Y ∧ Y ≤ 9999 <;> simp [h0, h1, hn, iteB]
theorem ev_day_loop (t : Tm) (j : Nat) (hj : j ≤ 11) (hM : t.2.1 = (j : Int) + 1) : ∀ (d i : Nat) (x : Int), i + d = j → -1000000000 ≤ x → x ≤ 1000000000 + 31 * i →
    Ev (fun k => F47_L1 k t x ((i : Int) + 1)) (x + cumM t.1 j - cumM t.1 i) := by
  intro d
  induction d with
  | zero =>
    intro i x hi h0 h1
    obtain rfl : i = j := by omega
    refine Ev.step (Ev.pure.congr fun k => ?_)
    rw [F47_L1, decide_eq_false (by omega), iteB_f]
    congr 1; omega
  | succ d ih =>
    intro i x hi h0 h1
    have hb := days_bd t.1 ((i : Int) + 1)
    have e := ih (i + 1) (x + daysOf t.1 ((i : Int) + 1)) (by omega) (by omega) (by omega)
    rw [cumM] at e
    rw [show x + cumM t.1 j - cumM t.1 i = x + daysOf t.1 (↑i + 1) + cumM t.1 j - (cumM t.1 i + daysOf t.1 (↑i + 1)) by omega]
    refine Ev.step (e.congr fun k => ?_)
    rw [F47_L1, decide_eq_true (by omega), iteB_t, Days_eq, bind_some', w64 (n := x + daysOf t.1 ((i : Int) + 1)) (by omega), w64 (n := (i : Int) + 1 + 1) (by omega)]
    rfl
theorem ev_day {t : Tm} (hY : 1 ≤ t.1 ∧ t.1 ≤ 9999) (hM : 1 ≤ t.2.1 ∧ t.2.1 ≤ 12) (hD : 0 ≤ t.2.2.1 ∧ t.2.2.1 ≤ 1000) : Ev (fun k => F47 k t) (dayN t.1 t.2.1 t.2.2.1) := by
  have ha0 := ahead_mono hY.1
  have ha1 := ahead_mono hY.2
  rw [show aheadY 1 = 0 by decide] at ha0
  rw [show aheadY 9999 = 3651694 by decide] at ha1
  obtain ⟨j, hj⟩ : ∃ j : Nat, t.2.1 = j + 1 := ⟨(t.2.1 - 1).toNat, by omega⟩
  have e := ev_day_loop t j (by omega) hj j 0 (aheadY t.1 + t.2.2.1 - 1) (by omega) (by omega) (by omega)
  rw [show ((0 : Nat) : Int) + 1 = 1 by rfl, show cumM t.1 0 = 0 from rfl] at e
  unfold dayN
  rw [hj, show ((j : Int) + 1 - 1).toNat = j by omega, show aheadY t.1 + cumM t.1 j + t.2.2.1 - 1 = aheadY t.1 + t.2.2.1 - 1 + cumM t.1 j - 0 by omega]
  refine e.congr fun k => ?_
  rw [F47, ahead_eq k hY.1 (by omega), bind_some', w64 (n := aheadY t.1 + t.2.2.1) (by omega), w64 (n := aheadY t.1 + t.2.2.1 - 1) (by omega)]
theorem right_month' {t : Tm} (hr : rT t) : 1 ≤ t.2.1 ∧ t.2.1 ≤ 12 := right_month hr
def secT (t : Tm) : Int := (dayN t.1 t.2.1 t.2.2.1 - 719162) * 86400 + t.2.2.2.1 * 3600 + t.2.2.2.2.1 * 60 + t.2.2.2.2.2
def secR (t : Tm) : Int × Bool := if rT t then (secT t, true) else (0, false)
def weekT (t : Tm) : Int := if rT t then (dayN t.1 t.2.1 t.2.2.1 + 1) % 7 else -1
theorem tm_eta (t : Tm) : (t.1, t.2.1, t.2.2.1, t.2.2.2.1, t.2.2.2.2.1, t.2.2.2.2.2) = t := rfl
theorem rT_bd {t : Tm} (hr : rT t) : (1 ≤ t.1 ∧ t.1 ≤ 9999) ∧ (1 ≤ t.2.2.1 ∧ t.2.2.1 ≤ 31) ∧ (0 ≤ t.2.2.2.1 ∧ t.2.2.2.1 ≤ 23) ∧ (0 ≤ t.2.2.2.2.1 ∧ t.2.2.2.2.1 ≤ 59) ∧ (0 ≤ t.2.2.2.2.2 ∧ t.2.2.2.2.2 ≤ 59) ∧ (0 ≤ dayN t.1 t.2.1 t.2.2.1 ∧ dayN t.1 t.2.1 t.2.2.1 ≤ 3652058) := by
  have hb := (right_IsT hr).bd
  have hd := days_bd t.1 t.2.1
  unfold rT rightT at hr
  omega
theorem ev_Seconds (t : Tm) : Ev (fun k => F18 k t) (secR t) := by
  unfold secR
  by_cases hr : rT t
  · rw [if_pos hr]
    obtain ⟨h1, h2, h3, h4, h5, h6⟩ := rT_bd hr
    have hd := ev_day h1 (right_month' hr) (by omega)
    refine Ev.congr (Ev.bind (g := fun k v => some (IntKind.wrap .i64 (IntKind.wrap .i64 (IntKind.wrap .i64 (IntKind.wrap .i64 (IntKind.wrap .i64 (v - 719162) * 86400) + IntKind.wrap .i64 (t.2.2.2.1 * 3600)) + IntKind.wrap .i64 (t.2.2.2.2.1 * 60)) + t.2.2.2.2.2), true)) hd (r := (secT t, true)) (Ev.const ?_)) fun k => ?_
    · unfold secT
      generalize dayN t.1 t.2.1 t.2.2.1 = N at *
      rw [w64 (n := N - 719162) (by omega), w64 (n := (N - 719162) * 86400) (by omega), w64 (n := t.2.2.2.1 * 3600) (by omega), w64 (n := t.2.2.2.2.1 * 60) (by omega), w64 (n := (N - 719162) * 86400 + t.2.2.2.1 * 3600) (by omega), w64 (n := (N - 719162) * 86400 + t.2.2.2.1 * 3600 + t.2.2.2.2.1 * 60) (by omega), w64 (n := (N - 719162) * 86400 + t.2.2.2.1 * 3600 + t.2.2.2.2.1 * 60 + t.2.2.2.2.2) (by omega)]
    · rw [F18, tm_eta, right_eq, bind_some', decide_eq_true hr]; rfl
  · rw [if_neg hr]
    refine Ev.pure.congr fun k => ?_
    rw [F18, tm_eta, right_eq, bind_some', decide_eq_false hr]; rfl
theorem ev_Weekday (t : Tm) : Ev (fun k => F14 k t) (weekT t) := by
  unfold weekT
  by_cases hr : rT t
  · rw [if_pos hr]
    obtain ⟨h1, h2, h3, h4, h5, h6⟩ := rT_bd hr
    have hd := ev_day h1 (right_month' hr) (by omega)
    refine Ev.congr (Ev.bind (g := fun k v => some ((IntKind.wrap .i64 (v + 1)).tmod 7)) hd (Ev.const ?_)) fun k => ?_
    · rw [w64 (by omega), tmod_nn 7 (by omega)]
    · rw [F14, tm_eta, right_eq, bind_some', decide_eq_true hr]; rfl
  · rw [if_neg hr]
    refine Ev.pure.congr fun k => ?_
    rw [F14, tm_eta, right_eq, bind_some', decide_eq_false hr]; rfl
end Go.Proofs.YtdfghdppbfabfaaX

/- The time of any seconds, and the seconds of any time: the program's and the reference's. -/
set_option linter.unusedVariables false
set_option linter.unusedSimpArgs false
namespace Go.Proofs.YtdfghdppbfabfaaX
open Go

theorem ev_Of_month (Y Y' D h m s : Int) (hY : 1 ≤ Y) : ∀ (d i : Nat) (x : Int), i + d = 12 → 0 ≤ x → x + cumM Y i < lenY Y →
    ∃ M E : Int, (1 ≤ M ∧ M ≤ 12) ∧ (1 ≤ E ∧ E ≤ daysOf Y M) ∧ cumM Y (M - 1).toNat + E - 1 = x + cumM Y i ∧
      Ev (fun k => F13_L3 k Y x Y' ((i : Int) + 1) D h m s) ((Y', M, E, h, m, s), true) ∧
      (Y' = Y → Ev (fun k => F17_L4 k x Y ((i : Int) + 1) D h m s) ((Y', M, E, h, m, s), true)) := by
  intro d
  induction d with
  | zero =>
    intro i x hi h0 h1
    obtain rfl : i = 12 := by omega
    rw [cum_12] at h1
    omega
  | succ d ih =>
    intro i x hi h0 h1
    have hb := days_bd Y ((i : Int) + 1)
    have hl := lenY_bd Y
    have hc := cum_bd Y (show i ≤ 12 by omega)
    by_cases hx : daysOf Y ((i : Int) + 1) ≤ x
    · obtain ⟨M, E, hM, hE, hn, e, e'⟩ := ih (i + 1) (x - daysOf Y ((i : Int) + 1)) (by omega) (by omega) (by rw [cum_step]; omega)
      refine ⟨M, E, hM, hE, by rw [hn, cum_step]; omega, ?_, fun hyy => ?_⟩
      · refine Ev.step (e.congr fun k => ?_)
        rw [F13_L3, Days_eq, bind_some', decide_eq_true hx, iteB_t, bind_some', w64 (n := x - daysOf Y ((i : Int) + 1)) (by omega), w64 (n := (i : Int) + 1 + 1) (by omega)]; rfl
      · refine Ev.step ((e' hyy).congr fun k => ?_)
        rw [F17_L4, rDays_eq, bind_some', decide_eq_true hx, iteB_t, bind_some', w64 (n := x - daysOf Y ((i : Int) + 1)) (by omega), w64 (n := (i : Int) + 1 + 1) (by omega)]; rfl
    · refine ⟨(i : Int) + 1, x + 1, by omega, by omega, ?_, ?_, fun hyy => ?_⟩
      · rw [show ((i : Int) + 1 - 1).toNat = i by omega]; omega
      · refine Ev.step (Ev.pure.congr fun k => ?_)
        rw [F13_L3, Days_eq, bind_some', decide_eq_false hx, iteB_f, w64 (n := x + 1) (by omega)]
      · refine Ev.step (Ev.pure.congr fun k => ?_)
        rw [F17_L4, rDays_eq, bind_some', decide_eq_false hx, iteB_f, w64 (n := x + 1) (by omega), hyy]
theorem ev_Of_year (q rest : Int) (h0 : 0 ≤ q + 719162) (h1 : q + 719162 < 3652059) (hr : 0 ≤ rest ∧ rest < 86400) : ∀ (d : Nat) (Y : Int), Y + d = 10000 → 1 ≤ Y → aheadY Y ≤ q + 719162 →
    ∃ Z M E : Int, IsT (q + 719162) Z M E ∧ Ev (fun k => F13_L2 k q rest Y) ((Z, M, E, rest / 3600, rest % 3600 / 60, rest % 60), true) := by
  intro d
  have hw : IntKind.wrap .i64 (q + 719162) = q + 719162 := w64 (by omega)
  induction d with
  | zero =>
    intro Y hd hY ha
    obtain rfl : Y = 10000 := by omega
    rw [show aheadY 10000 = 3652059 by decide] at ha
    omega
  | succ d ih =>
    intro Y hd hY ha
    have hs := ahead_succ hY
    by_cases hn : aheadY (Y + 1) ≤ q + 719162
    · obtain ⟨Z, M, E, hi, e⟩ := ih (Y + 1) (by omega) (by omega) hn
      refine ⟨Z, M, E, hi, Ev.step (e.congr fun k => ?_)⟩
      rw [F13_L2, w64 (n := Y + 1) (by omega), ahead_eq k (by omega) (by omega), bind_some', hw, decide_eq_true hn, iteB_t]
    · obtain ⟨M, E, hM, hE, hm, e, _⟩ := ev_Of_month Y Y 0 (rest / 3600) (rest % 3600 / 60) (rest % 60) hY 12 0 (q + 719162 - aheadY Y) (by omega) (by omega) (by rw [show cumM Y 0 = 0 from rfl]; omega)
      refine ⟨Y, M, E, IsT.mk' ⟨hY, by omega⟩ hM hE hm rfl, ?_⟩
      have hq := ahead_mono hY
      rw [show aheadY 1 = 0 by decide] at hq
      refine Ev.step (e.congr fun k => ?_)
      rw [F13_L2, w64 (n := Y + 1) (by omega), ahead_eq k (by omega) (by omega), bind_some', hw, decide_eq_false hn, iteB_f, ahead_eq k (by omega) (by omega), bind_some', w64 (n := q + 719162 - aheadY Y) (by omega), tdiv_nn 3600 (by omega), tmod_nn 3600 (by omega), tmod_nn 60 (by omega), tdiv_nn 60 (by omega), w64 (n := rest / 3600) (by omega), w64 (n := rest % 3600 / 60) (by omega)]
      rfl
def ofS (sec : Int) (t : Tm × Bool) : Prop :=
  if -62135596800 ≤ sec ∧ sec ≤ 253402300799 then ∃ Y M D : Int, IsT (sec / 86400 + 719162) Y M D ∧ t = ((Y, M, D, sec % 86400 / 3600, sec % 86400 % 3600 / 60, sec % 86400 % 60), true)
  else t = ((0, 0, 0, 0, 0, 0), false)
theorem ofS_one {sec : Int} {t u : Tm × Bool} (h : ofS sec t) (k : ofS sec u) : t = u := by
  unfold ofS at h k
  split at h
  · rename_i hb
    rw [if_pos hb] at k
    obtain ⟨Y, M, D, h1, rfl⟩ := h
    obtain ⟨Y', M', D', h2, rfl⟩ := k
    obtain ⟨rfl, rfl, rfl⟩ := h1.one h2
    rfl
  · rename_i hb
    rw [if_neg hb] at k
    rw [h, k]
theorem ev_Of_j (q rest sec : Int) (hq : q = sec / 86400) (hr : rest = sec % 86400) (hw : -9223372036854775808 ≤ sec ∧ sec ≤ 9223372036854775807) : ∃ t, ofS sec t ∧ Ev (fun k => F13_J1 k q rest) t := by
  unfold ofS
  have ha : ∀ k, F45 k 10000 = some 3652059 := fun k => by rw [ahead_eq k (by omega) (by omega)]; rfl
  have hv : IntKind.wrap .i64 (3652059 - 719162) = 2932897 := w64 (by omega)
  by_cases hb : -62135596800 ≤ sec ∧ sec ≤ 253402300799
  · obtain ⟨l0, l1, l2⟩ := year_least (q + 719162) (by omega) (by omega)
    obtain ⟨Y, M, E, hi, e⟩ := ev_Of_year q rest (by omega) (by omega) (by omega) (10000 - ((q + 719162) / 146097 * 400 + (q + 719162) % 146097 / 366 + 1)).toNat _ (by omega) l0 l2
    refine ⟨_, by rw [if_pos hb]; exact ⟨Y, M, E, by rw [← hq]; exact hi, by rw [← hr]⟩, ?_⟩
    refine e.congr fun k => ?_
    rw [F13_J1, decide_eq_false (by omega), iteB_f, ha, bind_some', hv, decide_eq_false (by omega), iteB_f, w64 (n := q + 719162) (by omega), tdiv_nn 146097 (by omega), tmod_nn 146097 (by omega), tdiv_nn 366 (by omega), w64 (n := (q + 719162) / 146097) (by omega), w64 (n := (q + 719162) / 146097 * 400) (by omega), w64 (n := (q + 719162) % 146097 / 366) (by omega), w64 (n := (q + 719162) / 146097 * 400 + (q + 719162) % 146097 / 366) (by omega), w64 (n := (q + 719162) / 146097 * 400 + (q + 719162) % 146097 / 366 + 1) (by omega)]
  · refine ⟨_, by rw [if_neg hb], ?_⟩
    refine Ev.pure.congr fun k => ?_
    rw [F13_J1]
    by_cases hn : q < -719162
    · rw [decide_eq_true hn, iteB_t]
    · rw [decide_eq_false hn, iteB_f, ha, bind_some', hv, decide_eq_true (by omega), iteB_t]
theorem ev_Of (sec : Int) (hw : -9223372036854775808 ≤ sec ∧ sec ≤ 9223372036854775807) : ∃ t, ofS sec t ∧ Ev (fun k => F13 k sec) t := by
  rcases tdm sec with ⟨h1, h2, h3⟩ | ⟨h1, h2, h3⟩
  · obtain ⟨t, ht, e⟩ := ev_Of_j (Int.tdiv sec 86400 - 1) (Int.tmod sec 86400 + 86400) sec h2 h3 hw
    refine ⟨t, ht, e.congr fun k => ?_⟩
    rw [F13, decide_eq_true h1, iteB_t, w64 (n := Int.tdiv sec 86400) (by omega), w64 (n := Int.tdiv sec 86400 - 1) (by omega), w64 (n := Int.tmod sec 86400 + 86400) (by omega)]
  · obtain ⟨t, ht, e⟩ := ev_Of_j (Int.tdiv sec 86400) (Int.tmod sec 86400) sec h2 h3 hw
    refine ⟨t, ht, e.congr fun k => ?_⟩
    rw [F13, decide_eq_false (by omega), iteB_f, w64 (n := Int.tdiv sec 86400) (by omega)]
/-! ### The reference's -/
theorem ev_rOf_up (N h m s : Int) (h0 : 0 ≤ N) (h1 : N < 3652059) : ∀ (d : Nat) (Y : Int), Y + d = 10000 → 1 ≤ Y → aheadY Y ≤ N →
    ∃ Z M E : Int, IsT N Z M E ∧ Ev (fun k => F17_L3 k (N - aheadY Y) Y 1 1 h m s) ((Z, M, E, h, m, s), true) := by
  intro d
  induction d with
  | zero =>
    intro Y hd hY ha
    obtain rfl : Y = 10000 := by omega
    rw [show aheadY 10000 = 3652059 by decide] at ha
    omega
  | succ d ih =>
    intro Y hd hY ha
    have hs := ahead_succ hY
    have hq := ahead_mono hY
    rw [show aheadY 1 = 0 by decide] at hq
    have hl := lenY_bd Y
    by_cases hn : lenY Y ≤ N - aheadY Y
    · obtain ⟨Z, M, E, hi, e⟩ := ih (Y + 1) (by omega) (by omega) (by omega)
      refine ⟨Z, M, E, hi, Ev.step (e.congr fun k => ?_)⟩
      rw [F17_L3, length_eq, bind_some', decide_eq_true hn, iteB_t, bind_some', w64 (n := N - aheadY Y - lenY Y) (by omega), w64 (n := Y + 1) (by omega), hs]
      congr 1; omega
    · obtain ⟨M, E, hM, hE, hm, _, e⟩ := ev_Of_month Y Y 1 h m s hY 12 0 (N - aheadY Y) (by omega) (by omega) (by rw [show cumM Y 0 = 0 from rfl]; omega)
      refine ⟨Y, M, E, IsT.mk' ⟨hY, by omega⟩ hM hE hm rfl, Ev.step ((e rfl).congr fun k => ?_)⟩
      rw [F17_L3, length_eq, bind_some', decide_eq_false hn, iteB_f]; rfl
theorem ev_rOf_down (N h m s : Int) (h0 : 0 ≤ N) (h1 : N < 3652059) : ∀ (d : Nat) (Y : Int), Y = d + 1 → Y ≤ 1970 →
    ∃ Z M E : Int, IsT N Z M E ∧ Ev (fun k => F17_L2 k (N - aheadY Y) Y 1 1 h m s) ((Z, M, E, h, m, s), true) := by
  intro d
  induction d with
  | zero =>
    intro Y hY hb
    obtain rfl : Y = 1 := by omega
    obtain ⟨Z, M, E, hi, e⟩ := ev_rOf_up N h m s h0 h1 9999 1 (by omega) (by omega) (by rw [show aheadY 1 = 0 by decide]; omega)
    refine ⟨Z, M, E, hi, Ev.step (e.congr fun k => ?_)⟩
    rw [F17_L2, decide_eq_false (by rw [show aheadY 1 = 0 by decide]; omega), iteB_f]
  | succ d ih =>
    intro Y hY hb
    have hs := ahead_succ (y := Y - 1) (by omega)
    rw [show Y - 1 + 1 = Y by omega] at hs
    have hl := lenY_bd (Y - 1)
    have hq := ahead_mono (show (1 : Int) ≤ Y by omega)
    have hq2 := ahead_mono hb
    rw [show aheadY 1 = 0 by decide] at hq
    rw [show aheadY 1970 = 719162 by decide] at hq2
    by_cases hn : N - aheadY Y < 0
    · obtain ⟨Z, M, E, hi, e⟩ := ih (Y - 1) (by omega) (by omega)
      refine ⟨Z, M, E, hi, Ev.step (e.congr fun k => ?_)⟩
      rw [F17_L2, decide_eq_true hn, iteB_t, w64 (n := Y - 1) (by omega), length_eq, bind_some', w64 (n := N - aheadY Y + lenY (Y - 1)) (by omega)]
      congr 1; omega
    · obtain ⟨Z, M, E, hi, e⟩ := ev_rOf_up N h m s h0 h1 (10000 - Y).toNat Y (by omega) (by omega) (by omega)
      refine ⟨Z, M, E, hi, Ev.step (e.congr fun k => ?_)⟩
      rw [F17_L2, decide_eq_false hn, iteB_f]
theorem ev_rOf_j (q rest sec : Int) (hq : q = sec / 86400) (hr : rest = sec % 86400) (hb : -62135596800 ≤ sec ∧ sec ≤ 253402300799) : ∃ t, ofS sec t ∧ Ev (fun k => F17_J1 k q rest) t := by
  unfold ofS
  obtain ⟨Y, M, E, hi, e⟩ := ev_rOf_down (q + 719162) (rest / 3600) (rest / 60 % 60) (rest % 60) (by omega) (by omega) 1969 1970 (by omega) (by omega)
  rw [show aheadY 1970 = 719162 by decide] at e
  refine ⟨_, by rw [if_pos hb]; exact ⟨Y, M, E, by rw [← hq]; exact hi, by rw [← hr]⟩, ?_⟩
  rw [show rest % 3600 / 60 = rest / 60 % 60 by omega]
  refine e.congr fun k => ?_
  rw [F17_J1, tdiv_nn 3600 (by omega), tdiv_nn 60 (by omega), w64 (n := rest / 3600) (by omega), w64 (n := rest / 60) (by omega), tmod_nn 60 (by omega), tmod_nn 60 (by omega)]
  congr 1; omega
theorem ev_rOf (sec : Int) (hw : -9223372036854775808 ≤ sec ∧ sec ≤ 9223372036854775807) : ∃ t, ofS sec t ∧ Ev (fun k => F17 k sec) t := by
  by_cases hb : -62135596800 ≤ sec ∧ sec ≤ 253402300799
  · rcases tdm sec with ⟨h1, h2, h3⟩ | ⟨h1, h2, h3⟩
    · obtain ⟨t, ht, e⟩ := ev_rOf_j (Int.tdiv sec 86400 - 1) (Int.tmod sec 86400 + 86400) sec h2 h3 hb
      refine ⟨t, ht, e.congr fun k => ?_⟩
      rw [F17, decide_eq_false (by omega), iteB_f, decide_eq_false (by omega), iteB_f, decide_eq_true h1, iteB_t, w64 (n := Int.tdiv sec 86400) (by omega), w64 (n := Int.tdiv sec 86400 - 1) (by omega), w64 (n := Int.tmod sec 86400 + 86400) (by omega)]
    · obtain ⟨t, ht, e⟩ := ev_rOf_j (Int.tdiv sec 86400) (Int.tmod sec 86400) sec h2 h3 hb
      refine ⟨t, ht, e.congr fun k => ?_⟩
      rw [F17, decide_eq_false (by omega), iteB_f, decide_eq_false (by omega), iteB_f, decide_eq_false (by omega), iteB_f, w64 (n := Int.tdiv sec 86400) (by omega)]
  · refine ⟨_, by unfold ofS; rw [if_neg hb], Ev.pure.congr fun k => ?_⟩
    rw [F17]
    by_cases h1 : sec < -62135596800
    · rw [decide_eq_true h1, iteB_t]
    · rw [decide_eq_false h1, iteB_f, decide_eq_true (by omega), iteB_t]
/-! ### Seconds -/
theorem ev_rS3 (t : Tm) (hr : rT t) (j : Nat) (hj : j ≤ 11) (hM : t.2.1 = (j : Int) + 1) : ∀ (d i : Nat) (x : Int), i + d = j → -10000000 ≤ x → x ≤ 10000000 + 31 * i →
    Ev (fun k => F19_L3 k t x ((i : Int) + 1)) ((x + cumM t.1 j - cumM t.1 i) * 86400 + t.2.2.2.1 * 3600 + t.2.2.2.2.1 * 60 + t.2.2.2.2.2, true) := by
  intro d
  obtain ⟨h1, h2, h3, h4, h5, h6⟩ := rT_bd hr
  induction d with
  | zero =>
    intro i x hi h0 hx
    obtain rfl : i = j := by omega
    refine Ev.step (Ev.pure.congr fun k => ?_)
    rw [F19_L3, decide_eq_false (by omega), iteB_f, w64 (n := x * 86400) (by omega), w64 (n := t.2.2.2.1 * 3600) (by omega), w64 (n := t.2.2.2.2.1 * 60) (by omega), w64 (n := x * 86400 + t.2.2.2.1 * 3600) (by omega), w64 (n := x * 86400 + t.2.2.2.1 * 3600 + t.2.2.2.2.1 * 60) (by omega), w64 (n := x * 86400 + t.2.2.2.1 * 3600 + t.2.2.2.2.1 * 60 + t.2.2.2.2.2) (by omega)]
    rw [show x + cumM t.1 i - cumM t.1 i = x by omega]
  | succ d ih =>
    intro i x hi h0 hx
    have hb := days_bd t.1 ((i : Int) + 1)
    have e := ih (i + 1) (x + daysOf t.1 ((i : Int) + 1)) (by omega) (by omega) (by omega)
    rw [cumM] at e
    rw [show x + cumM t.1 j - cumM t.1 i = x + daysOf t.1 (↑i + 1) + cumM t.1 j - (cumM t.1 i + daysOf t.1 (↑i + 1)) by omega]
    refine Ev.step (e.congr fun k => ?_)
    rw [F19_L3, decide_eq_true (by omega), iteB_t, rDays_eq, bind_some', w64 (n := x + daysOf t.1 ((i : Int) + 1)) (by omega), w64 (n := (i : Int) + 1 + 1) (by omega)]
    rfl
def sec3 (t : Tm) (x : Int) : Int × Bool := ((x + cumM t.1 (t.2.1 - 1).toNat) * 86400 + t.2.2.2.1 * 3600 + t.2.2.2.2.1 * 60 + t.2.2.2.2.2, true)
theorem ev_rS3' (t : Tm) (hr : rT t) (x : Int) (h0 : -10000000 ≤ x) (h1 : x ≤ 10000000) : Ev (fun k => F19_L3 k t x 1) (sec3 t x) := by
  have hm := right_month' hr
  obtain ⟨j, hj⟩ : ∃ j : Nat, t.2.1 = j + 1 := ⟨(t.2.1 - 1).toNat, by omega⟩
  have e := ev_rS3 t hr j (by omega) hj j 0 x (by omega) h0 (by omega)
  unfold sec3
  rw [hj, show ((j : Int) + 1 - 1).toNat = j by omega]
  rw [show cumM t.1 0 = 0 from rfl, show x + cumM t.1 j - 0 = x + cumM t.1 j by omega] at e
  exact e
theorem ev_rS2 (t : Tm) (hr : rT t) : ∀ (d : Nat) (y x : Int), y + d = 1970 → 1 ≤ y → -5000000 + 366 * d ≤ x → x ≤ 5000000 → Ev (fun k => F19_L2 k t x y) (sec3 t (x - (719162 - aheadY y))) := by
  intro d
  induction d with
  | zero =>
    intro y x hy h1 h2 h3
    obtain rfl : y = 1970 := by omega
    rw [show aheadY 1970 = 719162 by decide, show x - (719162 - 719162) = x by omega]
    refine Ev.step ((ev_rS3' t hr x (by omega) (by omega)).congr fun k => ?_)
    rw [F19_L2, decide_eq_false (by omega), iteB_f]
  | succ d ih =>
    intro y x hy h1 h2 h3
    have hs := ahead_succ h1
    have hl := lenY_bd y
    have e := ih (y + 1) (x - lenY y) (by omega) (by omega) (by omega) (by omega)
    rw [show x - lenY y - (719162 - aheadY (y + 1)) = x - (719162 - aheadY y) by omega] at e
    refine Ev.step (e.congr fun k => ?_)
    rw [F19_L2, decide_eq_true (by omega), iteB_t, length_eq, bind_some', w64 (n := x - lenY y) (by omega), w64 (n := y + 1) (by omega)]
theorem ev_rS1 (t : Tm) (hr : rT t) : ∀ (d : Nat) (y x : Int), y + d = t.1 → 1970 ≤ y → 0 ≤ x → x + 366 * d ≤ 4000000 → Ev (fun k => F19_L1 k t x y) (sec3 t (x + aheadY t.1 - aheadY y)) := by
  intro d
  induction d with
  | zero =>
    intro y x hy h1 h2 h3
    obtain rfl : y = t.1 := by omega
    rw [show x + aheadY t.1 - aheadY t.1 = x by omega]
    refine Ev.step (Ev.congr (g := fun k => F19_L2 k t x t.1) (Ev.step ((ev_rS3' t hr x (by omega) (by omega)).congr fun k => ?_)) fun k => ?_)
    · rw [F19_L2, decide_eq_false (by omega), iteB_f]
    · rw [F19_L1, decide_eq_false (by omega), iteB_f]
  | succ d ih =>
    intro y x hy h1 h2 h3
    have hs := ahead_succ (y := y) (by omega)
    have hl := lenY_bd y
    obtain ⟨g1, _⟩ := rT_bd hr
    have e := ih (y + 1) (x + lenY y) (by omega) (by omega) (by omega) (by omega)
    rw [show x + lenY y + aheadY t.1 - aheadY (y + 1) = x + aheadY t.1 - aheadY y by omega] at e
    refine Ev.step (e.congr fun k => ?_)
    rw [F19_L1, decide_eq_true (by omega), iteB_t, length_eq, bind_some', w64 (n := x + lenY y) (by omega), w64 (n := y + 1) (by omega)]
theorem ev_rSeconds (t : Tm) : Ev (fun k => F19 k t) (secR t) := by
  unfold secR
  by_cases hr : rT t
  · rw [if_pos hr]
    obtain ⟨h1, h2, h3, h4, h5, h6⟩ := rT_bd hr
    have hw : IntKind.wrap .i64 (t.2.2.1 - 1) = t.2.2.1 - 1 := w64 (by omega)
    have hres : sec3 t (t.2.2.1 - 1 + aheadY t.1 - 719162) = (secT t, true) := by
      unfold sec3 secT dayN
      congr 1
      rw [show t.2.2.1 - 1 + aheadY t.1 - 719162 + cumM t.1 (t.2.1 - 1).toNat = aheadY t.1 + cumM t.1 (t.2.1 - 1).toNat + t.2.2.1 - 1 - 719162 by omega]
    have main : Ev (fun k => F19_L1 k t (t.2.2.1 - 1) 1970) (secT t, true) := by
      rw [← hres]
      by_cases hy : 1970 ≤ t.1
      · have e := ev_rS1 t hr (t.1 - 1970).toNat 1970 (t.2.2.1 - 1) (by omega) (by omega) (by omega) (by omega)
        rw [show aheadY 1970 = 719162 by decide] at e
        exact e
      · have e := ev_rS2 t hr (1970 - t.1).toNat t.1 (t.2.2.1 - 1) (by omega) (by omega) (by omega) (by omega)
        rw [show t.2.2.1 - 1 - (719162 - aheadY t.1) = t.2.2.1 - 1 + aheadY t.1 - 719162 by omega] at e
        refine Ev.step (e.congr fun k => ?_)
        rw [F19_L1, decide_eq_false (by omega), iteB_f]
    refine main.congr fun k => ?_
    rw [F19, tm_eta, rRight_eq, bind_some', decide_eq_true hr, hw]; rfl
  · rw [if_neg hr]
    refine Ev.pure.congr fun k => ?_
    rw [F19, tm_eta, rRight_eq, bind_some', decide_eq_false hr]; rfl
theorem tdm7 (x : Int) (h : -9000000 ≤ x ∧ x ≤ 9000000) : (if x.tmod 7 < 0 then IntKind.wrap .i64 (x.tmod 7 + 7) else x.tmod 7) = x % 7 := by
  by_cases hx : 0 ≤ x
  · rw [tmod_nn 7 hx, if_neg (by omega)]
  · have e2 : Int.tmod x 7 = -((-x) % 7) := by rw [← tmod_nn 7 (show 0 ≤ -x by omega), Int.neg_tmod, Int.neg_neg]
    rw [e2]
    split
    · rw [w64 (by omega)]; omega
    · omega
theorem ev_rWeekday (t : Tm) : Ev (fun k => F20 k t) (weekT t) := by
  unfold weekT
  obtain ⟨N, hN⟩ := ev_rSeconds t
  refine ⟨N, fun n hn => ?_⟩
  have hS : F19 n t = some (secR t) := hN n hn
  show F20 n t = _
  rw [F20, tm_eta, hS, bind_some']
  unfold secR
  by_cases hr : rT t
  · rw [if_pos hr, if_pos hr]
    obtain ⟨h1, h2, h3, h4, h5, h6⟩ := rT_bd hr
    have key : ∀ x : Int, -9000000 ≤ x ∧ x ≤ 9000000 → F20_J1 n (x.tmod 7) = some (x % 7) := by
      intro x hx
      rw [← tdm7 x hx, F20_J1]
      by_cases h : x.tmod 7 < 0
      · rw [decide_eq_true h, iteB_t, if_pos h]
      · rw [decide_eq_false h, iteB_f, if_neg h]
    show iteB (!true) _ _ = _
    rw [Bool.not_true, iteB_f]
    dsimp only
    have hs : secT t / 86400 = dayN t.1 t.2.1 t.2.2.1 - 719162 := by unfold secT; omega
    have hsb : -62135596800 ≤ secT t ∧ secT t ≤ 253402300799 := by unfold secT; omega
    rcases tdm (secT t) with ⟨k1, k2, k3⟩ | ⟨k1, k2, k3⟩
    · rw [decide_eq_true k1, iteB_t, w64 (n := Int.tdiv (secT t) 86400) (by omega), w64 (n := Int.tdiv (secT t) 86400 + 3) (by omega), key _ (by omega)]
      congr 1; omega
    · rw [decide_eq_false (by omega), iteB_f, w64 (n := Int.tdiv (secT t) 86400) (by omega), w64 (n := Int.tdiv (secT t) 86400 + 4) (by omega), key _ (by omega)]
      congr 1; omega
  · rw [if_neg hr, if_neg hr]; rfl
end Go.Proofs.YtdfghdppbfabfaaX

/- hex.Decimal: what it answers. -/
set_option linter.unusedVariables false
set_option linter.unusedSimpArgs false
namespace Go.Proofs.YtdfghdppbfabfaaX
open Go

/-- The digits of a number, the last one first. -/
def dgR (n : Nat) : List Int := if n < 10 then [48 + (n : Int)] else (48 + ((n % 10 : Nat) : Int)) :: dgR (n / 10)
theorem dgR_lt {n : Nat} (h : n < 10) : dgR n = [48 + (n : Int)] := by rw [dgR, if_pos h]
theorem dgR_ge {n : Nat} (h : ¬ n < 10) : dgR n = (48 + ((n % 10 : Nat) : Int)) :: dgR (n / 10) := by rw [dgR, if_neg h]
theorem dgR_len : ∀ (k n : Nat), n < 10 ^ (k + 1) → (dgR n).length ≤ k + 1
  | 0, n, h => by rw [dgR_lt (by omega)]; simp
  | k + 1, n, h => by
    by_cases h1 : n < 10
    · rw [dgR_lt h1]; simp
    · rw [dgR_ge h1, List.length_cons]
      have := dgR_len k (n / 10) (by rw [Nat.pow_succ] at h; omega)
      omega
theorem dgR_pos (n : Nat) : 0 < (dgR n).length := by
  by_cases h : n < 10
  · rw [dgR_lt h]; simp
  · rw [dgR_ge h]; simp
/-- A number's text. -/
def decI (n : Int) : List Int := (if n < 0 then dgR n.natAbs ++ [45] else dgR n.natAbs).reverse
def decT (n : Int) : List UInt8 := (decI n).map toB

def rvI (l0 : List Int) (i : Nat) (l : List Int) : Prop := l.length = l0.length ∧ ∀ k, k < l0.length → l.getD k 0 = if k < i ∨ l0.length - i ≤ k then l0.getD (l0.length - 1 - k) 0 else l0.getD k 0
theorem rv_end {l0 l : List Int} {i : Nat} (h : rvI l0 i l) (hi : l0.length ≤ 2 * i + 1) : l = l0.reverse := by
  obtain ⟨h1, h2⟩ := h
  apply List.ext_getElem
  · rw [h1, List.length_reverse]
  · intro k hk1 hk2
    have hk : k < l0.length := by omega
    have h3 := h2 k hk
    rw [List.getD_eq_getElem?_getD, List.getElem?_eq_getElem hk1] at h3
    rw [List.getElem_reverse]
    rw [show l[k] = (some l[k]).getD 0 from rfl, h3]
    split
    · rw [List.getD_eq_getElem?_getD, List.getElem?_eq_getElem (by omega)]; rfl
    · have e : l0.length - 1 - k = k := by omega
      rw [List.getD_eq_getElem?_getD, List.getElem?_eq_getElem (by omega)]
      simp only [e]; rfl
theorem rv_step {l0 l : List Int} {i j : Nat} (h : rvI l0 i l) (hj : i + j + 1 = l0.length) (hij : i < j) : rvI l0 (i + 1) ((l.set i (l.getD j 0)).set j (l.getD i 0)) := by
  obtain ⟨h1, h2⟩ := h
  refine ⟨by simp [h1], fun k hk => ?_⟩
  have gi := h2 i (by omega)
  have gj := h2 j (by omega)
  rw [if_neg (by omega)] at gi gj
  rw [List.getD_eq_getElem?_getD, List.getElem?_set]
  by_cases hkj : j = k
  · subst hkj
    rw [if_pos rfl, List.length_set, if_pos (by omega), Option.getD_some, gi, if_pos (by omega), show l0.length - 1 - j = i by omega]
  · rw [if_neg hkj, List.getElem?_set]
    by_cases hki : i = k
    · subst hki
      rw [if_pos rfl, if_pos (by omega), Option.getD_some, gj, if_pos (by omega), show l0.length - 1 - i = j by omega]
    · rw [if_neg hki, ← List.getD_eq_getElem?_getD, h2 k hk]
      by_cases hc : k < i ∨ l0.length - i ≤ k
      · rw [if_pos hc, if_pos (by omega)]
      · rw [if_neg hc, if_neg (by omega)]
theorem ev_rev (l0 : List Int) (hl : l0.length ≤ 1000) : ∀ (d i : Nat) (l : List Int), l0.length ≤ 2 * i + d → i ≤ l0.length → rvI l0 i l →
    Ev (fun n => F67_L4 n (i : Int) ((l0.length : Int) - 1 - i) l) (l0.reverse.map toB) := by
  intro d
  induction d with
  | zero =>
    intro i l hd hi h
    refine Ev.step (Ev.pure.congr fun n => ?_)
    have d1 : decide ((i : Int) < (l0.length : Int) - 1 - i) = false := decide_eq_false (by omega)
    simp only [F67_L4, d1, iteB_f]
    rw [rv_end h (by omega)]
  | succ d ih =>
    intro i l hd hi h
    refine Ev.step ?_
    by_cases hlt : (i : Int) < (l0.length : Int) - 1 - i
    · obtain ⟨j, hj⟩ : ∃ j : Nat, (l0.length : Int) - 1 - i = j := ⟨((l0.length : Int) - 1 - i).toNat, by omega⟩
      have d1 : decide ((i : Int) < (j : Int)) = true := decide_eq_true (by omega)
      have hll := h.1
      have w1 : IntKind.wrap .i64 ((i : Int) + 1) = ((i + 1 : Nat) : Int) := by rw [w64 (by omega)]; omega
      have w2 : IntKind.wrap .i64 ((j : Int) - 1) = (l0.length : Int) - 1 - ((i + 1 : Nat) : Int) := by rw [w64 (by omega)]; omega
      have e := ih (i + 1) _ (by omega) (by omega) (rv_step (j := j) h (by omega) (by omega))
      rw [hj]
      refine e.congr fun n => ?_
      simp only [F67_L4, d1, iteB_t, toNat_nat, w1, w2]
      have g1 : (0 ≤ (j : Int) ∧ (j : Int) < (l.length : Int)) := by omega
      have g2 : (0 ≤ (i : Int) ∧ (i : Int) < (l.length : Int)) := by omega
      have g3 : j < l.length := by omega
      have g4 : i < l.length := by omega
      rw [grd_t _ g1, grd_t _ g3, grd_t _ g2, grd_t _ g4, grd_t _ g2, grd_t _ g4, grd_t _ g1, grd_t _ g3]
      rfl
    · refine Ev.pure.congr fun n => ?_
      have d1 : decide ((i : Int) < (l0.length : Int) - 1 - i) = false := decide_eq_false hlt
      simp only [F67_L4, d1, iteB_f]
      rw [rv_end h (by omega)]
theorem ev_J3 (l : List Int) (h0 : 0 < l.length) (hl : l.length ≤ 1000) : Ev (fun n => F67_J3 n l) (l.reverse.map toB) := by
  have w1 : IntKind.wrap .i64 ((l.length : Int) - 1) = (l.length : Int) - 1 - ((0 : Nat) : Int) := by rw [w64 (by omega)]; omega
  refine (ev_rev l hl l.length 0 l (by omega) (by omega) ⟨rfl, fun k hk => by rw [if_neg (by omega)]⟩).congr fun n => ?_
  simp only [F67_J3, w1]; rfl
theorem digitAt (r : Nat) (h : r < 10) : ((([48, 49, 50, 51, 52, 53, 54, 55, 56, 57, 97, 98, 99, 100, 101, 102] : List UInt8).getD r 0).toNat : Int) = 48 + r := by
  have : ∀ r : Fin 10, ((([48, 49, 50, 51, 52, 53, 54, 55, 56, 57, 97, 98, 99, 100, 101, 102] : List UInt8).getD r.val 0).toNat : Int) = 48 + r.val := by decide
  exact this ⟨r, h⟩
theorem ev_digs (a : Int) : ∀ (k m : Nat) (l : List Int), m < 10 ^ (k + 1) → m < 10000000000000000000 → l.length + k ≤ 100 → Ev (fun n => F67_L2 n a (m : Int) l) ((if a < 0 then l ++ dgR m ++ [45] else l ++ dgR m).reverse.map toB) := by
  intro k
  induction k with
  | zero =>
    intro m l hm hb hl
    have hm' : m < 10 := by omega
    refine Ev.step ?_
    have e1 : (m : Int).tmod 10 = m := by rw [Int.tmod_eq_emod_of_nonneg (by omega)]; omega
    have e2 : (m : Int).tdiv 10 = 0 := by rw [Int.tdiv_eq_ediv_of_nonneg (by omega)]; omega
    have e3 : (IntKind.wrap .u64 0 == (0 : Int)) = true := by rw [wu64 (by omega)]; rfl
    rw [dgR_lt hm']
    by_cases ha : a < 0
    · rw [if_pos ha]
      refine (ev_J3 (l ++ [48 + (m : Int)] ++ [45]) (by simp) (by simp; omega)).congr fun n => ?_
      simp only [F67_L2, e1, e2, e3, toNat_nat, digitAt m hm', decide_eq_true ha, iteB_t]
      rw [grd_t _ (by omega), grd_t _ (by omega), grd_t _ (by omega)]
    · rw [if_neg ha]
      refine (ev_J3 (l ++ [48 + (m : Int)]) (by simp) (by simp; omega)).congr fun n => ?_
      simp only [F67_L2, e1, e2, e3, toNat_nat, digitAt m hm', decide_eq_false ha, iteB_t, iteB_f]
      rw [grd_t _ (by omega), grd_t _ (by omega)]
  | succ k ih =>
    intro m l hm hb hl
    by_cases hm' : m < 10
    · have := ih m l (by have : 10 ^ 1 ≤ 10 ^ (k + 1) := Nat.pow_le_pow_right (by omega) (by omega); omega) hb (by omega)
      exact this
    refine Ev.step ?_
    have e1 : (m : Int).tmod 10 = ((m % 10 : Nat) : Int) := by rw [Int.tmod_eq_emod_of_nonneg (by omega)]; omega
    have e2 : (m : Int).tdiv 10 = ((m / 10 : Nat) : Int) := by rw [Int.tdiv_eq_ediv_of_nonneg (by omega)]; omega
    have e4 : IntKind.wrap .u64 ((m / 10 : Nat) : Int) = ((m / 10 : Nat) : Int) := wu64 (by omega)
    have e3 : (((m / 10 : Nat) : Int) == (0 : Int)) = false := by rw [beq_eq_false_iff_ne]; omega
    have := ih (m / 10) (l ++ [48 + ((m % 10 : Nat) : Int)]) (by rw [Nat.pow_succ] at hm; omega) (by omega) (by simp; omega)
    rw [dgR_ge hm']
    rw [show (if a < 0 then l ++ (48 + ((m % 10 : Nat) : Int)) :: dgR (m / 10) ++ [45] else l ++ (48 + ((m % 10 : Nat) : Int)) :: dgR (m / 10)) = (if a < 0 then l ++ [48 + ((m % 10 : Nat) : Int)] ++ dgR (m / 10) ++ [45] else l ++ [48 + ((m % 10 : Nat) : Int)] ++ dgR (m / 10)) by simp]
    refine this.congr fun n => ?_
    simp only [F67_L2, e1, e2, e4, e3, toNat_nat, digitAt (m % 10) (by omega), iteB_f]
    rw [grd_t _ (by omega), grd_t _ (by omega)]
theorem ev_Decimal (a : Int) (h : -9223372036854775808 ≤ a ∧ a ≤ 9223372036854775807) : Ev (fun n => F67 n a) (decT a) := by
  have hd := ev_digs a 19 a.natAbs [] (by omega) (by omega) (by simp)
  simp only [List.nil_append] at hd
  unfold decT decI
  refine hd.congr fun n => ?_
  have hw : ∀ x : Int, IntKind.wrap .u64 x = x % 18446744073709551616 := fun x => rfl
  by_cases ha : a < 0
  · have e : IntKind.wrap .u64 (0 - IntKind.wrap .u64 a) = (a.natAbs : Int) := by rw [hw, hw]; omega
    simp only [F67, F67_J1, decide_eq_true ha, iteB_t, e]
  · have e : IntKind.wrap .u64 a = (a.natAbs : Int) := by rw [hw]; omega
    simp only [F67, F67_J1, decide_eq_false ha, iteB_f, e]
end Go.Proofs.YtdfghdppbfabfaaX

/- The calendar: its texts, and the law. -/
set_option linter.unusedVariables false
set_option linter.unusedSimpArgs false
namespace Go.Proofs.YtdfghdppbfabfaaX
open Go

def numL : Nat → Nat → List UInt8
  | 0, _ => []
  | k + 1, n => numL k (n / 10) ++ [toB (48 + ((n % 10 : Nat) : Int))]
theorem numL_len : ∀ (k n : Nat), (numL k n).length = k
  | 0, n => rfl
  | k + 1, n => by rw [numL, List.length_append, numL_len k]; rfl
theorem numL_zero : ∀ k : Nat, numL k 0 = List.replicate k 48
  | 0 => rfl
  | k + 1 => by rw [numL, Nat.zero_div, numL_zero k, List.replicate_succ']; rfl
theorem numL_dec : ∀ (k n : Nat), n < 10 ^ k → 1 ≤ k → numL k n = List.replicate (k - (dgR n).length) 48 ++ (dgR n).reverse.map toB
  | 0, n, h, h1 => by omega
  | k + 1, n, h, h1 => by
    by_cases hn : n < 10
    · rw [numL, show n / 10 = 0 by omega, show n % 10 = n by omega, numL_zero, dgR_lt hn]; rfl
    · have hk : 1 ≤ k := by
        rcases Nat.eq_zero_or_pos k with rfl | hk
        · omega
        · exact hk
      have ih := numL_dec k (n / 10) (by rw [Nat.pow_succ] at h; omega) hk
      rw [numL, ih, dgR_ge hn, List.reverse_cons, List.map_append, List.length_cons, Nat.add_sub_add_right, List.append_assoc]; rfl
theorem dig10 (r : Nat) (h : r < 10) : ((([48, 49, 50, 51, 52, 53, 54, 55, 56, 57] : List UInt8).take (r + 1)).drop r) = [toB (48 + (r : Int))] := by
  have : ∀ r : Fin 10, ((([48, 49, 50, 51, 52, 53, 54, 55, 56, 57] : List UInt8).take (r.val + 1)).drop r.val) = [toB (48 + (r.val : Int))] := by decide
  exact this ⟨r, h⟩
theorem ev_number_l (w : Nat) (hw : w ≤ 100) : ∀ (d i n : Nat) (s : List UInt8), i + d = w → n < 1000000 → s.length ≤ i → Ev (fun k => F53_L1 k (w : Int) (n : Int) s (i : Int)) (numL d n ++ s) := by
  intro d
  induction d with
  | zero =>
    intro i n s hi hn hs
    refine Ev.step (Ev.pure.congr fun k => ?_)
    rw [F53_L1, decide_eq_false (by omega), iteB_f]; rfl
  | succ d ih =>
    intro i n s hi hn hs
    have e1 : ((n : Int)).tmod 10 = ((n % 10 : Nat) : Int) := by rw [tmod_nn 10 (by omega)]; omega
    have e2 : ((n : Int)).tdiv 10 = ((n / 10 : Nat) : Int) := by rw [tdiv_nn 10 (by omega)]; omega
    have e3 : IntKind.wrap .i64 (((n % 10 : Nat) : Int) + 1) = ((n % 10 + 1 : Nat) : Int) := by rw [w64 (by omega)]; omega
    have e4 : IntKind.wrap .i64 ((n / 10 : Nat) : Int) = ((n / 10 : Nat) : Int) := w64 (by omega)
    have e5 : IntKind.wrap .i64 ((i : Int) + 1) = ((i + 1 : Nat) : Int) := by rw [w64 (by omega)]; omega
    have e := ih (i + 1) (n / 10) (toB (48 + ((n % 10 : Nat) : Int)) :: s) (by omega) (by omega) (by rw [List.length_cons]; omega)
    rw [numL, List.append_assoc]
    refine Ev.step (e.congr fun k => ?_)
    rw [F53_L1, decide_eq_true (by omega), iteB_t, e1, e2, e3, e4, e5, toNat_nat, toNat_nat, grd_t _ (by omega), dig10 _ (by omega), grd_t _ (by rw [List.length_cons]; simp only [List.length_nil]; omega)]
    rfl
theorem ev_number (a : Int) (w : Nat) (hw : w ≤ 100) (ha : 0 ≤ a ∧ a < 1000000) : Ev (fun k => F53 k a (w : Int)) (numL w a.toNat) := by
  have e := ev_number_l w hw w 0 a.toNat [] (by omega) (by omega) (by simp)
  rw [List.append_nil, show ((a.toNat : Nat) : Int) = a by omega] at e
  exact e.congr fun k => rfl
theorem ev_pad (w : Nat) (hw : w ≤ 100) : ∀ (d : Nat) (s : List UInt8), s.length + d = w → Ev (fun k => F50_L1 k (w : Int) s) (List.replicate d 48 ++ s) := by
  intro d
  induction d with
  | zero =>
    intro s hs
    refine Ev.step (Ev.pure.congr fun k => ?_)
    rw [F50_L1, decide_eq_false (by omega), iteB_f]; rfl
  | succ d ih =>
    intro s hs
    have e := ih (48 :: s) (by rw [List.length_cons]; omega)
    rw [List.replicate_succ', List.append_assoc]
    refine Ev.step (e.congr fun k => ?_)
    rw [F50_L1, decide_eq_true (by omega), iteB_t, grd_t _ (by omega)]; rfl
theorem ev_digits (a : Int) (w : Nat) (hw : 1 ≤ w ∧ w ≤ 6) (h0 : 0 ≤ a) (h1 : a.toNat < 10 ^ w) : Ev (fun k => F50 k a (w : Int)) (numL w a.toNat) := by
  have hp : 10 ^ w ≤ 10 ^ 6 := Nat.pow_le_pow_right (by omega) hw.2
  have e1 : decT a = (dgR a.toNat).reverse.map toB := by
    unfold decT decI
    rw [if_neg (by omega), show a.natAbs = a.toNat by omega]
  have hl : (decT a).length ≤ w := by
    rw [e1, List.length_map, List.length_reverse]
    obtain ⟨k, rfl⟩ : ∃ k, w = k + 1 := ⟨w - 1, by omega⟩
    exact dgR_len k _ h1
  have e2 := ev_pad w (by omega) (w - (decT a).length) (decT a) (by omega)
  have e3 : List.replicate (w - (decT a).length) 48 ++ decT a = numL w a.toNat := by
    rw [numL_dec w _ h1 hw.1, e1, List.length_map, List.length_reverse]
  rw [e3] at e2
  exact (Ev.bind (g := fun k v => F50_L1 k (w : Int) v) (ev_Decimal a (by omega)) e2).congr fun k => rfl
def nmI (s : List UInt8) (v : Int) : List UInt8 := (s.take (3 * v + 3).toNat).drop (3 * v).toNat
theorem nmI_len (s : List UInt8) (v : Int) (h : 0 ≤ v) : (nmI s v).length ≤ 3 := by
  unfold nmI
  rw [List.length_drop, List.length_take]; omega
theorem name_eq (n : Nat) (s : List UInt8) (v : Int) (h : 0 ≤ v ∧ v ≤ 100) (hs : 3 * v + 3 ≤ s.length) : F49 n s v = some (nmI s v) := by
  unfold nmI
  rw [F49, w64 (n := v + 1) (by omega), w64 (n := 3 * v) (by omega), w64 (n := 3 * (v + 1)) (by omega), show 3 * (v + 1) = 3 * v + 3 by omega, grd_t _ (by omega)]

def dateT (t : Tm) (a : List UInt8) : List UInt8 := numL 4 t.1.toNat ++ a ++ numL 2 t.2.1.toNat ++ a ++ numL 2 t.2.2.1.toNat
def timeT (t : Tm) (a : List UInt8) : List UInt8 := numL 2 t.2.2.2.1.toNat ++ a ++ numL 2 t.2.2.2.2.1.toNat ++ a ++ numL 2 t.2.2.2.2.2.toNat
def fits (t : Tm) : Prop := (1 ≤ t.1 ∧ t.1 ≤ 9999) ∧ (1 ≤ t.2.1 ∧ t.2.1 ≤ 12) ∧ (1 ≤ t.2.2.1 ∧ t.2.2.1 ≤ 31) ∧ (0 ≤ t.2.2.2.1 ∧ t.2.2.2.1 ≤ 23) ∧ (0 ≤ t.2.2.2.2.1 ∧ t.2.2.2.2.1 ≤ 59) ∧ (0 ≤ t.2.2.2.2.2 ∧ t.2.2.2.2.2 ≤ 59)
theorem rT_fits {t : Tm} (hr : rT t) : fits t := by
  have h1 := rT_bd hr
  have h2 := right_month' hr
  exact ⟨h1.1, h2, h1.2.1, h1.2.2.1, h1.2.2.2.1, h1.2.2.2.2.1⟩
theorem ev_digs6 {t : Tm} (h : fits t) : ∃ N, ∀ n, N ≤ n → F50 n t.1 4 = some (numL 4 t.1.toNat) ∧ F50 n t.2.1 2 = some (numL 2 t.2.1.toNat) ∧ F50 n t.2.2.1 2 = some (numL 2 t.2.2.1.toNat) ∧ F50 n t.2.2.2.1 2 = some (numL 2 t.2.2.2.1.toNat) ∧ F50 n t.2.2.2.2.1 2 = some (numL 2 t.2.2.2.2.1.toNat) ∧ F50 n t.2.2.2.2.2 2 = some (numL 2 t.2.2.2.2.2.toNat) := by
  obtain ⟨h1, h2, h3, h4, h5, h6⟩ := h
  obtain ⟨N1, k1⟩ := ev_digits t.1 4 (by omega) (by omega) (by omega)
  obtain ⟨N2, k2⟩ := ev_digits t.2.1 2 (by omega) (by omega) (by omega)
  obtain ⟨N3, k3⟩ := ev_digits t.2.2.1 2 (by omega) (by omega) (by omega)
  obtain ⟨N4, k4⟩ := ev_digits t.2.2.2.1 2 (by omega) (by omega) (by omega)
  obtain ⟨N5, k5⟩ := ev_digits t.2.2.2.2.1 2 (by omega) (by omega) (by omega)
  obtain ⟨N6, k6⟩ := ev_digits t.2.2.2.2.2 2 (by omega) (by omega) (by omega)
  exact ⟨N1 + N2 + N3 + N4 + N5 + N6, fun n hn => ⟨k1 n (by omega), k2 n (by omega), k3 n (by omega), k4 n (by omega), k5 n (by omega), k6 n (by omega)⟩⟩
theorem ev_nums6 {t : Tm} (h : fits t) : ∃ N, ∀ n, N ≤ n → F53 n t.1 4 = some (numL 4 t.1.toNat) ∧ F53 n t.2.1 2 = some (numL 2 t.2.1.toNat) ∧ F53 n t.2.2.1 2 = some (numL 2 t.2.2.1.toNat) ∧ F53 n t.2.2.2.1 2 = some (numL 2 t.2.2.2.1.toNat) ∧ F53 n t.2.2.2.2.1 2 = some (numL 2 t.2.2.2.2.1.toNat) ∧ F53 n t.2.2.2.2.2 2 = some (numL 2 t.2.2.2.2.2.toNat) := by
  obtain ⟨h1, h2, h3, h4, h5, h6⟩ := h
  obtain ⟨N1, k1⟩ := ev_number t.1 4 (by omega) (by omega)
  obtain ⟨N2, k2⟩ := ev_number t.2.1 2 (by omega) (by omega)
  obtain ⟨N3, k3⟩ := ev_number t.2.2.1 2 (by omega) (by omega)
  obtain ⟨N4, k4⟩ := ev_number t.2.2.2.1 2 (by omega) (by omega)
  obtain ⟨N5, k5⟩ := ev_number t.2.2.2.2.1 2 (by omega) (by omega)
  obtain ⟨N6, k6⟩ := ev_number t.2.2.2.2.2 2 (by omega) (by omega)
  exact ⟨N1 + N2 + N3 + N4 + N5 + N6, fun n hn => ⟨k1 n (by omega), k2 n (by omega), k3 n (by omega), k4 n (by omega), k5 n (by omega), k6 n (by omega)⟩⟩
theorem ev_part {t : Tm} (h : fits t) (a b : List UInt8) (ha : a.length ≤ 1) (hb : b.length ≤ 1) : Ev (fun k => F48 k t a b) (dateT t a, timeT t b) := by
  obtain ⟨N, hN⟩ := ev_digs6 h
  refine ⟨N, fun n hn => ?_⟩
  obtain ⟨k1, k2, k3, k4, k5, k6⟩ := hN n hn
  show F48 n t a b = _
  rw [F48, k1, k2, k3, k4, k5, k6]
  repeat (first | rw [bind_some'] | rw [grd_t _ (by first | omega | (simp only [numL_len]; omega))])
  rfl
def isoT (t : Tm) : List UInt8 := dateT t [45] ++ [84] ++ timeT t [58] ++ [46, 48, 48, 48, 90]
def shortT (t : Tm) : List UInt8 := dateT t [] ++ [84] ++ timeT t [] ++ [90]
def sunL : List UInt8 := [83, 117, 110, 77, 111, 110, 84, 117, 101, 87, 101, 100, 84, 104, 117, 70, 114, 105, 83, 97, 116]
def janL : List UInt8 := 74 :: 97 :: 110 :: 70 :: 101 :: 98 :: 77 :: 97 :: 114 :: 65 :: 112 :: 114 :: 77 :: 97 :: 121 :: 74 :: 117 :: 110 :: 74 :: 117 :: 108 :: 65 :: 117 :: 103 :: 83 :: 101 :: 112 :: 79 :: 99 :: 116 :: 78 :: 111 :: 118 :: 68 :: 101 :: 99 :: ([] : List UInt8)
def webT (t : Tm) : List UInt8 := nmI sunL (weekT t) ++ [44, 32] ++ numL 2 t.2.2.1.toNat ++ [32] ++ nmI janL (t.2.1 - 1) ++ [32] ++ numL 4 t.1.toNat ++ [32] ++ timeT t [58] ++ [32, 71, 77, 84]
theorem dateT_len (t : Tm) (a : List UInt8) (h : a.length ≤ 1) : (dateT t a).length ≤ 10 := by unfold dateT; simp only [List.length_append, numL_len]; omega
theorem timeT_len (t : Tm) (a : List UInt8) (h : a.length ≤ 1) : (timeT t a).length ≤ 8 := by unfold timeT; simp only [List.length_append, numL_len]; omega
def orE (p : Prop) [Decidable p] (l : List UInt8) : List UInt8 := if p then l else []
instance (t : Tm) : Decidable (rT t) := by unfold rT rightT; infer_instance
theorem ev_Iso (t : Tm) : Ev (fun k => F15 k t) (orE (rT t) (isoT t)) := by
  unfold orE
  by_cases hr : rT t
  · rw [if_pos hr]
    obtain ⟨N, hN⟩ := ev_part (rT_fits hr) [45] [58] (by simp) (by simp)
    refine ⟨N, fun n hn => ?_⟩
    have e : F48 n t [45] [58] = some (dateT t [45], timeT t [58]) := hN n hn
    have l1 := dateT_len t [45] (by simp)
    have l2 := timeT_len t [58] (by simp)
    show F15 n t = _
    rw [F15, tm_eta, right_eq, bind_some', decide_eq_true hr, e]
    show iteB (!true) _ _ = _
    rw [Bool.not_true, iteB_f, bind_some', grd_t _ (by dsimp only; omega), grd_t _ (by dsimp only; omega), grd_t _ (by dsimp only; omega)]; rfl
  · rw [if_neg hr]
    refine Ev.pure.congr fun k => ?_
    rw [F15, tm_eta, right_eq, bind_some', decide_eq_false hr]; rfl
theorem ev_Short (t : Tm) : Ev (fun k => F23 k t) (orE (rT t) (shortT t)) := by
  unfold orE
  by_cases hr : rT t
  · rw [if_pos hr]
    obtain ⟨N, hN⟩ := ev_part (rT_fits hr) [] [] (by simp) (by simp)
    refine ⟨N, fun n hn => ?_⟩
    have e : F48 n t [] [] = some (dateT t [], timeT t []) := hN n hn
    have l1 := dateT_len t [] (by simp)
    have l2 := timeT_len t [] (by simp)
    show F23 n t = _
    rw [F23, tm_eta, right_eq, bind_some', decide_eq_true hr, e]
    show iteB (!true) _ _ = _
    rw [Bool.not_true, iteB_f, bind_some', grd_t _ (by dsimp only; omega), grd_t _ (by dsimp only; omega), grd_t _ (by dsimp only; omega)]; rfl
  · rw [if_neg hr]
    refine Ev.pure.congr fun k => ?_
    rw [F23, tm_eta, right_eq, bind_some', decide_eq_false hr]; rfl
theorem weekT_bd {t : Tm} (hr : rT t) : 0 ≤ weekT t ∧ weekT t ≤ 6 := by
  unfold weekT
  rw [if_pos hr]; omega
theorem ev_Web (t : Tm) : Ev (fun k => F16 k t) (orE (rT t) (webT t)) := by
  unfold orE
  by_cases hr : rT t
  · rw [if_pos hr]
    have hf := rT_fits hr
    obtain ⟨N, hN⟩ := ev_part hf [] [58] (by simp) (by simp)
    obtain ⟨N2, hN2⟩ := ev_digs6 hf
    obtain ⟨N3, hN3⟩ := ev_Weekday t
    refine ⟨N + N2 + N3, fun n hn => ?_⟩
    have e : F48 n t [] [58] = some (dateT t [], timeT t [58]) := hN n (by omega)
    have e3 : F14 n t = some (weekT t) := hN3 n (by omega)
    obtain ⟨k1, k2, k3, k4, k5, k6⟩ := hN2 n (by omega)
    have l2 := timeT_len t [58] (by simp)
    have hb := weekT_bd hr
    obtain ⟨f1, f2, f3, f4, f5, f6⟩ := hf
    have n1 := name_eq n sunL (weekT t) (by omega) (by show _ ≤ (21 : Int); omega)
    have n2 := name_eq n janL (t.2.1 - 1) (by omega) (by show _ ≤ (36 : Int); omega)
    have m1 := nmI_len sunL (weekT t) (by omega)
    have m2 := nmI_len janL (t.2.1 - 1) (by omega)
    unfold sunL at n1 m1
    unfold janL at n2 m2
    show F16 n t = _
    rw [F16, tm_eta, right_eq, bind_some', decide_eq_true hr, e]
    show iteB (!true) _ _ = _
    rw [Bool.not_true, iteB_f, bind_some', e3, bind_some', n1, bind_some', k3, k1, w64 (n := t.2.1 - 1) (by omega), n2]
    have q : webT t = nmI [83, 117, 110, 77, 111, 110, 84, 117, 101, 87, 101, 100, 84, 104, 117, 70, 114, 105, 83, 97, 116] (weekT t) ++ [44, 32] ++ numL 2 t.2.2.1.toNat ++ [32] ++ nmI (74 :: 97 :: 110 :: 70 :: 101 :: 98 :: 77 :: 97 :: 114 :: 65 :: 112 :: 114 :: 77 :: 97 :: 121 :: 74 :: 117 :: 110 :: 74 :: 117 :: 108 :: 65 :: 117 :: 103 :: 83 :: 101 :: 112 :: 79 :: 99 :: 116 :: 78 :: 111 :: 118 :: 68 :: 101 :: 99 :: ([] : List UInt8)) (t.2.1 - 1) ++ [32] ++ numL 4 t.1.toNat ++ [32] ++ timeT t [58] ++ [32, 71, 77, 84] := rfl
    rw [q]
    clear q n1 n2 e e3
    generalize nmI [83, 117, 110, 77, 111, 110, 84, 117, 101, 87, 101, 100, 84, 104, 117, 70, 114, 105, 83, 97, 116] (weekT t) = A at *
    generalize nmI (74 :: 97 :: 110 :: 70 :: 101 :: 98 :: 77 :: 97 :: 114 :: 65 :: 112 :: 114 :: 77 :: 97 :: 121 :: 74 :: 117 :: 110 :: 74 :: 117 :: 108 :: 65 :: 117 :: 103 :: 83 :: 101 :: 112 :: 79 :: 99 :: 116 :: 78 :: 111 :: 118 :: 68 :: 101 :: 99 :: ([] : List UInt8)) (t.2.1 - 1) = B at *
    repeat (first | rw [bind_some'] | rw [grd_t _ (by first | omega | (simp only [numL_len]; omega))])
  · rw [if_neg hr]
    refine Ev.pure.congr fun k => ?_
    rw [F16, tm_eta, right_eq, bind_some', decide_eq_false hr]; rfl
theorem ev_rIso (t : Tm) : Ev (fun k => F22 k t) (orE (rT t) (isoT t)) := by
  unfold orE
  by_cases hr : rT t
  · rw [if_pos hr]
    obtain ⟨N, hN⟩ := ev_nums6 (rT_fits hr)
    refine ⟨N, fun n hn => ?_⟩
    obtain ⟨k1, k2, k3, k4, k5, k6⟩ := hN n hn
    show F22 n t = _
    rw [F22, tm_eta, rRight_eq, bind_some', decide_eq_true hr, k1, k2, k3, k4, k5, k6]
    show iteB (!true) _ _ = _
    rw [Bool.not_true, iteB_f]
    repeat (first | rw [bind_some'] | rw [grd_t _ (by first | omega | (simp only [numL_len]; omega))])
    unfold isoT dateT timeT
    simp only [List.append_assoc]
  · rw [if_neg hr]
    refine Ev.pure.congr fun k => ?_
    rw [F22, tm_eta, rRight_eq, bind_some', decide_eq_false hr]; rfl
theorem ev_rShort (t : Tm) : Ev (fun k => F24 k t) (orE (rT t) (shortT t)) := by
  unfold orE
  by_cases hr : rT t
  · rw [if_pos hr]
    obtain ⟨N, hN⟩ := ev_nums6 (rT_fits hr)
    refine ⟨N, fun n hn => ?_⟩
    obtain ⟨k1, k2, k3, k4, k5, k6⟩ := hN n hn
    show F24 n t = _
    rw [F24, tm_eta, rRight_eq, bind_some', decide_eq_true hr, k1, k2, k3, k4, k5, k6]
    show iteB (!true) _ _ = _
    rw [Bool.not_true, iteB_f]
    repeat (first | rw [bind_some'] | rw [grd_t _ (by first | omega | (simp only [numL_len]; omega))])
    unfold shortT dateT timeT
    simp only [List.append_assoc, List.append_nil, List.nil_append]
  · rw [if_neg hr]
    refine Ev.pure.congr fun k => ?_
    rw [F24, tm_eta, rRight_eq, bind_some', decide_eq_false hr]; rfl
theorem ev_rWeb (t : Tm) : Ev (fun k => F21 k t) (orE (rT t) (webT t)) := by
  unfold orE
  by_cases hr : rT t
  · rw [if_pos hr]
    have hf := rT_fits hr
    obtain ⟨N2, hN2⟩ := ev_nums6 hf
    obtain ⟨N3, hN3⟩ := ev_rWeekday t
    refine ⟨N2 + N3, fun n hn => ?_⟩
    have e3 : F20 n t = some (weekT t) := hN3 n (by omega)
    obtain ⟨k1, k2, k3, k4, k5, k6⟩ := hN2 n (by omega)
    have hb := weekT_bd hr
    obtain ⟨f1, f2, f3, f4, f5, f6⟩ := hf
    have m1 := nmI_len sunL (weekT t) (by omega)
    have m2 := nmI_len janL (t.2.1 - 1) (by omega)
    have q1 : ∀ v : Int, ([83, 117, 110, 77, 111, 110, 84, 117, 101, 87, 101, 100, 84, 104, 117, 70, 114, 105, 83, 97, 116] : List UInt8) = sunL := fun _ => rfl
    have q2 : (74 :: 97 :: 110 :: 70 :: 101 :: 98 :: 77 :: 97 :: 114 :: 65 :: 112 :: 114 :: 77 :: 97 :: 121 :: 74 :: 117 :: 110 :: 74 :: 117 :: 108 :: 65 :: 117 :: 103 :: 83 :: 101 :: 112 :: 79 :: 99 :: 116 :: 78 :: 111 :: 118 :: 68 :: 101 :: 99 :: ([] : List UInt8)) = janL := rfl
    have p1 : (sunL.take (3 * weekT t + 3).toNat).drop (3 * weekT t).toNat = nmI sunL (weekT t) := rfl
    have p2 : (janL.take (3 * t.2.1).toNat).drop (3 * t.2.1 - 3).toNat = nmI janL (t.2.1 - 1) := by
      unfold nmI
      rw [show 3 * (t.2.1 - 1) + 3 = 3 * t.2.1 by omega, show 3 * (t.2.1 - 1) = 3 * t.2.1 - 3 by omega]
    show F21 n t = _
    rw [F21, tm_eta, rRight_eq, bind_some', decide_eq_true hr, e3]
    show iteB (!true) _ _ = _
    rw [Bool.not_true, iteB_f, bind_some']
    rw [w64 (n := 3 * weekT t) (by omega), w64 (n := 3 * weekT t + 3) (by omega), w64 (n := 3 * t.2.1) (by omega), w64 (n := 3 * t.2.1 - 3) (by omega), q1 0, q2, p1, p2, k1, k3, k4, k5, k6]
    have q : webT t = nmI sunL (weekT t) ++ [44, 32] ++ numL 2 t.2.2.1.toNat ++ [32] ++ nmI janL (t.2.1 - 1) ++ [32] ++ numL 4 t.1.toNat ++ [32] ++ timeT t [58] ++ [32, 71, 77, 84] := rfl
    rw [q]
    clear q
    have g1 : (0 : Int) ≤ 3 * weekT t ∧ 3 * weekT t ≤ 3 * weekT t + 3 ∧ 3 * weekT t + 3 ≤ 21 := by omega
    have g2 : (0 : Int) ≤ 3 * t.2.1 - 3 ∧ 3 * t.2.1 - 3 ≤ 3 * t.2.1 ∧ 3 * t.2.1 ≤ 36 := by omega
    generalize nmI sunL (weekT t) = A at *
    generalize nmI janL (t.2.1 - 1) = B at *
    rw [grd_t _ g1, grd_t _ g2]
    repeat (first | rw [bind_some'] | rw [grd_t _ (by first | omega | (simp only [numL_len]; omega))])
    unfold timeT
    simp only [List.append_assoc]
  · rw [if_neg hr]
    refine Ev.pure.congr fun k => ?_
    rw [F21, tm_eta, rRight_eq, bind_some', decide_eq_false hr]; rfl
theorem law_main (v0 : Int) (v1 : Tm) (h0 : okT3 v0) (h1 : okT27 v1) : ∃ n, F5 n v0 v1 = some true := by
  obtain ⟨t, ht, N1, k1⟩ := ev_Of v0 h0
  obtain ⟨u, hu, N2, k2⟩ := ev_rOf v0 h0
  obtain rfl := ofS_one ht hu
  obtain ⟨N3, k3⟩ := ev_Seconds v1
  obtain ⟨N4, k4⟩ := ev_rSeconds v1
  obtain ⟨N5, k5⟩ := ev_Weekday v1
  obtain ⟨N6, k6⟩ := ev_rWeekday v1
  obtain ⟨N7, k7⟩ := ev_Iso v1
  obtain ⟨N8, k8⟩ := ev_rIso v1
  obtain ⟨N9, k9⟩ := ev_Web v1
  obtain ⟨N10, k10⟩ := ev_rWeb v1
  obtain ⟨N11, k11⟩ := ev_Short v1
  obtain ⟨N12, k12⟩ := ev_rShort v1
  refine ⟨N1 + N2 + N3 + N4 + N5 + N6 + N7 + N8 + N9 + N10 + N11 + N12, ?_⟩
  generalize hn : N1 + N2 + N3 + N4 + N5 + N6 + N7 + N8 + N9 + N10 + N11 + N12 = n
  have e1 : F13 n v0 = some t := k1 n (by omega)
  have e2 : F17 n v0 = some t := k2 n (by omega)
  have e3 : F18 n v1 = some (secR v1) := k3 n (by omega)
  have e4 : F19 n v1 = some (secR v1) := k4 n (by omega)
  have e5 : F14 n v1 = some (weekT v1) := k5 n (by omega)
  have e6 : F20 n v1 = some (weekT v1) := k6 n (by omega)
  have e7 : F15 n v1 = some (orE (rT v1) (isoT v1)) := k7 n (by omega)
  have e8 : F22 n v1 = some (orE (rT v1) (isoT v1)) := k8 n (by omega)
  have e9 : F16 n v1 = some (orE (rT v1) (webT v1)) := k9 n (by omega)
  have e10 : F21 n v1 = some (orE (rT v1) (webT v1)) := k10 n (by omega)
  have e11 : F23 n v1 = some (orE (rT v1) (shortT v1)) := k11 n (by omega)
  have e12 : F24 n v1 = some (orE (rT v1) (shortT v1)) := k12 n (by omega)
  have hd : daysOf 2000 2 = 29 := by decide
  rw [F5, tm_eta, e1, e2, e3, e4, e5, e6, e7, e8, e9, e10, e11, e12]
  simp only [bind_some', Leap_eq, rLeap_eq, Days_eq, rDays_eq, beq_self_eq_true, Bool.and_self, iteB_t, hd]
end Go.Proofs.YtdfghdppbfabfaaX

set_option linter.unusedVariables false
namespace Go.Proofs.YtdfghdppbfabfaaX
open Go Go.RowKit Go.Proofs
set_option maxRecDepth 100000
theorem shapedRow (xs : List T) (h : ShapesW Try.prog [3, 28] xs) : FnC Try.prog 5 xs (tb true) := shapedClockTells law_main xs h
end Go.Proofs.YtdfghdppbfabfaaX
namespace Go.Proofs.Ytdfghdppbfabfaa.clockTells
open Go.ChangeShapes Go.WideShapes Go.ChangeAt Go.RowKit
set_option linter.unusedVariables false
theorem own : ownKnob Try.prog.godebug = none := by kernel_rfl
set_option maxRecDepth 100000 in
theorem lifted (os : Os) (started : os.Started) (H : Type) (enc : TypeId × Value → H) :
    ReturnsInHanded {} Try.checked os 5 .any (Rows.clockTellsSpec.pre6 enc Try.prog Try.f5 Rows.clockTellsRow.domain false) (Rows.clockTellsSpec.post enc Try.prog Try.f5 false true false false) := by
  refine returnsInHanded_of_change_sized (C := Try.checked) own started (by kernel_rfl) Try.func5
    (ChangeSpec.witness6 (enc := enc) (C := Try.checked) false ⟨#[], #[.int .i64 0, .agg #[.int .i64 0, .int .i64 0, .int .i64 0, .int .i64 0, .int .i64 0, .int .i64 0]], []⟩ 8 (by kernel_rfl) (by kernel_rfl) (by kernel_rfl) (by kernel_rfl)) ?_
  intro W base args ds gs before hval0 hW hcnd hsz0 _
  exact YtdfghdppbfabfaaX.row_contract (P := Try.prog) (fn := Try.f5) (s := Rows.clockTellsSpec) (ts := [3, 28]) (tb := 4) (L := [3, 28, 27]) (by kernel_rfl) (by kernel_rfl) (by kernel_rfl) (by kernel_rfl) (by kernel_rfl) (by kernel_rfl) rfl
    (fun H ds h => by
      match ds, h with
      | [d0, d1], _ => rfl) YtdfghdppbfabfaaX.shapedRow W base args ds gs before hval0 hW
theorem over : Rows.clockTellsRow.holds Try.pinned (OpenSpec.ofChange Rows.clockTellsSpec) :=
  OpenClaim.holds_of_wide 5 Try.f5 rfl rfl rfl rfl rfl rfl rfl ⟨rfl, rfl, rfl, rfl, rfl⟩ rfl rfl rfl rfl rfl (by kernel_rfl) Try.func5 (by kernel_rfl)
    (of_decide_eq_true (by kernel_rfl)) (by unfold Func.isWrapper; first | (rw [if_pos (by decide +kernel)]; kernel_rfl) | (rw [if_neg (by decide +kernel)]; exact ⟨rfl, rfl⟩))
    (fun os started H enc _ => lifted os started H enc)
theorem proved : Rows.ClockTellsSaid := over
#print axioms proved
end Go.Proofs.Ytdfghdppbfabfaa.clockTells
namespace Go.Proofs.Ytdfghdppbfabfaa
/-- The row, under a short name, for the claim. -/
theorem clockTells_holds : Rows.ClockTellsSaid := clockTells.proved
end Go.Proofs.Ytdfghdppbfabfaa
