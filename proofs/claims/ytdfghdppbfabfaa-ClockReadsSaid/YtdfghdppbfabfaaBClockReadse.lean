/- Part of the proof of ClockReads: walks and plain words, merged. -/
import Derived.Test.YtdfghdppbfabfaaBClockReadsb
import Derived.Test.YtdfghdppbfabfaaBClockReadsd
import Derived.Test.YtdfghdppbfabfaaBClockReadsc
set_option linter.unusedVariables false
set_option linter.unusedSimpArgs false

set_option linter.unusedVariables false
set_option linter.unusedSimpArgs false
namespace Go.Proofs.YtdfghdppbfabfaaX
open Go Go.RowKit Go.Proofs
set_option maxRecDepth 100000
/-! ### shadowboxref15.ReadShort -/
def F34 (n : Nat) (a0 : List UInt8) : Option (((Int) × (Int) × (Int) × (Int) × (Int) × (Int)) × (Bool)) := iteB ((a0.length : Int) != (16 : Int)) (some (((0 : Int), (0 : Int), (0 : Int), (0 : Int), (0 : Int), (0 : Int)), false)) (grd ((4 : Int) ≤ (a0.length : Int)) ((F57 n ((a0.take 4).drop 0)).bind fun v3 => grd ((6 : Int) ≤ (a0.length : Int)) ((F57 n ((a0.take 6).drop 4)).bind fun v5 => grd ((8 : Int) ≤ (a0.length : Int)) ((F57 n ((a0.take 8).drop 6)).bind fun v7 => grd ((11 : Int) ≤ (a0.length : Int)) ((F57 n ((a0.take 11).drop 9)).bind fun v9 => grd ((13 : Int) ≤ (a0.length : Int)) ((F57 n ((a0.take 13).drop 11)).bind fun v11 => grd ((15 : Int) ≤ (a0.length : Int)) ((F57 n ((a0.take 15).drop 13)).bind fun v13 => (F24 n (v3, v5, v7, v9, v11, v13)).bind fun v14 => iteB (!(v14 == a0)) (some (((0 : Int), (0 : Int), (0 : Int), (0 : Int), (0 : Int), (0 : Int)), false)) (some ((v3, v5, v7, v9, v11, v13), true)))))))))
set_option maxHeartbeats 4000000 in
theorem F34_ok : ∀ (n : Nat) (a0 : List UInt8) (r : ((Int) × (Int) × (Int) × (Int) × (Int) × (Int)) × (Bool)), F34 n a0 = some r → FnC Try.prog 34 [.imm (.string (bs a0))] (.tup [.agg [.imm (.int .i64 r.1.1), .imm (.int .i64 r.1.2.1), .imm (.int .i64 r.1.2.2.1), .imm (.int .i64 r.1.2.2.2.1), .imm (.int .i64 r.1.2.2.2.2.1), .imm (.int .i64 r.1.2.2.2.2.2)], .imm (.bool r.2)])
  | n, a0, r, h => by
    unfold F34 at h
    refine FnC.goX mixed Try.func34 (by kernel_rfl) rfl ?_
    simp only [Try.ntmps34, List.length_cons, List.length_nil, List.replicate, List.cons_append, List.nil_append, Nat.reduceAdd, Nat.reduceSub]
    refine runX_seq ?_
    refine runX_regionC fun C hC => ?_
    try simp -implicitDefEqProofs (maxSteps := 4000000) (disch := first | omega | decide | (simp only [go_sem]; omega)) only [go_sem, ↓reduceIte, String.reduceEq, String.reduceNe, reduceCtorEq, Int.reduceEq, Nat.reduceAdd, Nat.reduceSub, Nat.reduceMul, Nat.reduceLT, Nat.reduceLeDiff, Nat.reduceEqDiff, Nat.reduceBEq, Int.reduceToNat, Int.reduceLT, Int.reduceLE, Int.reduceGT, Int.reduceGE, Int.reduceAdd, Int.reduceSub, Int.reduceMul, Int.reduceNeg, Int.reduceBEq, Int.reduceBNe, Int.reducePow, Int.reduceDiv, Int.reduceMod, Int.reduceTDiv, Int.reduceTMod, Int.reduceNatCast]
    repeat (with_reducible refine And.intro (by first | assumption | omega | (simp; done) | (simp; omega)) ?_)
    refine toEnd hC ?_
    refine endX_seq ?_
    refine runX_seq ?_
    refine runX_seq ?_
    refine runX_regionC fun C hC => ?_
    try simp -implicitDefEqProofs (maxSteps := 4000000) (disch := first | omega | decide | (simp only [go_sem]; omega)) only [go_sem, ↓reduceIte, String.reduceEq, String.reduceNe, reduceCtorEq, Int.reduceEq, Nat.reduceAdd, Nat.reduceSub, Nat.reduceMul, Nat.reduceLT, Nat.reduceLeDiff, Nat.reduceEqDiff, Nat.reduceBEq, Int.reduceToNat, Int.reduceLT, Int.reduceLE, Int.reduceGT, Int.reduceGE, Int.reduceAdd, Int.reduceSub, Int.reduceMul, Int.reduceNeg, Int.reduceBEq, Int.reduceBNe, Int.reducePow, Int.reduceDiv, Int.reduceMod, Int.reduceTDiv, Int.reduceTMod, Int.reduceNatCast]
    repeat (with_reducible refine And.intro (by first | assumption | omega | (simp; done) | (simp; omega)) ?_)
    refine toEnd hC ?_
    refine endX_seq ?_
    rcases iteB_some h with ⟨c1, h⟩ | ⟨c1, h⟩
    · refine runX_condT rfl c1 ?_
      refine runX_seq ?_
      refine runX_regionC fun C hC => ?_
      try simp -implicitDefEqProofs (maxSteps := 4000000) (disch := first | omega | decide | (simp only [go_sem]; omega)) only [go_sem, ↓reduceIte, String.reduceEq, String.reduceNe, reduceCtorEq, Int.reduceEq, Nat.reduceAdd, Nat.reduceSub, Nat.reduceMul, Nat.reduceLT, Nat.reduceLeDiff, Nat.reduceEqDiff, Nat.reduceBEq, Int.reduceToNat, Int.reduceLT, Int.reduceLE, Int.reduceGT, Int.reduceGE, Int.reduceAdd, Int.reduceSub, Int.reduceMul, Int.reduceNeg, Int.reduceBEq, Int.reduceBNe, Int.reducePow, Int.reduceDiv, Int.reduceMod, Int.reduceTDiv, Int.reduceTMod, Int.reduceNatCast]
      repeat (with_reducible refine And.intro (by first | assumption | omega | (simp; done) | (simp; omega)) ?_)
      refine buildW_of [.imm (.int .i64 (0 : Int)), .imm (.int .i64 (0 : Int)), .imm (.int .i64 (0 : Int)), .imm (.int .i64 (0 : Int)), .imm (.int .i64 (0 : Int)), .imm (.int .i64 (0 : Int))] (by kernel_rfl) ?_
      try simp -implicitDefEqProofs (maxSteps := 4000000) (disch := first | omega | decide | (simp only [go_sem]; omega)) only [go_sem, ↓reduceIte, String.reduceEq, String.reduceNe, reduceCtorEq, Int.reduceEq, Nat.reduceAdd, Nat.reduceSub, Nat.reduceMul, Nat.reduceLT, Nat.reduceLeDiff, Nat.reduceEqDiff, Nat.reduceBEq, Int.reduceToNat, Int.reduceLT, Int.reduceLE, Int.reduceGT, Int.reduceGE, Int.reduceAdd, Int.reduceSub, Int.reduceMul, Int.reduceNeg, Int.reduceBEq, Int.reduceBNe, Int.reducePow, Int.reduceDiv, Int.reduceMod, Int.reduceTDiv, Int.reduceTMod, Int.reduceNatCast]
      repeat (with_reducible refine And.intro (by first | assumption | omega | (simp; done) | (simp; omega)) ?_)
      refine toEnd hC ?_
      refine endX_seq ?_
      refine runX_ret ?_
      refine endX_seqR ?_
      refine endX_q ?_
      obtain rfl := Option.some.inj h
      show RetW _ _ _ _ _
      simp only [RetW]
      (try simp -implicitDefEqProofs (maxSteps := 4000000) (disch := first | omega | decide | (simp only [go_sem]; omega)) only [go_sem, ↓reduceIte, String.reduceEq, String.reduceNe, reduceCtorEq, Int.reduceEq, Nat.reduceAdd, Nat.reduceSub, Nat.reduceMul, Nat.reduceLT, Nat.reduceLeDiff, Nat.reduceEqDiff, Nat.reduceBEq, Int.reduceToNat, Int.reduceLT, Int.reduceLE, Int.reduceGT, Int.reduceGE, Int.reduceAdd, Int.reduceSub, Int.reduceMul, Int.reduceNeg, Int.reduceBEq, Int.reduceBNe, Int.reducePow, Int.reduceDiv, Int.reduceMod, Int.reduceTDiv, Int.reduceTMod, Int.reduceNatCast])
      first | exact leT_refl _ | (refine ⟨rfl, ?_⟩; first | exact leT_refl _ | exact leT_sl | exact leT_sln | exact leT_nil | (refine leT_tup (by repeat (first | exact leL_refl _ | refine leL_cons (by first | exact leT_refl _ | exact leT_virt | exact leT_junk _ | exact leT_sl | exact leT_sln | exact leT_nil) ?_))) | (refine leT_agg (by repeat (first | exact leL_refl _ | refine leL_cons (by first | exact leT_refl _ | exact leT_virt | exact leT_junk _ | exact leT_sl | exact leT_sln | exact leT_nil) ?_)))) | (first | exact leT_refl _ | exact leT_sl | exact leT_sln | exact leT_nil | (refine leT_tup (by repeat (first | exact leL_refl _ | refine leL_cons (by first | exact leT_refl _ | exact leT_virt | exact leT_junk _ | exact leT_sl | exact leT_sln | exact leT_nil) ?_))) | (refine leT_agg (by repeat (first | exact leL_refl _ | refine leL_cons (by first | exact leT_refl _ | exact leT_virt | exact leT_junk _ | exact leT_sl | exact leT_sln | exact leT_nil) ?_))))
    · refine runX_condF rfl c1 ?_
      refine runX_skip ?_
      refine endX_seq ?_
      refine runX_seq ?_
      refine runX_drawC mixed (by kernel_rfl) fun C hC => ?_
      obtain ⟨g2, h⟩ := grd_some h
      obtain ⟨v3, h3, h⟩ := bnd_some h
      try simp -implicitDefEqProofs (maxSteps := 4000000) (disch := first | omega | decide | (simp only [go_sem]; omega)) only [go_sem, ↓reduceIte, String.reduceEq, String.reduceNe, reduceCtorEq, Int.reduceEq, Nat.reduceAdd, Nat.reduceSub, Nat.reduceMul, Nat.reduceLT, Nat.reduceLeDiff, Nat.reduceEqDiff, Nat.reduceBEq, Int.reduceToNat, Int.reduceLT, Int.reduceLE, Int.reduceGT, Int.reduceGE, Int.reduceAdd, Int.reduceSub, Int.reduceMul, Int.reduceNeg, Int.reduceBEq, Int.reduceBNe, Int.reducePow, Int.reduceDiv, Int.reduceMod, Int.reduceTDiv, Int.reduceTMod, Int.reduceNatCast]
      repeat (with_reducible refine And.intro (by first | assumption | omega | (simp; done) | (simp; omega)) ?_)
      refine callD_X (F57_ok n ((a0.take 4).drop 0) _ h3) (by repeat (first | exact leL_refl _ | refine leL_cons (by first | exact leT_refl _ | exact leT_virt | exact leT_junk _ | exact leT_sl | exact leT_sln | exact leT_nil) ?_)) ?_
      obtain ⟨g4, h⟩ := grd_some h
      obtain ⟨v5, h5, h⟩ := bnd_some h
      try simp -implicitDefEqProofs (maxSteps := 4000000) (disch := first | omega | decide | (simp only [go_sem]; omega)) only [go_sem, ↓reduceIte, String.reduceEq, String.reduceNe, reduceCtorEq, Int.reduceEq, Nat.reduceAdd, Nat.reduceSub, Nat.reduceMul, Nat.reduceLT, Nat.reduceLeDiff, Nat.reduceEqDiff, Nat.reduceBEq, Int.reduceToNat, Int.reduceLT, Int.reduceLE, Int.reduceGT, Int.reduceGE, Int.reduceAdd, Int.reduceSub, Int.reduceMul, Int.reduceNeg, Int.reduceBEq, Int.reduceBNe, Int.reducePow, Int.reduceDiv, Int.reduceMod, Int.reduceTDiv, Int.reduceTMod, Int.reduceNatCast]
      repeat (with_reducible refine And.intro (by first | assumption | omega | (simp; done) | (simp; omega)) ?_)
      refine callD_X (F57_ok n ((a0.take 6).drop 4) _ h5) (by repeat (first | exact leL_refl _ | refine leL_cons (by first | exact leT_refl _ | exact leT_virt | exact leT_junk _ | exact leT_sl | exact leT_sln | exact leT_nil) ?_)) ?_
      obtain ⟨g6, h⟩ := grd_some h
      obtain ⟨v7, h7, h⟩ := bnd_some h
      try simp -implicitDefEqProofs (maxSteps := 4000000) (disch := first | omega | decide | (simp only [go_sem]; omega)) only [go_sem, ↓reduceIte, String.reduceEq, String.reduceNe, reduceCtorEq, Int.reduceEq, Nat.reduceAdd, Nat.reduceSub, Nat.reduceMul, Nat.reduceLT, Nat.reduceLeDiff, Nat.reduceEqDiff, Nat.reduceBEq, Int.reduceToNat, Int.reduceLT, Int.reduceLE, Int.reduceGT, Int.reduceGE, Int.reduceAdd, Int.reduceSub, Int.reduceMul, Int.reduceNeg, Int.reduceBEq, Int.reduceBNe, Int.reducePow, Int.reduceDiv, Int.reduceMod, Int.reduceTDiv, Int.reduceTMod, Int.reduceNatCast]
      repeat (with_reducible refine And.intro (by first | assumption | omega | (simp; done) | (simp; omega)) ?_)
      refine callD_X (F57_ok n ((a0.take 8).drop 6) _ h7) (by repeat (first | exact leL_refl _ | refine leL_cons (by first | exact leT_refl _ | exact leT_virt | exact leT_junk _ | exact leT_sl | exact leT_sln | exact leT_nil) ?_)) ?_
      obtain ⟨g8, h⟩ := grd_some h
      obtain ⟨v9, h9, h⟩ := bnd_some h
      try simp -implicitDefEqProofs (maxSteps := 4000000) (disch := first | omega | decide | (simp only [go_sem]; omega)) only [go_sem, ↓reduceIte, String.reduceEq, String.reduceNe, reduceCtorEq, Int.reduceEq, Nat.reduceAdd, Nat.reduceSub, Nat.reduceMul, Nat.reduceLT, Nat.reduceLeDiff, Nat.reduceEqDiff, Nat.reduceBEq, Int.reduceToNat, Int.reduceLT, Int.reduceLE, Int.reduceGT, Int.reduceGE, Int.reduceAdd, Int.reduceSub, Int.reduceMul, Int.reduceNeg, Int.reduceBEq, Int.reduceBNe, Int.reducePow, Int.reduceDiv, Int.reduceMod, Int.reduceTDiv, Int.reduceTMod, Int.reduceNatCast]
      repeat (with_reducible refine And.intro (by first | assumption | omega | (simp; done) | (simp; omega)) ?_)
      refine callD_X (F57_ok n ((a0.take 11).drop 9) _ h9) (by repeat (first | exact leL_refl _ | refine leL_cons (by first | exact leT_refl _ | exact leT_virt | exact leT_junk _ | exact leT_sl | exact leT_sln | exact leT_nil) ?_)) ?_
      obtain ⟨g10, h⟩ := grd_some h
      obtain ⟨v11, h11, h⟩ := bnd_some h
      try simp -implicitDefEqProofs (maxSteps := 4000000) (disch := first | omega | decide | (simp only [go_sem]; omega)) only [go_sem, ↓reduceIte, String.reduceEq, String.reduceNe, reduceCtorEq, Int.reduceEq, Nat.reduceAdd, Nat.reduceSub, Nat.reduceMul, Nat.reduceLT, Nat.reduceLeDiff, Nat.reduceEqDiff, Nat.reduceBEq, Int.reduceToNat, Int.reduceLT, Int.reduceLE, Int.reduceGT, Int.reduceGE, Int.reduceAdd, Int.reduceSub, Int.reduceMul, Int.reduceNeg, Int.reduceBEq, Int.reduceBNe, Int.reducePow, Int.reduceDiv, Int.reduceMod, Int.reduceTDiv, Int.reduceTMod, Int.reduceNatCast]
      repeat (with_reducible refine And.intro (by first | assumption | omega | (simp; done) | (simp; omega)) ?_)
      refine callD_X (F57_ok n ((a0.take 13).drop 11) _ h11) (by repeat (first | exact leL_refl _ | refine leL_cons (by first | exact leT_refl _ | exact leT_virt | exact leT_junk _ | exact leT_sl | exact leT_sln | exact leT_nil) ?_)) ?_
      obtain ⟨g12, h⟩ := grd_some h
      obtain ⟨v13, h13, h⟩ := bnd_some h
      try simp -implicitDefEqProofs (maxSteps := 4000000) (disch := first | omega | decide | (simp only [go_sem]; omega)) only [go_sem, ↓reduceIte, String.reduceEq, String.reduceNe, reduceCtorEq, Int.reduceEq, Nat.reduceAdd, Nat.reduceSub, Nat.reduceMul, Nat.reduceLT, Nat.reduceLeDiff, Nat.reduceEqDiff, Nat.reduceBEq, Int.reduceToNat, Int.reduceLT, Int.reduceLE, Int.reduceGT, Int.reduceGE, Int.reduceAdd, Int.reduceSub, Int.reduceMul, Int.reduceNeg, Int.reduceBEq, Int.reduceBNe, Int.reducePow, Int.reduceDiv, Int.reduceMod, Int.reduceTDiv, Int.reduceTMod, Int.reduceNatCast]
      repeat (with_reducible refine And.intro (by first | assumption | omega | (simp; done) | (simp; omega)) ?_)
      refine callD_X (F57_ok n ((a0.take 15).drop 13) _ h13) (by repeat (first | exact leL_refl _ | refine leL_cons (by first | exact leT_refl _ | exact leT_virt | exact leT_junk _ | exact leT_sl | exact leT_sln | exact leT_nil) ?_)) ?_
      try simp -implicitDefEqProofs (maxSteps := 4000000) (disch := first | omega | decide | (simp only [go_sem]; omega)) only [go_sem, ↓reduceIte, String.reduceEq, String.reduceNe, reduceCtorEq, Int.reduceEq, Nat.reduceAdd, Nat.reduceSub, Nat.reduceMul, Nat.reduceLT, Nat.reduceLeDiff, Nat.reduceEqDiff, Nat.reduceBEq, Int.reduceToNat, Int.reduceLT, Int.reduceLE, Int.reduceGT, Int.reduceGE, Int.reduceAdd, Int.reduceSub, Int.reduceMul, Int.reduceNeg, Int.reduceBEq, Int.reduceBNe, Int.reducePow, Int.reduceDiv, Int.reduceMod, Int.reduceTDiv, Int.reduceTMod, Int.reduceNatCast]
      repeat (with_reducible refine And.intro (by first | assumption | omega | (simp; done) | (simp; omega)) ?_)
      refine buildW_of [.imm (.int .i64 v3), .imm (.int .i64 v5), .imm (.int .i64 v7), .imm (.int .i64 v9), .imm (.int .i64 v11), .imm (.int .i64 v13)] (by kernel_rfl) ?_
      try simp -implicitDefEqProofs (maxSteps := 4000000) (disch := first | omega | decide | (simp only [go_sem]; omega)) only [go_sem, ↓reduceIte, String.reduceEq, String.reduceNe, reduceCtorEq, Int.reduceEq, Nat.reduceAdd, Nat.reduceSub, Nat.reduceMul, Nat.reduceLT, Nat.reduceLeDiff, Nat.reduceEqDiff, Nat.reduceBEq, Int.reduceToNat, Int.reduceLT, Int.reduceLE, Int.reduceGT, Int.reduceGE, Int.reduceAdd, Int.reduceSub, Int.reduceMul, Int.reduceNeg, Int.reduceBEq, Int.reduceBNe, Int.reducePow, Int.reduceDiv, Int.reduceMod, Int.reduceTDiv, Int.reduceTMod, Int.reduceNatCast]
      repeat (with_reducible refine And.intro (by first | assumption | omega | (simp; done) | (simp; omega)) ?_)
      refine toEnd hC ?_
      refine endX_seq ?_
      refine runX_seq ?_
      refine runX_seq ?_
      refine runX_regionC fun C hC => ?_
      obtain ⟨v14, h14, h⟩ := bnd_some h
      try simp -implicitDefEqProofs (maxSteps := 4000000) (disch := first | omega | decide | (simp only [go_sem]; omega)) only [go_sem, ↓reduceIte, String.reduceEq, String.reduceNe, reduceCtorEq, Int.reduceEq, Nat.reduceAdd, Nat.reduceSub, Nat.reduceMul, Nat.reduceLT, Nat.reduceLeDiff, Nat.reduceEqDiff, Nat.reduceBEq, Int.reduceToNat, Int.reduceLT, Int.reduceLE, Int.reduceGT, Int.reduceGE, Int.reduceAdd, Int.reduceSub, Int.reduceMul, Int.reduceNeg, Int.reduceBEq, Int.reduceBNe, Int.reducePow, Int.reduceDiv, Int.reduceMod, Int.reduceTDiv, Int.reduceTMod, Int.reduceNatCast]
      repeat (with_reducible refine And.intro (by first | assumption | omega | (simp; done) | (simp; omega)) ?_)
      refine callG_X (F24_ok n (v3, v5, v7, v9, v11, v13) _ h14) (by repeat (first | exact leL_refl _ | refine leL_cons (by first | exact leT_refl _ | exact leT_virt | exact leT_junk _ | exact leT_sl | exact leT_sln | exact leT_nil) ?_)) ?_
      try simp -implicitDefEqProofs (maxSteps := 4000000) (disch := first | omega | decide | (simp only [go_sem]; omega)) only [go_sem, ↓reduceIte, String.reduceEq, String.reduceNe, reduceCtorEq, Int.reduceEq, Nat.reduceAdd, Nat.reduceSub, Nat.reduceMul, Nat.reduceLT, Nat.reduceLeDiff, Nat.reduceEqDiff, Nat.reduceBEq, Int.reduceToNat, Int.reduceLT, Int.reduceLE, Int.reduceGT, Int.reduceGE, Int.reduceAdd, Int.reduceSub, Int.reduceMul, Int.reduceNeg, Int.reduceBEq, Int.reduceBNe, Int.reducePow, Int.reduceDiv, Int.reduceMod, Int.reduceTDiv, Int.reduceTMod, Int.reduceNatCast]
      repeat (with_reducible refine And.intro (by first | assumption | omega | (simp; done) | (simp; omega)) ?_)
      refine toEnd hC ?_
      refine endX_seq ?_
      rcases iteB_some h with ⟨c15, h⟩ | ⟨c15, h⟩
      · refine runX_condT rfl c15 ?_
        refine runX_seq ?_
        refine runX_regionC fun C hC => ?_
        try simp -implicitDefEqProofs (maxSteps := 4000000) (disch := first | omega | decide | (simp only [go_sem]; omega)) only [go_sem, ↓reduceIte, String.reduceEq, String.reduceNe, reduceCtorEq, Int.reduceEq, Nat.reduceAdd, Nat.reduceSub, Nat.reduceMul, Nat.reduceLT, Nat.reduceLeDiff, Nat.reduceEqDiff, Nat.reduceBEq, Int.reduceToNat, Int.reduceLT, Int.reduceLE, Int.reduceGT, Int.reduceGE, Int.reduceAdd, Int.reduceSub, Int.reduceMul, Int.reduceNeg, Int.reduceBEq, Int.reduceBNe, Int.reducePow, Int.reduceDiv, Int.reduceMod, Int.reduceTDiv, Int.reduceTMod, Int.reduceNatCast]
        repeat (with_reducible refine And.intro (by first | assumption | omega | (simp; done) | (simp; omega)) ?_)
        refine buildW_of [.imm (.int .i64 (0 : Int)), .imm (.int .i64 (0 : Int)), .imm (.int .i64 (0 : Int)), .imm (.int .i64 (0 : Int)), .imm (.int .i64 (0 : Int)), .imm (.int .i64 (0 : Int))] (by kernel_rfl) ?_
        try simp -implicitDefEqProofs (maxSteps := 4000000) (disch := first | omega | decide | (simp only [go_sem]; omega)) only [go_sem, ↓reduceIte, String.reduceEq, String.reduceNe, reduceCtorEq, Int.reduceEq, Nat.reduceAdd, Nat.reduceSub, Nat.reduceMul, Nat.reduceLT, Nat.reduceLeDiff, Nat.reduceEqDiff, Nat.reduceBEq, Int.reduceToNat, Int.reduceLT, Int.reduceLE, Int.reduceGT, Int.reduceGE, Int.reduceAdd, Int.reduceSub, Int.reduceMul, Int.reduceNeg, Int.reduceBEq, Int.reduceBNe, Int.reducePow, Int.reduceDiv, Int.reduceMod, Int.reduceTDiv, Int.reduceTMod, Int.reduceNatCast]
        repeat (with_reducible refine And.intro (by first | assumption | omega | (simp; done) | (simp; omega)) ?_)
        refine toEnd hC ?_
        refine endX_seq ?_
        refine runX_ret ?_
        refine endX_seqR ?_
        refine endX_q ?_
        obtain rfl := Option.some.inj h
        show RetW _ _ _ _ _
        simp only [RetW]
        (try simp -implicitDefEqProofs (maxSteps := 4000000) (disch := first | omega | decide | (simp only [go_sem]; omega)) only [go_sem, ↓reduceIte, String.reduceEq, String.reduceNe, reduceCtorEq, Int.reduceEq, Nat.reduceAdd, Nat.reduceSub, Nat.reduceMul, Nat.reduceLT, Nat.reduceLeDiff, Nat.reduceEqDiff, Nat.reduceBEq, Int.reduceToNat, Int.reduceLT, Int.reduceLE, Int.reduceGT, Int.reduceGE, Int.reduceAdd, Int.reduceSub, Int.reduceMul, Int.reduceNeg, Int.reduceBEq, Int.reduceBNe, Int.reducePow, Int.reduceDiv, Int.reduceMod, Int.reduceTDiv, Int.reduceTMod, Int.reduceNatCast])
        first | exact leT_refl _ | (refine ⟨rfl, ?_⟩; first | exact leT_refl _ | exact leT_sl | exact leT_sln | exact leT_nil | (refine leT_tup (by repeat (first | exact leL_refl _ | refine leL_cons (by first | exact leT_refl _ | exact leT_virt | exact leT_junk _ | exact leT_sl | exact leT_sln | exact leT_nil) ?_))) | (refine leT_agg (by repeat (first | exact leL_refl _ | refine leL_cons (by first | exact leT_refl _ | exact leT_virt | exact leT_junk _ | exact leT_sl | exact leT_sln | exact leT_nil) ?_)))) | (first | exact leT_refl _ | exact leT_sl | exact leT_sln | exact leT_nil | (refine leT_tup (by repeat (first | exact leL_refl _ | refine leL_cons (by first | exact leT_refl _ | exact leT_virt | exact leT_junk _ | exact leT_sl | exact leT_sln | exact leT_nil) ?_))) | (refine leT_agg (by repeat (first | exact leL_refl _ | refine leL_cons (by first | exact leT_refl _ | exact leT_virt | exact leT_junk _ | exact leT_sl | exact leT_sln | exact leT_nil) ?_))))
      · refine runX_condF rfl c15 ?_
        refine runX_skip ?_
        refine endX_seq ?_
        refine runX_seq ?_
        refine runX_regionC fun C hC => ?_
        try simp -implicitDefEqProofs (maxSteps := 4000000) (disch := first | omega | decide | (simp only [go_sem]; omega)) only [go_sem, ↓reduceIte, String.reduceEq, String.reduceNe, reduceCtorEq, Int.reduceEq, Nat.reduceAdd, Nat.reduceSub, Nat.reduceMul, Nat.reduceLT, Nat.reduceLeDiff, Nat.reduceEqDiff, Nat.reduceBEq, Int.reduceToNat, Int.reduceLT, Int.reduceLE, Int.reduceGT, Int.reduceGE, Int.reduceAdd, Int.reduceSub, Int.reduceMul, Int.reduceNeg, Int.reduceBEq, Int.reduceBNe, Int.reducePow, Int.reduceDiv, Int.reduceMod, Int.reduceTDiv, Int.reduceTMod, Int.reduceNatCast]
        repeat (with_reducible refine And.intro (by first | assumption | omega | (simp; done) | (simp; omega)) ?_)
        refine toEnd hC ?_
        refine endX_seq ?_
        refine runX_ret ?_
        refine endX_q ?_
        obtain rfl := Option.some.inj h
        show RetW _ _ _ _ _
        simp only [RetW]
        (try simp -implicitDefEqProofs (maxSteps := 4000000) (disch := first | omega | decide | (simp only [go_sem]; omega)) only [go_sem, ↓reduceIte, String.reduceEq, String.reduceNe, reduceCtorEq, Int.reduceEq, Nat.reduceAdd, Nat.reduceSub, Nat.reduceMul, Nat.reduceLT, Nat.reduceLeDiff, Nat.reduceEqDiff, Nat.reduceBEq, Int.reduceToNat, Int.reduceLT, Int.reduceLE, Int.reduceGT, Int.reduceGE, Int.reduceAdd, Int.reduceSub, Int.reduceMul, Int.reduceNeg, Int.reduceBEq, Int.reduceBNe, Int.reducePow, Int.reduceDiv, Int.reduceMod, Int.reduceTDiv, Int.reduceTMod, Int.reduceNatCast])
        first | exact leT_refl _ | (refine ⟨rfl, ?_⟩; first | exact leT_refl _ | exact leT_sl | exact leT_sln | exact leT_nil | (refine leT_tup (by repeat (first | exact leL_refl _ | refine leL_cons (by first | exact leT_refl _ | exact leT_virt | exact leT_junk _ | exact leT_sl | exact leT_sln | exact leT_nil) ?_))) | (refine leT_agg (by repeat (first | exact leL_refl _ | refine leL_cons (by first | exact leT_refl _ | exact leT_virt | exact leT_junk _ | exact leT_sl | exact leT_sln | exact leT_nil) ?_)))) | (first | exact leT_refl _ | exact leT_sl | exact leT_sln | exact leT_nil | (refine leT_tup (by repeat (first | exact leL_refl _ | refine leL_cons (by first | exact leT_refl _ | exact leT_virt | exact leT_junk _ | exact leT_sl | exact leT_sln | exact leT_nil) ?_))) | (refine leT_agg (by repeat (first | exact leL_refl _ | refine leL_cons (by first | exact leT_refl _ | exact leT_virt | exact leT_junk _ | exact leT_sl | exact leT_sln | exact leT_nil) ?_))))
end Go.Proofs.YtdfghdppbfabfaaX

set_option linter.unusedVariables false
set_option linter.unusedSimpArgs false
namespace Go.Proofs.YtdfghdppbfabfaaX
open Go Go.RowKit Go.Proofs
set_option maxRecDepth 100000
/-! ### shadowboxlaw15.ClockReads -/
def F6_S1 (x3 : List UInt8) : St := ⟨[.imm (.string (bs x3)), .junk, .junk, .junk, .junk, .junk, .junk, .junk, .junk, .junk, .junk, .junk, .junk, .junk, .junk, .junk, .junk, .junk, .junk, .junk, .junk, .junk, .junk, .junk, .junk, .junk, .junk, .junk, .junk, .junk, .junk, .junk, .junk, .junk, .junk, .junk, .junk, .junk, .junk, .junk, .junk, .junk, .junk, .junk, .junk, .junk, .junk, .junk, .junk, .junk, .junk, .junk, .junk, .junk, .junk, .junk, .junk, .junk, .junk, .junk, .junk, .junk, .junk, .junk, .junk, .junk, .junk, .junk, .junk, .junk, .junk, .junk, .junk, .junk, .junk, .junk, .junk, .junk, .junk, .junk, .junk, .junk, .junk, .junk, .junk, .junk, .junk, .junk, .junk, .junk, .junk, .junk], []⟩
def F6_J1 (n : Nat) (x3 : List UInt8) : Option (Bool) := (F29 n x3).bind fun v4 => (F30 n x3).bind fun v5 => (F31 n x3).bind fun v6 => (F32 n x3).bind fun v7 => (F33 n x3).bind fun v8 => (F34 n x3).bind fun v9 => (F29 n (83 :: 117 :: 110 :: 44 :: 32 :: 48 :: 54 :: 32 :: 78 :: 111 :: 118 :: 32 :: 49 :: 57 :: 57 :: 52 :: 32 :: 48 :: 56 :: 58 :: 52 :: 57 :: 58 :: 51 :: 55 :: 32 :: 71 :: 77 :: 84 :: ([] : List UInt8))).bind fun v10 => iteB ((v4.1.1 == v5.1.1) && ((v4.1.2.1 == v5.1.2.1) && ((v4.1.2.2.1 == v5.1.2.2.1) && ((v4.1.2.2.2.1 == v5.1.2.2.2.1) && ((v4.1.2.2.2.2.1 == v5.1.2.2.2.2.1) && (v4.1.2.2.2.2.2 == v5.1.2.2.2.2.2)))))) (iteB (v4.2 == v5.2) (iteB ((v6.1.1 == v7.1.1) && ((v6.1.2.1 == v7.1.2.1) && ((v6.1.2.2.1 == v7.1.2.2.1) && ((v6.1.2.2.2.1 == v7.1.2.2.2.1) && ((v6.1.2.2.2.2.1 == v7.1.2.2.2.2.1) && (v6.1.2.2.2.2.2 == v7.1.2.2.2.2.2)))))) (iteB (v6.2 == v7.2) (iteB ((v8.1.1 == v9.1.1) && ((v8.1.2.1 == v9.1.2.1) && ((v8.1.2.2.1 == v9.1.2.2.1) && ((v8.1.2.2.2.1 == v9.1.2.2.2.1) && ((v8.1.2.2.2.2.1 == v9.1.2.2.2.2.1) && (v8.1.2.2.2.2.2 == v9.1.2.2.2.2.2)))))) (iteB (v8.2 == v9.2) (iteB v10.2 (some (v10.1.2.2.2.1 == (8 : Int))) (some false)) (some false)) (some false)) (some false)) (some false)) (some false)) (some false)
def F6 (n : Nat) (a0 : List UInt8) : Option (Bool) := iteB (decide ((200 : Int) < (a0.length : Int))) (grd ((200 : Int) ≤ (a0.length : Int)) (F6_J1 n (a0.take 200))) (F6_J1 n a0)
set_option maxHeartbeats 4000000 in
theorem F6_ok : ∀ (n : Nat) (a0 : List UInt8) (r : Bool), F6 n a0 = some r → FnC Try.prog 6 [.imm (.string (bs a0))] (.imm (.bool r))
  | n, a0, r, h => by
    unfold F6 at h
    refine FnC.goX mixed Try.func6 (by kernel_rfl) rfl ?_
    simp only [Try.ntmps6, List.length_cons, List.length_nil, List.replicate, List.cons_append, List.nil_append, Nat.reduceAdd, Nat.reduceSub]
    refine runX_seq ?_
    refine runX_regionC fun C hC => ?_
    try simp -implicitDefEqProofs (maxSteps := 4000000) (disch := first | omega | decide | (simp only [go_sem]; omega)) only [go_sem, ↓reduceIte, String.reduceEq, String.reduceNe, reduceCtorEq, Int.reduceEq, Nat.reduceAdd, Nat.reduceSub, Nat.reduceMul, Nat.reduceLT, Nat.reduceLeDiff, Nat.reduceEqDiff, Nat.reduceBEq, Int.reduceToNat, Int.reduceLT, Int.reduceLE, Int.reduceGT, Int.reduceGE, Int.reduceAdd, Int.reduceSub, Int.reduceMul, Int.reduceNeg, Int.reduceBEq, Int.reduceBNe, Int.reducePow, Int.reduceDiv, Int.reduceMod, Int.reduceTDiv, Int.reduceTMod, Int.reduceNatCast]
    repeat (with_reducible refine And.intro (by first | assumption | omega | (simp; done) | (simp; omega)) ?_)
    refine toEnd hC ?_
    refine endX_seq ?_
    refine runX_meet [0] (fun S => ∃ (x3 : List UInt8), S = F6_S1 x3 ∧ F6_J1 n x3 = some r) ?_ ?_
    · refine runX_seq ?_
      refine runX_regionC fun C hC => ?_
      try simp -implicitDefEqProofs (maxSteps := 4000000) (disch := first | omega | decide | (simp only [go_sem]; omega)) only [go_sem, ↓reduceIte, String.reduceEq, String.reduceNe, reduceCtorEq, Int.reduceEq, Nat.reduceAdd, Nat.reduceSub, Nat.reduceMul, Nat.reduceLT, Nat.reduceLeDiff, Nat.reduceEqDiff, Nat.reduceBEq, Int.reduceToNat, Int.reduceLT, Int.reduceLE, Int.reduceGT, Int.reduceGE, Int.reduceAdd, Int.reduceSub, Int.reduceMul, Int.reduceNeg, Int.reduceBEq, Int.reduceBNe, Int.reducePow, Int.reduceDiv, Int.reduceMod, Int.reduceTDiv, Int.reduceTMod, Int.reduceNatCast]
      repeat (with_reducible refine And.intro (by first | assumption | omega | (simp; done) | (simp; omega)) ?_)
      refine toEnd hC ?_
      refine endX_seq ?_
      rcases iteB_some h with ⟨c1, h⟩ | ⟨c1, h⟩
      · refine runX_condT rfl c1 ?_
        refine runX_regionC fun C hC => ?_
        obtain ⟨g2, h⟩ := grd_some h
        try simp -implicitDefEqProofs (maxSteps := 4000000) (disch := first | omega | decide | (simp only [go_sem]; omega)) only [go_sem, ↓reduceIte, String.reduceEq, String.reduceNe, reduceCtorEq, Int.reduceEq, Nat.reduceAdd, Nat.reduceSub, Nat.reduceMul, Nat.reduceLT, Nat.reduceLeDiff, Nat.reduceEqDiff, Nat.reduceBEq, Int.reduceToNat, Int.reduceLT, Int.reduceLE, Int.reduceGT, Int.reduceGE, Int.reduceAdd, Int.reduceSub, Int.reduceMul, Int.reduceNeg, Int.reduceBEq, Int.reduceBNe, Int.reducePow, Int.reduceDiv, Int.reduceMod, Int.reduceTDiv, Int.reduceTMod, Int.reduceNatCast]
        repeat (with_reducible refine And.intro (by first | assumption | omega | (simp; done) | (simp; omega)) ?_)
        refine toEnd hC ?_
        refine endX_q (meetQ_normal ⟨F6_S1 (a0.take 200), ?_, (a0.take 200), rfl, h⟩)
        simp only [F6_S1]
        (try simp -implicitDefEqProofs (maxSteps := 4000000) (disch := first | omega | decide | (simp only [go_sem]; omega)) only [go_sem, ↓reduceIte, String.reduceEq, String.reduceNe, reduceCtorEq, Int.reduceEq, Nat.reduceAdd, Nat.reduceSub, Nat.reduceMul, Nat.reduceLT, Nat.reduceLeDiff, Nat.reduceEqDiff, Nat.reduceBEq, Int.reduceToNat, Int.reduceLT, Int.reduceLE, Int.reduceGT, Int.reduceGE, Int.reduceAdd, Int.reduceSub, Int.reduceMul, Int.reduceNeg, Int.reduceBEq, Int.reduceBNe, Int.reducePow, Int.reduceDiv, Int.reduceMod, Int.reduceTDiv, Int.reduceTMod, Int.reduceNatCast])
        first | exact leS_refl _ | (refine leS_le ?_ ?_ <;> first | exact leL_refl _ | exact leOs_refl _ | (repeat (first | exact leL_refl _ | refine leL_cons (by first | exact leT_refl _ | exact leT_virt | exact leT_junk _ | exact leT_sl | exact leT_sln | exact leT_nil) ?_)))
      · refine runX_condF rfl c1 ?_
        refine runX_skip ?_
        refine endX_q (meetQ_normal ⟨F6_S1 a0, ?_, a0, rfl, h⟩)
        simp only [F6_S1]
        (try simp -implicitDefEqProofs (maxSteps := 4000000) (disch := first | omega | decide | (simp only [go_sem]; omega)) only [go_sem, ↓reduceIte, String.reduceEq, String.reduceNe, reduceCtorEq, Int.reduceEq, Nat.reduceAdd, Nat.reduceSub, Nat.reduceMul, Nat.reduceLT, Nat.reduceLeDiff, Nat.reduceEqDiff, Nat.reduceBEq, Int.reduceToNat, Int.reduceLT, Int.reduceLE, Int.reduceGT, Int.reduceGE, Int.reduceAdd, Int.reduceSub, Int.reduceMul, Int.reduceNeg, Int.reduceBEq, Int.reduceBNe, Int.reducePow, Int.reduceDiv, Int.reduceMod, Int.reduceTDiv, Int.reduceTMod, Int.reduceNatCast])
        first | exact leS_refl _ | (refine leS_le ?_ ?_ <;> first | exact leL_refl _ | exact leOs_refl _ | (repeat (first | exact leL_refl _ | refine leL_cons (by first | exact leT_refl _ | exact leT_virt | exact leT_junk _ | exact leT_sl | exact leT_sln | exact leT_nil) ?_)))
    · clear h
      rintro S ⟨x3, rfl, h⟩
      rw [F6_J1] at h
      simp only [F6_S1]
      refine runX_seq ?_
      refine runX_regionC fun C hC => ?_
      obtain ⟨v4, h4, h⟩ := bnd_some h
      try simp -implicitDefEqProofs (maxSteps := 4000000) (disch := first | omega | decide | (simp only [go_sem]; omega)) only [go_sem, ↓reduceIte, String.reduceEq, String.reduceNe, reduceCtorEq, Int.reduceEq, Nat.reduceAdd, Nat.reduceSub, Nat.reduceMul, Nat.reduceLT, Nat.reduceLeDiff, Nat.reduceEqDiff, Nat.reduceBEq, Int.reduceToNat, Int.reduceLT, Int.reduceLE, Int.reduceGT, Int.reduceGE, Int.reduceAdd, Int.reduceSub, Int.reduceMul, Int.reduceNeg, Int.reduceBEq, Int.reduceBNe, Int.reducePow, Int.reduceDiv, Int.reduceMod, Int.reduceTDiv, Int.reduceTMod, Int.reduceNatCast]
      repeat (with_reducible refine And.intro (by first | assumption | omega | (simp; done) | (simp; omega)) ?_)
      refine callG_X (F29_ok n x3 _ h4) (by repeat (first | exact leL_refl _ | refine leL_cons (by first | exact leT_refl _ | exact leT_virt | exact leT_junk _ | exact leT_sl | exact leT_sln | exact leT_nil) ?_)) ?_
      try simp -implicitDefEqProofs (maxSteps := 4000000) (disch := first | omega | decide | (simp only [go_sem]; omega)) only [go_sem, ↓reduceIte, String.reduceEq, String.reduceNe, reduceCtorEq, Int.reduceEq, Nat.reduceAdd, Nat.reduceSub, Nat.reduceMul, Nat.reduceLT, Nat.reduceLeDiff, Nat.reduceEqDiff, Nat.reduceBEq, Int.reduceToNat, Int.reduceLT, Int.reduceLE, Int.reduceGT, Int.reduceGE, Int.reduceAdd, Int.reduceSub, Int.reduceMul, Int.reduceNeg, Int.reduceBEq, Int.reduceBNe, Int.reducePow, Int.reduceDiv, Int.reduceMod, Int.reduceTDiv, Int.reduceTMod, Int.reduceNatCast]
      repeat (with_reducible refine And.intro (by first | assumption | omega | (simp; done) | (simp; omega)) ?_)
      refine toEnd hC ?_
      refine endX_seq ?_
      refine runX_seq ?_
      refine runX_regionC fun C hC => ?_
      obtain ⟨v5, h5, h⟩ := bnd_some h
      try simp -implicitDefEqProofs (maxSteps := 4000000) (disch := first | omega | decide | (simp only [go_sem]; omega)) only [go_sem, ↓reduceIte, String.reduceEq, String.reduceNe, reduceCtorEq, Int.reduceEq, Nat.reduceAdd, Nat.reduceSub, Nat.reduceMul, Nat.reduceLT, Nat.reduceLeDiff, Nat.reduceEqDiff, Nat.reduceBEq, Int.reduceToNat, Int.reduceLT, Int.reduceLE, Int.reduceGT, Int.reduceGE, Int.reduceAdd, Int.reduceSub, Int.reduceMul, Int.reduceNeg, Int.reduceBEq, Int.reduceBNe, Int.reducePow, Int.reduceDiv, Int.reduceMod, Int.reduceTDiv, Int.reduceTMod, Int.reduceNatCast]
      repeat (with_reducible refine And.intro (by first | assumption | omega | (simp; done) | (simp; omega)) ?_)
      refine callG_X (F30_ok n x3 _ h5) (by repeat (first | exact leL_refl _ | refine leL_cons (by first | exact leT_refl _ | exact leT_virt | exact leT_junk _ | exact leT_sl | exact leT_sln | exact leT_nil) ?_)) ?_
      try simp -implicitDefEqProofs (maxSteps := 4000000) (disch := first | omega | decide | (simp only [go_sem]; omega)) only [go_sem, ↓reduceIte, String.reduceEq, String.reduceNe, reduceCtorEq, Int.reduceEq, Nat.reduceAdd, Nat.reduceSub, Nat.reduceMul, Nat.reduceLT, Nat.reduceLeDiff, Nat.reduceEqDiff, Nat.reduceBEq, Int.reduceToNat, Int.reduceLT, Int.reduceLE, Int.reduceGT, Int.reduceGE, Int.reduceAdd, Int.reduceSub, Int.reduceMul, Int.reduceNeg, Int.reduceBEq, Int.reduceBNe, Int.reducePow, Int.reduceDiv, Int.reduceMod, Int.reduceTDiv, Int.reduceTMod, Int.reduceNatCast]
      repeat (with_reducible refine And.intro (by first | assumption | omega | (simp; done) | (simp; omega)) ?_)
      refine toEnd hC ?_
      refine endX_seq ?_
      refine runX_seq ?_
      refine runX_regionC fun C hC => ?_
      obtain ⟨v6, h6, h⟩ := bnd_some h
      try simp -implicitDefEqProofs (maxSteps := 4000000) (disch := first | omega | decide | (simp only [go_sem]; omega)) only [go_sem, ↓reduceIte, String.reduceEq, String.reduceNe, reduceCtorEq, Int.reduceEq, Nat.reduceAdd, Nat.reduceSub, Nat.reduceMul, Nat.reduceLT, Nat.reduceLeDiff, Nat.reduceEqDiff, Nat.reduceBEq, Int.reduceToNat, Int.reduceLT, Int.reduceLE, Int.reduceGT, Int.reduceGE, Int.reduceAdd, Int.reduceSub, Int.reduceMul, Int.reduceNeg, Int.reduceBEq, Int.reduceBNe, Int.reducePow, Int.reduceDiv, Int.reduceMod, Int.reduceTDiv, Int.reduceTMod, Int.reduceNatCast]
      repeat (with_reducible refine And.intro (by first | assumption | omega | (simp; done) | (simp; omega)) ?_)
      refine callG_X (F31_ok n x3 _ h6) (by repeat (first | exact leL_refl _ | refine leL_cons (by first | exact leT_refl _ | exact leT_virt | exact leT_junk _ | exact leT_sl | exact leT_sln | exact leT_nil) ?_)) ?_
      try simp -implicitDefEqProofs (maxSteps := 4000000) (disch := first | omega | decide | (simp only [go_sem]; omega)) only [go_sem, ↓reduceIte, String.reduceEq, String.reduceNe, reduceCtorEq, Int.reduceEq, Nat.reduceAdd, Nat.reduceSub, Nat.reduceMul, Nat.reduceLT, Nat.reduceLeDiff, Nat.reduceEqDiff, Nat.reduceBEq, Int.reduceToNat, Int.reduceLT, Int.reduceLE, Int.reduceGT, Int.reduceGE, Int.reduceAdd, Int.reduceSub, Int.reduceMul, Int.reduceNeg, Int.reduceBEq, Int.reduceBNe, Int.reducePow, Int.reduceDiv, Int.reduceMod, Int.reduceTDiv, Int.reduceTMod, Int.reduceNatCast]
      repeat (with_reducible refine And.intro (by first | assumption | omega | (simp; done) | (simp; omega)) ?_)
      refine toEnd hC ?_
      refine endX_seq ?_
      refine runX_seq ?_
      refine runX_regionC fun C hC => ?_
      obtain ⟨v7, h7, h⟩ := bnd_some h
      try simp -implicitDefEqProofs (maxSteps := 4000000) (disch := first | omega | decide | (simp only [go_sem]; omega)) only [go_sem, ↓reduceIte, String.reduceEq, String.reduceNe, reduceCtorEq, Int.reduceEq, Nat.reduceAdd, Nat.reduceSub, Nat.reduceMul, Nat.reduceLT, Nat.reduceLeDiff, Nat.reduceEqDiff, Nat.reduceBEq, Int.reduceToNat, Int.reduceLT, Int.reduceLE, Int.reduceGT, Int.reduceGE, Int.reduceAdd, Int.reduceSub, Int.reduceMul, Int.reduceNeg, Int.reduceBEq, Int.reduceBNe, Int.reducePow, Int.reduceDiv, Int.reduceMod, Int.reduceTDiv, Int.reduceTMod, Int.reduceNatCast]
      repeat (with_reducible refine And.intro (by first | assumption | omega | (simp; done) | (simp; omega)) ?_)
      refine callG_X (F32_ok n x3 _ h7) (by repeat (first | exact leL_refl _ | refine leL_cons (by first | exact leT_refl _ | exact leT_virt | exact leT_junk _ | exact leT_sl | exact leT_sln | exact leT_nil) ?_)) ?_
      try simp -implicitDefEqProofs (maxSteps := 4000000) (disch := first | omega | decide | (simp only [go_sem]; omega)) only [go_sem, ↓reduceIte, String.reduceEq, String.reduceNe, reduceCtorEq, Int.reduceEq, Nat.reduceAdd, Nat.reduceSub, Nat.reduceMul, Nat.reduceLT, Nat.reduceLeDiff, Nat.reduceEqDiff, Nat.reduceBEq, Int.reduceToNat, Int.reduceLT, Int.reduceLE, Int.reduceGT, Int.reduceGE, Int.reduceAdd, Int.reduceSub, Int.reduceMul, Int.reduceNeg, Int.reduceBEq, Int.reduceBNe, Int.reducePow, Int.reduceDiv, Int.reduceMod, Int.reduceTDiv, Int.reduceTMod, Int.reduceNatCast]
      repeat (with_reducible refine And.intro (by first | assumption | omega | (simp; done) | (simp; omega)) ?_)
      refine toEnd hC ?_
      refine endX_seq ?_
      refine runX_seq ?_
      refine runX_regionC fun C hC => ?_
      obtain ⟨v8, h8, h⟩ := bnd_some h
      try simp -implicitDefEqProofs (maxSteps := 4000000) (disch := first | omega | decide | (simp only [go_sem]; omega)) only [go_sem, ↓reduceIte, String.reduceEq, String.reduceNe, reduceCtorEq, Int.reduceEq, Nat.reduceAdd, Nat.reduceSub, Nat.reduceMul, Nat.reduceLT, Nat.reduceLeDiff, Nat.reduceEqDiff, Nat.reduceBEq, Int.reduceToNat, Int.reduceLT, Int.reduceLE, Int.reduceGT, Int.reduceGE, Int.reduceAdd, Int.reduceSub, Int.reduceMul, Int.reduceNeg, Int.reduceBEq, Int.reduceBNe, Int.reducePow, Int.reduceDiv, Int.reduceMod, Int.reduceTDiv, Int.reduceTMod, Int.reduceNatCast]
      repeat (with_reducible refine And.intro (by first | assumption | omega | (simp; done) | (simp; omega)) ?_)
      refine callG_X (F33_ok n x3 _ h8) (by repeat (first | exact leL_refl _ | refine leL_cons (by first | exact leT_refl _ | exact leT_virt | exact leT_junk _ | exact leT_sl | exact leT_sln | exact leT_nil) ?_)) ?_
      try simp -implicitDefEqProofs (maxSteps := 4000000) (disch := first | omega | decide | (simp only [go_sem]; omega)) only [go_sem, ↓reduceIte, String.reduceEq, String.reduceNe, reduceCtorEq, Int.reduceEq, Nat.reduceAdd, Nat.reduceSub, Nat.reduceMul, Nat.reduceLT, Nat.reduceLeDiff, Nat.reduceEqDiff, Nat.reduceBEq, Int.reduceToNat, Int.reduceLT, Int.reduceLE, Int.reduceGT, Int.reduceGE, Int.reduceAdd, Int.reduceSub, Int.reduceMul, Int.reduceNeg, Int.reduceBEq, Int.reduceBNe, Int.reducePow, Int.reduceDiv, Int.reduceMod, Int.reduceTDiv, Int.reduceTMod, Int.reduceNatCast]
      repeat (with_reducible refine And.intro (by first | assumption | omega | (simp; done) | (simp; omega)) ?_)
      refine toEnd hC ?_
      refine endX_seq ?_
      refine runX_seq ?_
      refine runX_regionC fun C hC => ?_
      obtain ⟨v9, h9, h⟩ := bnd_some h
      try simp -implicitDefEqProofs (maxSteps := 4000000) (disch := first | omega | decide | (simp only [go_sem]; omega)) only [go_sem, ↓reduceIte, String.reduceEq, String.reduceNe, reduceCtorEq, Int.reduceEq, Nat.reduceAdd, Nat.reduceSub, Nat.reduceMul, Nat.reduceLT, Nat.reduceLeDiff, Nat.reduceEqDiff, Nat.reduceBEq, Int.reduceToNat, Int.reduceLT, Int.reduceLE, Int.reduceGT, Int.reduceGE, Int.reduceAdd, Int.reduceSub, Int.reduceMul, Int.reduceNeg, Int.reduceBEq, Int.reduceBNe, Int.reducePow, Int.reduceDiv, Int.reduceMod, Int.reduceTDiv, Int.reduceTMod, Int.reduceNatCast]
      repeat (with_reducible refine And.intro (by first | assumption | omega | (simp; done) | (simp; omega)) ?_)
      refine callG_X (F34_ok n x3 _ h9) (by repeat (first | exact leL_refl _ | refine leL_cons (by first | exact leT_refl _ | exact leT_virt | exact leT_junk _ | exact leT_sl | exact leT_sln | exact leT_nil) ?_)) ?_
      try simp -implicitDefEqProofs (maxSteps := 4000000) (disch := first | omega | decide | (simp only [go_sem]; omega)) only [go_sem, ↓reduceIte, String.reduceEq, String.reduceNe, reduceCtorEq, Int.reduceEq, Nat.reduceAdd, Nat.reduceSub, Nat.reduceMul, Nat.reduceLT, Nat.reduceLeDiff, Nat.reduceEqDiff, Nat.reduceBEq, Int.reduceToNat, Int.reduceLT, Int.reduceLE, Int.reduceGT, Int.reduceGE, Int.reduceAdd, Int.reduceSub, Int.reduceMul, Int.reduceNeg, Int.reduceBEq, Int.reduceBNe, Int.reducePow, Int.reduceDiv, Int.reduceMod, Int.reduceTDiv, Int.reduceTMod, Int.reduceNatCast]
      repeat (with_reducible refine And.intro (by first | assumption | omega | (simp; done) | (simp; omega)) ?_)
      refine toEnd hC ?_
      refine endX_seq ?_
      refine runX_seq ?_
      refine runX_regionC fun C hC => ?_
      simp only [runK_region, runK_draw, liteL, liteL2, dstsL, gL, List.getD_cons_zero, List.getD_cons_succ]
      obtain ⟨v10, h10, h⟩ := bnd_some h
      try simp -implicitDefEqProofs (maxSteps := 4000000) (disch := first | omega | decide | (simp only [go_sem]; omega)) only [go_sem, ↓reduceIte, String.reduceEq, String.reduceNe, reduceCtorEq, Int.reduceEq, Nat.reduceAdd, Nat.reduceSub, Nat.reduceMul, Nat.reduceLT, Nat.reduceLeDiff, Nat.reduceEqDiff, Nat.reduceBEq, Int.reduceToNat, Int.reduceLT, Int.reduceLE, Int.reduceGT, Int.reduceGE, Int.reduceAdd, Int.reduceSub, Int.reduceMul, Int.reduceNeg, Int.reduceBEq, Int.reduceBNe, Int.reducePow, Int.reduceDiv, Int.reduceMod, Int.reduceTDiv, Int.reduceTMod, Int.reduceNatCast]
      repeat (with_reducible refine And.intro (by first | assumption | omega | (simp; done) | (simp; omega)) ?_)
      refine callG_X (F29_ok n (83 :: 117 :: 110 :: 44 :: 32 :: 48 :: 54 :: 32 :: 78 :: 111 :: 118 :: 32 :: 49 :: 57 :: 57 :: 52 :: 32 :: 48 :: 56 :: 58 :: 52 :: 57 :: 58 :: 51 :: 55 :: 32 :: 71 :: 77 :: 84 :: ([] : List UInt8)) _ h10) (by repeat (first | exact leL_refl _ | refine leL_cons (by first | exact leT_refl _ | exact leT_virt | exact leT_junk _ | exact leT_sl | exact leT_sln | exact leT_nil) ?_)) ?_
      try simp -implicitDefEqProofs (maxSteps := 4000000) (disch := first | omega | decide | (simp only [go_sem]; omega)) only [go_sem, ↓reduceIte, String.reduceEq, String.reduceNe, reduceCtorEq, Int.reduceEq, Nat.reduceAdd, Nat.reduceSub, Nat.reduceMul, Nat.reduceLT, Nat.reduceLeDiff, Nat.reduceEqDiff, Nat.reduceBEq, Int.reduceToNat, Int.reduceLT, Int.reduceLE, Int.reduceGT, Int.reduceGE, Int.reduceAdd, Int.reduceSub, Int.reduceMul, Int.reduceNeg, Int.reduceBEq, Int.reduceBNe, Int.reducePow, Int.reduceDiv, Int.reduceMod, Int.reduceTDiv, Int.reduceTMod, Int.reduceNatCast]
      repeat (with_reducible refine And.intro (by first | assumption | omega | (simp; done) | (simp; omega)) ?_)
      refine toEnd hC ?_
      refine endX_seq ?_
      refine runX_seq ?_
      refine runX_regionC fun C hC => ?_
      try simp -implicitDefEqProofs (maxSteps := 4000000) (disch := first | omega | decide | (simp only [go_sem]; omega)) only [go_sem, ↓reduceIte, String.reduceEq, String.reduceNe, reduceCtorEq, Int.reduceEq, Nat.reduceAdd, Nat.reduceSub, Nat.reduceMul, Nat.reduceLT, Nat.reduceLeDiff, Nat.reduceEqDiff, Nat.reduceBEq, Int.reduceToNat, Int.reduceLT, Int.reduceLE, Int.reduceGT, Int.reduceGE, Int.reduceAdd, Int.reduceSub, Int.reduceMul, Int.reduceNeg, Int.reduceBEq, Int.reduceBNe, Int.reducePow, Int.reduceDiv, Int.reduceMod, Int.reduceTDiv, Int.reduceTMod, Int.reduceNatCast]
      repeat (with_reducible refine And.intro (by first | assumption | omega | (simp; done) | (simp; omega)) ?_)
      rcases iteB_some h with ⟨c11, h⟩ | ⟨c11, h⟩
      · refine guardK_T c11 ?_
        try simp -implicitDefEqProofs (maxSteps := 4000000) (disch := first | omega | decide | (simp only [go_sem]; omega)) only [go_sem, ↓reduceIte, String.reduceEq, String.reduceNe, reduceCtorEq, Int.reduceEq, Nat.reduceAdd, Nat.reduceSub, Nat.reduceMul, Nat.reduceLT, Nat.reduceLeDiff, Nat.reduceEqDiff, Nat.reduceBEq, Int.reduceToNat, Int.reduceLT, Int.reduceLE, Int.reduceGT, Int.reduceGE, Int.reduceAdd, Int.reduceSub, Int.reduceMul, Int.reduceNeg, Int.reduceBEq, Int.reduceBNe, Int.reducePow, Int.reduceDiv, Int.reduceMod, Int.reduceTDiv, Int.reduceTMod, Int.reduceNatCast]
        repeat (with_reducible refine And.intro (by first | assumption | omega | (simp; done) | (simp; omega)) ?_)
        rcases iteB_some h with ⟨c12, h⟩ | ⟨c12, h⟩
        · refine guardK_T c12 ?_
          try simp -implicitDefEqProofs (maxSteps := 4000000) (disch := first | omega | decide | (simp only [go_sem]; omega)) only [go_sem, ↓reduceIte, String.reduceEq, String.reduceNe, reduceCtorEq, Int.reduceEq, Nat.reduceAdd, Nat.reduceSub, Nat.reduceMul, Nat.reduceLT, Nat.reduceLeDiff, Nat.reduceEqDiff, Nat.reduceBEq, Int.reduceToNat, Int.reduceLT, Int.reduceLE, Int.reduceGT, Int.reduceGE, Int.reduceAdd, Int.reduceSub, Int.reduceMul, Int.reduceNeg, Int.reduceBEq, Int.reduceBNe, Int.reducePow, Int.reduceDiv, Int.reduceMod, Int.reduceTDiv, Int.reduceTMod, Int.reduceNatCast]
          repeat (with_reducible refine And.intro (by first | assumption | omega | (simp; done) | (simp; omega)) ?_)
          rcases iteB_some h with ⟨c13, h⟩ | ⟨c13, h⟩
          · refine guardK_T c13 ?_
            try simp -implicitDefEqProofs (maxSteps := 4000000) (disch := first | omega | decide | (simp only [go_sem]; omega)) only [go_sem, ↓reduceIte, String.reduceEq, String.reduceNe, reduceCtorEq, Int.reduceEq, Nat.reduceAdd, Nat.reduceSub, Nat.reduceMul, Nat.reduceLT, Nat.reduceLeDiff, Nat.reduceEqDiff, Nat.reduceBEq, Int.reduceToNat, Int.reduceLT, Int.reduceLE, Int.reduceGT, Int.reduceGE, Int.reduceAdd, Int.reduceSub, Int.reduceMul, Int.reduceNeg, Int.reduceBEq, Int.reduceBNe, Int.reducePow, Int.reduceDiv, Int.reduceMod, Int.reduceTDiv, Int.reduceTMod, Int.reduceNatCast]
            repeat (with_reducible refine And.intro (by first | assumption | omega | (simp; done) | (simp; omega)) ?_)
            rcases iteB_some h with ⟨c14, h⟩ | ⟨c14, h⟩
            · refine guardK_T c14 ?_
              try simp -implicitDefEqProofs (maxSteps := 4000000) (disch := first | omega | decide | (simp only [go_sem]; omega)) only [go_sem, ↓reduceIte, String.reduceEq, String.reduceNe, reduceCtorEq, Int.reduceEq, Nat.reduceAdd, Nat.reduceSub, Nat.reduceMul, Nat.reduceLT, Nat.reduceLeDiff, Nat.reduceEqDiff, Nat.reduceBEq, Int.reduceToNat, Int.reduceLT, Int.reduceLE, Int.reduceGT, Int.reduceGE, Int.reduceAdd, Int.reduceSub, Int.reduceMul, Int.reduceNeg, Int.reduceBEq, Int.reduceBNe, Int.reducePow, Int.reduceDiv, Int.reduceMod, Int.reduceTDiv, Int.reduceTMod, Int.reduceNatCast]
              repeat (with_reducible refine And.intro (by first | assumption | omega | (simp; done) | (simp; omega)) ?_)
              rcases iteB_some h with ⟨c15, h⟩ | ⟨c15, h⟩
              · refine guardK_T c15 ?_
                try simp -implicitDefEqProofs (maxSteps := 4000000) (disch := first | omega | decide | (simp only [go_sem]; omega)) only [go_sem, ↓reduceIte, String.reduceEq, String.reduceNe, reduceCtorEq, Int.reduceEq, Nat.reduceAdd, Nat.reduceSub, Nat.reduceMul, Nat.reduceLT, Nat.reduceLeDiff, Nat.reduceEqDiff, Nat.reduceBEq, Int.reduceToNat, Int.reduceLT, Int.reduceLE, Int.reduceGT, Int.reduceGE, Int.reduceAdd, Int.reduceSub, Int.reduceMul, Int.reduceNeg, Int.reduceBEq, Int.reduceBNe, Int.reducePow, Int.reduceDiv, Int.reduceMod, Int.reduceTDiv, Int.reduceTMod, Int.reduceNatCast]
                repeat (with_reducible refine And.intro (by first | assumption | omega | (simp; done) | (simp; omega)) ?_)
                rcases iteB_some h with ⟨c16, h⟩ | ⟨c16, h⟩
                · refine guardK_T c16 ?_
                  try simp -implicitDefEqProofs (maxSteps := 4000000) (disch := first | omega | decide | (simp only [go_sem]; omega)) only [go_sem, ↓reduceIte, String.reduceEq, String.reduceNe, reduceCtorEq, Int.reduceEq, Nat.reduceAdd, Nat.reduceSub, Nat.reduceMul, Nat.reduceLT, Nat.reduceLeDiff, Nat.reduceEqDiff, Nat.reduceBEq, Int.reduceToNat, Int.reduceLT, Int.reduceLE, Int.reduceGT, Int.reduceGE, Int.reduceAdd, Int.reduceSub, Int.reduceMul, Int.reduceNeg, Int.reduceBEq, Int.reduceBNe, Int.reducePow, Int.reduceDiv, Int.reduceMod, Int.reduceTDiv, Int.reduceTMod, Int.reduceNatCast]
                  repeat (with_reducible refine And.intro (by first | assumption | omega | (simp; done) | (simp; omega)) ?_)
                  rcases iteB_some h with ⟨c17, h⟩ | ⟨c17, h⟩
                  · refine guardK_T c17 ?_
                    try simp -implicitDefEqProofs (maxSteps := 4000000) (disch := first | omega | decide | (simp only [go_sem]; omega)) only [go_sem, ↓reduceIte, String.reduceEq, String.reduceNe, reduceCtorEq, Int.reduceEq, Nat.reduceAdd, Nat.reduceSub, Nat.reduceMul, Nat.reduceLT, Nat.reduceLeDiff, Nat.reduceEqDiff, Nat.reduceBEq, Int.reduceToNat, Int.reduceLT, Int.reduceLE, Int.reduceGT, Int.reduceGE, Int.reduceAdd, Int.reduceSub, Int.reduceMul, Int.reduceNeg, Int.reduceBEq, Int.reduceBNe, Int.reducePow, Int.reduceDiv, Int.reduceMod, Int.reduceTDiv, Int.reduceTMod, Int.reduceNatCast]
                    repeat (with_reducible refine And.intro (by first | assumption | omega | (simp; done) | (simp; omega)) ?_)
                    refine toEnd hC ?_
                    refine endX_seq ?_
                    refine runX_ret ?_
                    refine endX_q ?_
                    obtain rfl := Option.some.inj h
                    show RetW _ _ _ _ _
                    simp only [RetW]
                    (try simp -implicitDefEqProofs (maxSteps := 4000000) (disch := first | omega | decide | (simp only [go_sem]; omega)) only [go_sem, ↓reduceIte, String.reduceEq, String.reduceNe, reduceCtorEq, Int.reduceEq, Nat.reduceAdd, Nat.reduceSub, Nat.reduceMul, Nat.reduceLT, Nat.reduceLeDiff, Nat.reduceEqDiff, Nat.reduceBEq, Int.reduceToNat, Int.reduceLT, Int.reduceLE, Int.reduceGT, Int.reduceGE, Int.reduceAdd, Int.reduceSub, Int.reduceMul, Int.reduceNeg, Int.reduceBEq, Int.reduceBNe, Int.reducePow, Int.reduceDiv, Int.reduceMod, Int.reduceTDiv, Int.reduceTMod, Int.reduceNatCast])
                    first | exact leT_refl _ | (refine ⟨rfl, ?_⟩; first | exact leT_refl _ | exact leT_sl | exact leT_sln | exact leT_nil | (refine leT_tup (by repeat (first | exact leL_refl _ | refine leL_cons (by first | exact leT_refl _ | exact leT_virt | exact leT_junk _ | exact leT_sl | exact leT_sln | exact leT_nil) ?_))) | (refine leT_agg (by repeat (first | exact leL_refl _ | refine leL_cons (by first | exact leT_refl _ | exact leT_virt | exact leT_junk _ | exact leT_sl | exact leT_sln | exact leT_nil) ?_)))) | (first | exact leT_refl _ | exact leT_sl | exact leT_sln | exact leT_nil | (refine leT_tup (by repeat (first | exact leL_refl _ | refine leL_cons (by first | exact leT_refl _ | exact leT_virt | exact leT_junk _ | exact leT_sl | exact leT_sln | exact leT_nil) ?_))) | (refine leT_agg (by repeat (first | exact leL_refl _ | refine leL_cons (by first | exact leT_refl _ | exact leT_virt | exact leT_junk _ | exact leT_sl | exact leT_sln | exact leT_nil) ?_))))
                  · refine guardK_F c17 ?_
                    try simp -implicitDefEqProofs (maxSteps := 4000000) (disch := first | omega | decide | (simp only [go_sem]; omega)) only [go_sem, ↓reduceIte, String.reduceEq, String.reduceNe, reduceCtorEq, Int.reduceEq, Nat.reduceAdd, Nat.reduceSub, Nat.reduceMul, Nat.reduceLT, Nat.reduceLeDiff, Nat.reduceEqDiff, Nat.reduceBEq, Int.reduceToNat, Int.reduceLT, Int.reduceLE, Int.reduceGT, Int.reduceGE, Int.reduceAdd, Int.reduceSub, Int.reduceMul, Int.reduceNeg, Int.reduceBEq, Int.reduceBNe, Int.reducePow, Int.reduceDiv, Int.reduceMod, Int.reduceTDiv, Int.reduceTMod, Int.reduceNatCast]
                    repeat (with_reducible refine And.intro (by first | assumption | omega | (simp; done) | (simp; omega)) ?_)
                    refine toEnd hC ?_
                    refine endX_seq ?_
                    refine runX_ret ?_
                    refine endX_q ?_
                    obtain rfl := Option.some.inj h
                    show RetW _ _ _ _ _
                    simp only [RetW]
                    (try simp -implicitDefEqProofs (maxSteps := 4000000) (disch := first | omega | decide | (simp only [go_sem]; omega)) only [go_sem, ↓reduceIte, String.reduceEq, String.reduceNe, reduceCtorEq, Int.reduceEq, Nat.reduceAdd, Nat.reduceSub, Nat.reduceMul, Nat.reduceLT, Nat.reduceLeDiff, Nat.reduceEqDiff, Nat.reduceBEq, Int.reduceToNat, Int.reduceLT, Int.reduceLE, Int.reduceGT, Int.reduceGE, Int.reduceAdd, Int.reduceSub, Int.reduceMul, Int.reduceNeg, Int.reduceBEq, Int.reduceBNe, Int.reducePow, Int.reduceDiv, Int.reduceMod, Int.reduceTDiv, Int.reduceTMod, Int.reduceNatCast])
                    first | exact leT_refl _ | (refine ⟨rfl, ?_⟩; first | exact leT_refl _ | exact leT_sl | exact leT_sln | exact leT_nil | (refine leT_tup (by repeat (first | exact leL_refl _ | refine leL_cons (by first | exact leT_refl _ | exact leT_virt | exact leT_junk _ | exact leT_sl | exact leT_sln | exact leT_nil) ?_))) | (refine leT_agg (by repeat (first | exact leL_refl _ | refine leL_cons (by first | exact leT_refl _ | exact leT_virt | exact leT_junk _ | exact leT_sl | exact leT_sln | exact leT_nil) ?_)))) | (first | exact leT_refl _ | exact leT_sl | exact leT_sln | exact leT_nil | (refine leT_tup (by repeat (first | exact leL_refl _ | refine leL_cons (by first | exact leT_refl _ | exact leT_virt | exact leT_junk _ | exact leT_sl | exact leT_sln | exact leT_nil) ?_))) | (refine leT_agg (by repeat (first | exact leL_refl _ | refine leL_cons (by first | exact leT_refl _ | exact leT_virt | exact leT_junk _ | exact leT_sl | exact leT_sln | exact leT_nil) ?_))))
                · refine guardK_F c16 ?_
                  try simp -implicitDefEqProofs (maxSteps := 4000000) (disch := first | omega | decide | (simp only [go_sem]; omega)) only [go_sem, ↓reduceIte, String.reduceEq, String.reduceNe, reduceCtorEq, Int.reduceEq, Nat.reduceAdd, Nat.reduceSub, Nat.reduceMul, Nat.reduceLT, Nat.reduceLeDiff, Nat.reduceEqDiff, Nat.reduceBEq, Int.reduceToNat, Int.reduceLT, Int.reduceLE, Int.reduceGT, Int.reduceGE, Int.reduceAdd, Int.reduceSub, Int.reduceMul, Int.reduceNeg, Int.reduceBEq, Int.reduceBNe, Int.reducePow, Int.reduceDiv, Int.reduceMod, Int.reduceTDiv, Int.reduceTMod, Int.reduceNatCast]
                  repeat (with_reducible refine And.intro (by first | assumption | omega | (simp; done) | (simp; omega)) ?_)
                  refine toEnd hC ?_
                  refine endX_seq ?_
                  refine runX_ret ?_
                  refine endX_q ?_
                  obtain rfl := Option.some.inj h
                  show RetW _ _ _ _ _
                  simp only [RetW]
                  (try simp -implicitDefEqProofs (maxSteps := 4000000) (disch := first | omega | decide | (simp only [go_sem]; omega)) only [go_sem, ↓reduceIte, String.reduceEq, String.reduceNe, reduceCtorEq, Int.reduceEq, Nat.reduceAdd, Nat.reduceSub, Nat.reduceMul, Nat.reduceLT, Nat.reduceLeDiff, Nat.reduceEqDiff, Nat.reduceBEq, Int.reduceToNat, Int.reduceLT, Int.reduceLE, Int.reduceGT, Int.reduceGE, Int.reduceAdd, Int.reduceSub, Int.reduceMul, Int.reduceNeg, Int.reduceBEq, Int.reduceBNe, Int.reducePow, Int.reduceDiv, Int.reduceMod, Int.reduceTDiv, Int.reduceTMod, Int.reduceNatCast])
                  first | exact leT_refl _ | (refine ⟨rfl, ?_⟩; first | exact leT_refl _ | exact leT_sl | exact leT_sln | exact leT_nil | (refine leT_tup (by repeat (first | exact leL_refl _ | refine leL_cons (by first | exact leT_refl _ | exact leT_virt | exact leT_junk _ | exact leT_sl | exact leT_sln | exact leT_nil) ?_))) | (refine leT_agg (by repeat (first | exact leL_refl _ | refine leL_cons (by first | exact leT_refl _ | exact leT_virt | exact leT_junk _ | exact leT_sl | exact leT_sln | exact leT_nil) ?_)))) | (first | exact leT_refl _ | exact leT_sl | exact leT_sln | exact leT_nil | (refine leT_tup (by repeat (first | exact leL_refl _ | refine leL_cons (by first | exact leT_refl _ | exact leT_virt | exact leT_junk _ | exact leT_sl | exact leT_sln | exact leT_nil) ?_))) | (refine leT_agg (by repeat (first | exact leL_refl _ | refine leL_cons (by first | exact leT_refl _ | exact leT_virt | exact leT_junk _ | exact leT_sl | exact leT_sln | exact leT_nil) ?_))))
              · refine guardK_F c15 ?_
                try simp -implicitDefEqProofs (maxSteps := 4000000) (disch := first | omega | decide | (simp only [go_sem]; omega)) only [go_sem, ↓reduceIte, String.reduceEq, String.reduceNe, reduceCtorEq, Int.reduceEq, Nat.reduceAdd, Nat.reduceSub, Nat.reduceMul, Nat.reduceLT, Nat.reduceLeDiff, Nat.reduceEqDiff, Nat.reduceBEq, Int.reduceToNat, Int.reduceLT, Int.reduceLE, Int.reduceGT, Int.reduceGE, Int.reduceAdd, Int.reduceSub, Int.reduceMul, Int.reduceNeg, Int.reduceBEq, Int.reduceBNe, Int.reducePow, Int.reduceDiv, Int.reduceMod, Int.reduceTDiv, Int.reduceTMod, Int.reduceNatCast]
                repeat (with_reducible refine And.intro (by first | assumption | omega | (simp; done) | (simp; omega)) ?_)
                refine toEnd hC ?_
                refine endX_seq ?_
                refine runX_ret ?_
                refine endX_q ?_
                obtain rfl := Option.some.inj h
                show RetW _ _ _ _ _
                simp only [RetW]
                (try simp -implicitDefEqProofs (maxSteps := 4000000) (disch := first | omega | decide | (simp only [go_sem]; omega)) only [go_sem, ↓reduceIte, String.reduceEq, String.reduceNe, reduceCtorEq, Int.reduceEq, Nat.reduceAdd, Nat.reduceSub, Nat.reduceMul, Nat.reduceLT, Nat.reduceLeDiff, Nat.reduceEqDiff, Nat.reduceBEq, Int.reduceToNat, Int.reduceLT, Int.reduceLE, Int.reduceGT, Int.reduceGE, Int.reduceAdd, Int.reduceSub, Int.reduceMul, Int.reduceNeg, Int.reduceBEq, Int.reduceBNe, Int.reducePow, Int.reduceDiv, Int.reduceMod, Int.reduceTDiv, Int.reduceTMod, Int.reduceNatCast])
                first | exact leT_refl _ | (refine ⟨rfl, ?_⟩; first | exact leT_refl _ | exact leT_sl | exact leT_sln | exact leT_nil | (refine leT_tup (by repeat (first | exact leL_refl _ | refine leL_cons (by first | exact leT_refl _ | exact leT_virt | exact leT_junk _ | exact leT_sl | exact leT_sln | exact leT_nil) ?_))) | (refine leT_agg (by repeat (first | exact leL_refl _ | refine leL_cons (by first | exact leT_refl _ | exact leT_virt | exact leT_junk _ | exact leT_sl | exact leT_sln | exact leT_nil) ?_)))) | (first | exact leT_refl _ | exact leT_sl | exact leT_sln | exact leT_nil | (refine leT_tup (by repeat (first | exact leL_refl _ | refine leL_cons (by first | exact leT_refl _ | exact leT_virt | exact leT_junk _ | exact leT_sl | exact leT_sln | exact leT_nil) ?_))) | (refine leT_agg (by repeat (first | exact leL_refl _ | refine leL_cons (by first | exact leT_refl _ | exact leT_virt | exact leT_junk _ | exact leT_sl | exact leT_sln | exact leT_nil) ?_))))
            · refine guardK_F c14 ?_
              try simp -implicitDefEqProofs (maxSteps := 4000000) (disch := first | omega | decide | (simp only [go_sem]; omega)) only [go_sem, ↓reduceIte, String.reduceEq, String.reduceNe, reduceCtorEq, Int.reduceEq, Nat.reduceAdd, Nat.reduceSub, Nat.reduceMul, Nat.reduceLT, Nat.reduceLeDiff, Nat.reduceEqDiff, Nat.reduceBEq, Int.reduceToNat, Int.reduceLT, Int.reduceLE, Int.reduceGT, Int.reduceGE, Int.reduceAdd, Int.reduceSub, Int.reduceMul, Int.reduceNeg, Int.reduceBEq, Int.reduceBNe, Int.reducePow, Int.reduceDiv, Int.reduceMod, Int.reduceTDiv, Int.reduceTMod, Int.reduceNatCast]
              repeat (with_reducible refine And.intro (by first | assumption | omega | (simp; done) | (simp; omega)) ?_)
              refine toEnd hC ?_
              refine endX_seq ?_
              refine runX_ret ?_
              refine endX_q ?_
              obtain rfl := Option.some.inj h
              show RetW _ _ _ _ _
              simp only [RetW]
              (try simp -implicitDefEqProofs (maxSteps := 4000000) (disch := first | omega | decide | (simp only [go_sem]; omega)) only [go_sem, ↓reduceIte, String.reduceEq, String.reduceNe, reduceCtorEq, Int.reduceEq, Nat.reduceAdd, Nat.reduceSub, Nat.reduceMul, Nat.reduceLT, Nat.reduceLeDiff, Nat.reduceEqDiff, Nat.reduceBEq, Int.reduceToNat, Int.reduceLT, Int.reduceLE, Int.reduceGT, Int.reduceGE, Int.reduceAdd, Int.reduceSub, Int.reduceMul, Int.reduceNeg, Int.reduceBEq, Int.reduceBNe, Int.reducePow, Int.reduceDiv, Int.reduceMod, Int.reduceTDiv, Int.reduceTMod, Int.reduceNatCast])
              first | exact leT_refl _ | (refine ⟨rfl, ?_⟩; first | exact leT_refl _ | exact leT_sl | exact leT_sln | exact leT_nil | (refine leT_tup (by repeat (first | exact leL_refl _ | refine leL_cons (by first | exact leT_refl _ | exact leT_virt | exact leT_junk _ | exact leT_sl | exact leT_sln | exact leT_nil) ?_))) | (refine leT_agg (by repeat (first | exact leL_refl _ | refine leL_cons (by first | exact leT_refl _ | exact leT_virt | exact leT_junk _ | exact leT_sl | exact leT_sln | exact leT_nil) ?_)))) | (first | exact leT_refl _ | exact leT_sl | exact leT_sln | exact leT_nil | (refine leT_tup (by repeat (first | exact leL_refl _ | refine leL_cons (by first | exact leT_refl _ | exact leT_virt | exact leT_junk _ | exact leT_sl | exact leT_sln | exact leT_nil) ?_))) | (refine leT_agg (by repeat (first | exact leL_refl _ | refine leL_cons (by first | exact leT_refl _ | exact leT_virt | exact leT_junk _ | exact leT_sl | exact leT_sln | exact leT_nil) ?_))))
          · refine guardK_F c13 ?_
            try simp -implicitDefEqProofs (maxSteps := 4000000) (disch := first | omega | decide | (simp only [go_sem]; omega)) only [go_sem, ↓reduceIte, String.reduceEq, String.reduceNe, reduceCtorEq, Int.reduceEq, Nat.reduceAdd, Nat.reduceSub, Nat.reduceMul, Nat.reduceLT, Nat.reduceLeDiff, Nat.reduceEqDiff, Nat.reduceBEq, Int.reduceToNat, Int.reduceLT, Int.reduceLE, Int.reduceGT, Int.reduceGE, Int.reduceAdd, Int.reduceSub, Int.reduceMul, Int.reduceNeg, Int.reduceBEq, Int.reduceBNe, Int.reducePow, Int.reduceDiv, Int.reduceMod, Int.reduceTDiv, Int.reduceTMod, Int.reduceNatCast]
            repeat (with_reducible refine And.intro (by first | assumption | omega | (simp; done) | (simp; omega)) ?_)
            refine toEnd hC ?_
            refine endX_seq ?_
            refine runX_ret ?_
            refine endX_q ?_
            obtain rfl := Option.some.inj h
            show RetW _ _ _ _ _
            simp only [RetW]
            (try simp -implicitDefEqProofs (maxSteps := 4000000) (disch := first | omega | decide | (simp only [go_sem]; omega)) only [go_sem, ↓reduceIte, String.reduceEq, String.reduceNe, reduceCtorEq, Int.reduceEq, Nat.reduceAdd, Nat.reduceSub, Nat.reduceMul, Nat.reduceLT, Nat.reduceLeDiff, Nat.reduceEqDiff, Nat.reduceBEq, Int.reduceToNat, Int.reduceLT, Int.reduceLE, Int.reduceGT, Int.reduceGE, Int.reduceAdd, Int.reduceSub, Int.reduceMul, Int.reduceNeg, Int.reduceBEq, Int.reduceBNe, Int.reducePow, Int.reduceDiv, Int.reduceMod, Int.reduceTDiv, Int.reduceTMod, Int.reduceNatCast])
            first | exact leT_refl _ | (refine ⟨rfl, ?_⟩; first | exact leT_refl _ | exact leT_sl | exact leT_sln | exact leT_nil | (refine leT_tup (by repeat (first | exact leL_refl _ | refine leL_cons (by first | exact leT_refl _ | exact leT_virt | exact leT_junk _ | exact leT_sl | exact leT_sln | exact leT_nil) ?_))) | (refine leT_agg (by repeat (first | exact leL_refl _ | refine leL_cons (by first | exact leT_refl _ | exact leT_virt | exact leT_junk _ | exact leT_sl | exact leT_sln | exact leT_nil) ?_)))) | (first | exact leT_refl _ | exact leT_sl | exact leT_sln | exact leT_nil | (refine leT_tup (by repeat (first | exact leL_refl _ | refine leL_cons (by first | exact leT_refl _ | exact leT_virt | exact leT_junk _ | exact leT_sl | exact leT_sln | exact leT_nil) ?_))) | (refine leT_agg (by repeat (first | exact leL_refl _ | refine leL_cons (by first | exact leT_refl _ | exact leT_virt | exact leT_junk _ | exact leT_sl | exact leT_sln | exact leT_nil) ?_))))
        · refine guardK_F c12 ?_
          try simp -implicitDefEqProofs (maxSteps := 4000000) (disch := first | omega | decide | (simp only [go_sem]; omega)) only [go_sem, ↓reduceIte, String.reduceEq, String.reduceNe, reduceCtorEq, Int.reduceEq, Nat.reduceAdd, Nat.reduceSub, Nat.reduceMul, Nat.reduceLT, Nat.reduceLeDiff, Nat.reduceEqDiff, Nat.reduceBEq, Int.reduceToNat, Int.reduceLT, Int.reduceLE, Int.reduceGT, Int.reduceGE, Int.reduceAdd, Int.reduceSub, Int.reduceMul, Int.reduceNeg, Int.reduceBEq, Int.reduceBNe, Int.reducePow, Int.reduceDiv, Int.reduceMod, Int.reduceTDiv, Int.reduceTMod, Int.reduceNatCast]
          repeat (with_reducible refine And.intro (by first | assumption | omega | (simp; done) | (simp; omega)) ?_)
          refine toEnd hC ?_
          refine endX_seq ?_
          refine runX_ret ?_
          refine endX_q ?_
          obtain rfl := Option.some.inj h
          show RetW _ _ _ _ _
          simp only [RetW]
          (try simp -implicitDefEqProofs (maxSteps := 4000000) (disch := first | omega | decide | (simp only [go_sem]; omega)) only [go_sem, ↓reduceIte, String.reduceEq, String.reduceNe, reduceCtorEq, Int.reduceEq, Nat.reduceAdd, Nat.reduceSub, Nat.reduceMul, Nat.reduceLT, Nat.reduceLeDiff, Nat.reduceEqDiff, Nat.reduceBEq, Int.reduceToNat, Int.reduceLT, Int.reduceLE, Int.reduceGT, Int.reduceGE, Int.reduceAdd, Int.reduceSub, Int.reduceMul, Int.reduceNeg, Int.reduceBEq, Int.reduceBNe, Int.reducePow, Int.reduceDiv, Int.reduceMod, Int.reduceTDiv, Int.reduceTMod, Int.reduceNatCast])
          first | exact leT_refl _ | (refine ⟨rfl, ?_⟩; first | exact leT_refl _ | exact leT_sl | exact leT_sln | exact leT_nil | (refine leT_tup (by repeat (first | exact leL_refl _ | refine leL_cons (by first | exact leT_refl _ | exact leT_virt | exact leT_junk _ | exact leT_sl | exact leT_sln | exact leT_nil) ?_))) | (refine leT_agg (by repeat (first | exact leL_refl _ | refine leL_cons (by first | exact leT_refl _ | exact leT_virt | exact leT_junk _ | exact leT_sl | exact leT_sln | exact leT_nil) ?_)))) | (first | exact leT_refl _ | exact leT_sl | exact leT_sln | exact leT_nil | (refine leT_tup (by repeat (first | exact leL_refl _ | refine leL_cons (by first | exact leT_refl _ | exact leT_virt | exact leT_junk _ | exact leT_sl | exact leT_sln | exact leT_nil) ?_))) | (refine leT_agg (by repeat (first | exact leL_refl _ | refine leL_cons (by first | exact leT_refl _ | exact leT_virt | exact leT_junk _ | exact leT_sl | exact leT_sln | exact leT_nil) ?_))))
      · refine guardK_F c11 ?_
        try simp -implicitDefEqProofs (maxSteps := 4000000) (disch := first | omega | decide | (simp only [go_sem]; omega)) only [go_sem, ↓reduceIte, String.reduceEq, String.reduceNe, reduceCtorEq, Int.reduceEq, Nat.reduceAdd, Nat.reduceSub, Nat.reduceMul, Nat.reduceLT, Nat.reduceLeDiff, Nat.reduceEqDiff, Nat.reduceBEq, Int.reduceToNat, Int.reduceLT, Int.reduceLE, Int.reduceGT, Int.reduceGE, Int.reduceAdd, Int.reduceSub, Int.reduceMul, Int.reduceNeg, Int.reduceBEq, Int.reduceBNe, Int.reducePow, Int.reduceDiv, Int.reduceMod, Int.reduceTDiv, Int.reduceTMod, Int.reduceNatCast]
        repeat (with_reducible refine And.intro (by first | assumption | omega | (simp; done) | (simp; omega)) ?_)
        refine toEnd hC ?_
        refine endX_seq ?_
        refine runX_ret ?_
        refine endX_q ?_
        obtain rfl := Option.some.inj h
        show RetW _ _ _ _ _
        simp only [RetW]
        (try simp -implicitDefEqProofs (maxSteps := 4000000) (disch := first | omega | decide | (simp only [go_sem]; omega)) only [go_sem, ↓reduceIte, String.reduceEq, String.reduceNe, reduceCtorEq, Int.reduceEq, Nat.reduceAdd, Nat.reduceSub, Nat.reduceMul, Nat.reduceLT, Nat.reduceLeDiff, Nat.reduceEqDiff, Nat.reduceBEq, Int.reduceToNat, Int.reduceLT, Int.reduceLE, Int.reduceGT, Int.reduceGE, Int.reduceAdd, Int.reduceSub, Int.reduceMul, Int.reduceNeg, Int.reduceBEq, Int.reduceBNe, Int.reducePow, Int.reduceDiv, Int.reduceMod, Int.reduceTDiv, Int.reduceTMod, Int.reduceNatCast])
        first | exact leT_refl _ | (refine ⟨rfl, ?_⟩; first | exact leT_refl _ | exact leT_sl | exact leT_sln | exact leT_nil | (refine leT_tup (by repeat (first | exact leL_refl _ | refine leL_cons (by first | exact leT_refl _ | exact leT_virt | exact leT_junk _ | exact leT_sl | exact leT_sln | exact leT_nil) ?_))) | (refine leT_agg (by repeat (first | exact leL_refl _ | refine leL_cons (by first | exact leT_refl _ | exact leT_virt | exact leT_junk _ | exact leT_sl | exact leT_sln | exact leT_nil) ?_)))) | (first | exact leT_refl _ | exact leT_sl | exact leT_sln | exact leT_nil | (refine leT_tup (by repeat (first | exact leL_refl _ | refine leL_cons (by first | exact leT_refl _ | exact leT_virt | exact leT_junk _ | exact leT_sl | exact leT_sln | exact leT_nil) ?_))) | (refine leT_agg (by repeat (first | exact leL_refl _ | refine leL_cons (by first | exact leT_refl _ | exact leT_virt | exact leT_junk _ | exact leT_sl | exact leT_sln | exact leT_nil) ?_))))
end Go.Proofs.YtdfghdppbfabfaaX

/- Shapes of arguments, as plain values. Of no program. -/
set_option linter.unusedVariables false
namespace Go.Proofs.YtdfghdppbfabfaaX
open Go Go.RowKit
theorem RepR.le {E : Env} {sz : Nat} : ∀ {l l' : List T} {c : List Value}, l.length = l'.length → (∀ i, leT anyE (l.getD i .junk) (l'.getD i .junk)) → RepR E sz l c → RepR E sz l' c
  | [], [], c, _, _, h => h
  | x :: l, y :: l', c, hl, hi, h => by
    simp only [RepR] at h ⊢
    obtain ⟨u, c', h1, h2, h3, h4⟩ := h
    exact ⟨u, c', h1, h2, by simpa using hi 0 E true u trivial (by simpa using h3), RepR.le (by simpa using hl) (fun i => by simpa using hi (i + 1)) h4⟩
  | [], _ :: _, c, hl, _, _ => by simp at hl
  | _ :: _, [], c, hl, _, _ => by simp at hl
theorem leT_slE {sz : Nat} {f : Bool} {l l' : List T} (hl : l.length = l'.length) (h : ∀ i, leT anyE (l.getD i .junk) (l'.getD i .junk)) : leT anyE (.sl sz f l) (.sl sz false l') := fun E cl v hp k => by
  simp only [Rep] at k ⊢
  obtain ⟨a, cap, c, h1, h2, h3, h4, h5⟩ := k
  exact ⟨a, cap, c, by rw [h1, hl], by rw [← hl]; exact h2, (fun h => by cases h), RepR.le hl h h4, h5⟩
theorem elems_shape {α : Type} (enc : α → T) (ok : α → Prop) : ∀ (l : List T), (∀ y ∈ l, ∃ v, leT anyE y (enc v) ∧ ok v) → ∃ vs : List α, vs.length = l.length ∧ (∀ i, leT anyE (l.getD i .junk) ((vs.map enc).getD i .junk)) ∧ ∀ v ∈ vs, ok v
  | [], _ => ⟨[], rfl, fun i => by simp [leT_refl], fun v hv => by simp at hv⟩
  | y :: l, h => by
    obtain ⟨v, h1, h2⟩ := h y (by simp)
    obtain ⟨vs, h3, h4, h5⟩ := elems_shape enc ok l fun z hz => h z (by simp [hz])
    refine ⟨v :: vs, by simp [h3], fun i => ?_, fun w hw => ?_⟩
    · cases i with
      | zero => simpa using h1
      | succ i => simpa using h4 i
    · rcases List.mem_cons.1 hw with rfl | hw
      · exact h2
      · exact h5 w hw
theorem sl_shape {α : Type} (enc : α → T) (ok : α → Prop) (l : List T) (h : ∀ y ∈ l, ∃ v, leT anyE y (enc v) ∧ ok v) {sz : Nat} {f : Bool} : ∃ vs : List α, leT anyE (.sl sz f l) (.sl sz false (vs.map enc)) ∧ vs.length = l.length ∧ ∀ v ∈ vs, ok v := by
  obtain ⟨vs, h1, h2, h3⟩ := elems_shape enc ok l h
  exact ⟨vs, leT_slE (by simp [h1]) h2, h1, h3⟩
theorem arr_shape {α : Type} (enc : α → T) (ok : α → Prop) : ∀ (l : List T), (∀ y ∈ l, ∃ v, y = enc v ∧ T.cells y = [y] ∧ ok v) → ∃ vs : List α, l.flatMap T.cells = vs.map enc ∧ vs.length = l.length ∧ ∀ v ∈ vs, ok v
  | [], _ => ⟨[], rfl, rfl, fun v hv => by simp at hv⟩
  | y :: l, h => by
    obtain ⟨v, rfl, hc, h2⟩ := h y (by simp)
    obtain ⟨vs, h3, h4, h5⟩ := arr_shape enc ok l fun z hz => h z (by simp [hz])
    refine ⟨v :: vs, by rw [List.flatMap_cons, hc, h3]; rfl, by simp [h4], fun w hw => ?_⟩
    rcases List.mem_cons.1 hw with rfl | hw
    · exact h2
    · exact h5 w hw
end Go.Proofs.YtdfghdppbfabfaaX

set_option linter.unusedVariables false
set_option linter.unusedSimpArgs false
namespace Go.Proofs.YtdfghdppbfabfaaX
open Go Go.RowKit Go.Proofs
set_option maxRecDepth 100000
def okT9 (v : List UInt8) : Prop := v.length ≤ 9223372036854775807
theorem shp9 : ∀ (n : Nat) (x : T), ShapeW Try.prog n 9 x → ∃ v : List UInt8, x = .imm (.string (bs v)) ∧ okT9 v
  | 0, x, h => h.elim
  | n + 1, x, h => by
    simp only [ShapeW, Try.underlying9] at h
    obtain ⟨s, rfl, hs⟩ := h
    exact ⟨s.data.toList, by rw [← of_bs], hs⟩
theorem shapedClockReads (main : ∀ (v0 : List UInt8), okT9 v0 → ∃ n, F6 n v0 = some true) (xs : List T) (h : ShapesW Try.prog [9] xs) : FnC Try.prog 6 xs (tb true) := by
  obtain ⟨x0, xs0, rfl, ⟨n0, h0⟩, rfl⟩ := h
  obtain ⟨v0, rfl, k0⟩ := shp9 _ _ h0
  obtain ⟨N, hN⟩ := main v0 k0
  exact (F6_ok N v0 true hN).le (leL_cons (leT_refl _) (leL_nil)) (leT_refl _)

end Go.Proofs.YtdfghdppbfabfaaX

/- Plain functions with fuel: what they come to. Of no program. -/
set_option linter.unusedVariables false
set_option linter.unusedSimpArgs false
namespace Go.Proofs.YtdfghdppbfabfaaX
open Go

/-- With fuel enough the answer is this. -/
def Ev {α : Type} (f : Nat → Option α) (r : α) : Prop := ∃ N, ∀ n, N ≤ n → f n = some r
theorem Ev.pure {α : Type} {r : α} : Ev (fun _ => some r) r := ⟨0, fun _ _ => rfl⟩
theorem Ev.const {α : Type} {x : Option α} {r : α} (h : x = some r) : Ev (fun _ => x) r := ⟨0, fun _ _ => h⟩
theorem Ev.bind {α β : Type} {f : Nat → Option α} {g : Nat → α → Option β} {v : α} {r : β} (h : Ev f v) (h' : Ev (fun n => g n v) r) : Ev (fun n => (f n).bind (g n)) r := by
  obtain ⟨N, h⟩ := h
  obtain ⟨M, h'⟩ := h'
  exact ⟨max N M, fun n hn => by show (f n).bind (g n) = _; rw [h n (by omega)]; exact h' n (by omega)⟩
theorem Ev.step {α : Type} {f : Nat → Option α} {r : α} (h : Ev (fun n => f (n + 1)) r) : Ev f r := by
  obtain ⟨N, h⟩ := h
  refine ⟨N + 1, fun n hn => ?_⟩
  obtain ⟨m, rfl⟩ : ∃ m, n = m + 1 := ⟨n - 1, by omega⟩
  exact h m (by omega)
theorem Ev.congr {α : Type} {f g : Nat → Option α} {r : α} (h : Ev g r) (e : ∀ n, f n = g n) : Ev f r := by
  obtain ⟨N, h⟩ := h
  exact ⟨N, fun n hn => (e n).trans (h n hn)⟩
theorem Ev.grd {α : Type} {p : Prop} [Decidable p] {f : Nat → Option α} {r : α} (hp : p) (h : Ev f r) : Ev (fun n => grd p (f n)) r := h.congr fun n => if_pos hp
theorem Ev.ofT {α : Type} {b : Bool} {f g : Nat → Option α} {r : α} (hb : b = true) (h : Ev f r) : Ev (fun n => iteB b (f n) (g n)) r := h.congr fun n => by rw [hb]; rfl
theorem Ev.ofF {α : Type} {b : Bool} {f g : Nat → Option α} {r : α} (hb : b = false) (h : Ev g r) : Ev (fun n => iteB b (f n) (g n)) r := h.congr fun n => by rw [hb]; rfl
theorem Ev.ite {α : Type} {b : Bool} {f g : Nat → Option α} {r : α} (h1 : b = true → Ev f r) (h2 : b = false → Ev g r) : Ev (fun n => iteB b (f n) (g n)) r := by
  cases hb : b with
  | true => exact (h1 hb).congr fun n => rfl
  | false => exact (h2 hb).congr fun n => rfl
theorem iteB_t {α : Type} (x y : Option α) : iteB true x y = x := rfl
theorem iteB_f {α : Type} (x y : Option α) : iteB false x y = y := rfl
theorem grd_t {α : Type} {p : Prop} [Decidable p] (x : Option α) (h : p) : grd p x = x := if_pos h
theorem grd_True {α : Type} [Decidable True] (x : Option α) : grd True x = x := if_pos trivial
theorem bind_some' {α β : Type} (v : α) (g : α → Option β) : (some v).bind g = g v := rfl
theorem w64 {n : Int} (h : -9223372036854775808 ≤ n ∧ n ≤ 9223372036854775807) : IntKind.wrap .i64 n = n := Go.IntWalk.i64_in _ h
theorem w32 {n : Int} (h : -2147483648 ≤ n ∧ n ≤ 2147483647) : IntKind.wrap .i32 n = n := Go.IntWalk.i32_in _ h
theorem wu8 {n : Int} (h : 0 ≤ n ∧ n ≤ 255) : IntKind.wrap .u8 n = n := Go.IntWalk.u8_in _ h
theorem wu32 {n : Int} (h : 0 ≤ n ∧ n ≤ 4294967295) : IntKind.wrap .u32 n = n := Go.IntWalk.u32_in _ h
theorem wu64 {n : Int} (h : 0 ≤ n ∧ n ≤ 18446744073709551615) : IntKind.wrap .u64 n = n := Go.IntWalk.u64_in _ h
/-- Bytes as numbers. -/
theorem u8_beq (a b : UInt8) : ((a.toNat : Int) == (b.toNat : Int)) = (a == b) := by
  rw [Bool.eq_iff_iff, beq_iff_eq, beq_iff_eq]
  exact ⟨fun h => UInt8.toNat_inj.1 (by omega), fun h => by rw [h]⟩
theorem u8_lit (a : UInt8) (k : Nat) (hk : k < 256) : ((a.toNat : Int) == ((k : Nat) : Int)) = (a == UInt8.ofNat k) := by
  rw [Bool.eq_iff_iff, beq_iff_eq, beq_iff_eq]
  constructor
  · intro h
    apply UInt8.toNat_inj.1
    rw [UInt8.toNat_ofNat']
    omega
  · intro h
    subst h
    rw [UInt8.toNat_ofNat']
    omega
theorem u8_lt (a : UInt8) : (0 : Int) ≤ (a.toNat : Int) ∧ (a.toNat : Int) ≤ 255 := by
  have := a.toNat_lt; omega
theorem drop_cons {α : Type} (l : List α) (i : Nat) (d : α) (h : i < l.length) : l.drop i = l.getD i d :: l.drop (i + 1) := by
  rw [List.drop_eq_getElem_cons h, List.getD_eq_getElem?_getD, List.getElem?_eq_getElem h]; rfl
theorem toNat_nat (n : Nat) : ((n : Int)).toNat = n := rfl
end Go.Proofs.YtdfghdppbfabfaaX

/- The calendar: days, months, years. Of no program. -/
set_option linter.unusedVariables false
set_option linter.unusedSimpArgs false
namespace Go.Proofs.YtdfghdppbfabfaaX
open Go
theorem tdiv_nn {a : Int} (b : Int) (h : 0 ≤ a) : Int.tdiv a b = a / b := Int.tdiv_eq_ediv_of_nonneg h
theorem tmod_nn {a : Int} (b : Int) (h : 0 ≤ a) : Int.tmod a b = a % b := Int.tmod_eq_emod_of_nonneg h
def leapY (y : Int) : Prop := Int.tmod y 4 = 0 ∧ (Int.tmod y 100 ≠ 0 ∨ Int.tmod y 400 = 0)
instance (y : Int) : Decidable (leapY y) := by unfold leapY; exact inferInstance
def daysOf (y m : Int) : Int := if m < 1 ∨ m > 12 then 0 else if m = 2 then (if leapY y then 29 else 28) else if m = 4 ∨ m = 6 ∨ m = 9 ∨ m = 11 then 30 else 31
def aheadY (y : Int) : Int := (y - 1) * 365 + (y - 1) / 4 - (y - 1) / 100 + (y - 1) / 400
def lenY (y : Int) : Int := if leapY y then 366 else 365
theorem leap_iff {y : Int} (h : 0 ≤ y) : leapY y ↔ y % 4 = 0 ∧ (y % 100 ≠ 0 ∨ y % 400 = 0) := by
  unfold leapY
  rw [tmod_nn 4 h, tmod_nn 100 h, tmod_nn 400 h]
theorem lenY_bd (y : Int) : 365 ≤ lenY y ∧ lenY y ≤ 366 := by unfold lenY; split <;> omega
theorem ahead_succ {y : Int} (h : 1 ≤ y) : aheadY (y + 1) = aheadY y + lenY y := by
  unfold aheadY lenY
  have hi := leap_iff (show 0 ≤ y by omega)
  by_cases hl : leapY y
  · rw [if_pos hl]
    have := hi.1 hl
    omega
  · rw [if_neg hl]
    have : ¬ (y % 4 = 0 ∧ (y % 100 ≠ 0 ∨ y % 400 = 0)) := fun e => hl (hi.2 e)
    omega
theorem ahead_mono {a b : Int} (h : a ≤ b) : aheadY a ≤ aheadY b := by
  by_cases e : a = b
  · rw [e]; exact Int.le_refl _
  · unfold aheadY; omega
theorem ahead_lt {a b : Int} (h : aheadY a < aheadY b) : a < b := by
  by_cases e : a < b
  · exact e
  · have := ahead_mono (show b ≤ a by omega); omega
def cumM (y : Int) : Nat → Int
  | 0 => 0
  | n + 1 => cumM y n + daysOf y ((n : Int) + 1)
theorem days_bd (y m : Int) : 0 ≤ daysOf y m ∧ daysOf y m ≤ 31 := by
  unfold daysOf
  split
  · omega
  · split
    · split <;> omega
    · split <;> omega
theorem days_pos {y m : Int} (h : 1 ≤ daysOf y m) : 1 ≤ m ∧ m ≤ 12 := by
  by_cases e : m < 1 ∨ m > 12
  · unfold daysOf at h; rw [if_pos e] at h; omega
  · omega
theorem cum_12 (y : Int) : cumM y 12 = lenY y := by
  unfold lenY
  by_cases h : leapY y
  · simp [cumM, daysOf, h]
  · simp [cumM, daysOf, h]
theorem cum_mono (y : Int) {a b : Nat} (h : a ≤ b) : cumM y a ≤ cumM y b := by
  induction h with
  | refl => exact Int.le_refl _
  | step _ ih => have := days_bd y; rename_i m _; have := this (m + 1); rw [cumM]; omega
theorem cum_bd (y : Int) {a : Nat} (h : a ≤ 12) : 0 ≤ cumM y a ∧ cumM y a ≤ 366 := by
  have h1 := cum_mono y h
  have h2 := cum_mono y (Nat.zero_le a)
  rw [cum_12] at h1
  have := lenY_bd y
  rw [show cumM y 0 = 0 from rfl] at h2
  omega
def dayN (Y M D : Int) : Int := aheadY Y + cumM Y (M - 1).toNat + D - 1
structure IsT (N Y M D : Int) : Prop where
  y0 : 1 ≤ Y
  y1 : Y ≤ 9999
  m0 : 1 ≤ M
  m1 : M ≤ 12
  d0 : 1 ≤ D
  d1 : D ≤ daysOf Y M
  n : dayN Y M D = N
theorem month_step {Y M : Int} (h : 1 ≤ M) : cumM Y M.toNat = cumM Y (M - 1).toNat + daysOf Y M := by
  obtain ⟨i, rfl⟩ : ∃ i : Nat, M = i + 1 := ⟨(M - 1).toNat, by omega⟩
  rw [show ((i : Int) + 1).toNat = i + 1 by omega, show ((i : Int) + 1 - 1).toNat = i by omega, cumM]
theorem IsT.within {N Y M D : Int} (h : IsT N Y M D) : aheadY Y ≤ N ∧ N < aheadY (Y + 1) := by
  have hs := ahead_succ h.y0
  have hm := month_step (Y := Y) h.m0
  have hc := cum_mono Y (show M.toNat ≤ 12 by have := h.m1; omega)
  have hc0 := cum_bd Y (show (M - 1).toNat ≤ 12 by have := h.m1; omega)
  rw [cum_12] at hc
  have := h.n
  have := h.d0
  have := h.d1
  unfold dayN at *
  omega
/-- Days in order are days of years, months and days in order. -/
theorem IsT.lt {N Y M D N' Y' M' D' : Int} (h : IsT N Y M D) (h' : IsT N' Y' M' D') (hl : Y < Y' ∨ (Y = Y' ∧ (M < M' ∨ (M = M' ∧ D < D')))) : N < N' := by
  have w1 := h.within
  have w2 := h'.within
  rcases hl with hl | ⟨rfl, hl | ⟨rfl, hl⟩⟩
  · have := ahead_mono (show Y + 1 ≤ Y' by omega)
    omega
  · have e1 := h.n
    have e2 := h'.n
    have hm := month_step (Y := Y) h.m0
    have hc := cum_mono Y (show M.toNat ≤ (M' - 1).toNat by have := h.m0; omega)
    have := h.d1
    have := h'.d0
    unfold dayN at e1 e2
    omega
  · have e1 := h.n
    have e2 := h'.n
    unfold dayN at e1 e2
    omega
theorem IsT.one {N Y M D Y' M' D' : Int} (h : IsT N Y M D) (h' : IsT N Y' M' D') : Y = Y' ∧ M = M' ∧ D = D' := by
  have a : ¬ (Y < Y' ∨ (Y = Y' ∧ (M < M' ∨ (M = M' ∧ D < D')))) := fun e => Int.lt_irrefl _ (h.lt h' e)
  have b : ¬ (Y' < Y ∨ (Y' = Y ∧ (M' < M ∨ (M' = M ∧ D' < D)))) := fun e => Int.lt_irrefl _ (h'.lt h e)
  omega
theorem cum_step (Y : Int) (i : Nat) : cumM Y (i + 1) = cumM Y i + daysOf Y ((i : Int) + 1) := rfl
/-- A month and a day of it, of a day of the year. -/
theorem IsT.mk' {N Y M E x : Int} (hY : 1 ≤ Y ∧ Y ≤ 9999) (hM : 1 ≤ M ∧ M ≤ 12) (hE : 1 ≤ E ∧ E ≤ daysOf Y M) (hn : cumM Y (M - 1).toNat + E - 1 = x + cumM Y 0) (hx : x = N - aheadY Y) : IsT N Y M E := by
  rw [show cumM Y 0 = 0 from rfl] at hn
  exact ⟨hY.1, hY.2, hM.1, hM.2, hE.1, hE.2, by unfold dayN; omega⟩
def rightT (Y M D h m s : Int) : Prop := (1 ≤ Y ∧ Y ≤ 9999) ∧ (1 ≤ D ∧ D ≤ daysOf Y M) ∧ (0 ≤ h ∧ h ≤ 23) ∧ (0 ≤ m ∧ m ≤ 59) ∧ (0 ≤ s ∧ s ≤ 59)
instance (Y M D h m s : Int) : Decidable (rightT Y M D h m s) := by unfold rightT; exact inferInstance
theorem right_month {Y M D h m s : Int} (hr : rightT Y M D h m s) : 1 ≤ M ∧ M ≤ 12 := days_pos (y := Y) (by unfold rightT at hr; omega)
theorem right_IsT {Y M D h m s : Int} (hr : rightT Y M D h m s) : IsT (dayN Y M D) Y M D := by
  have hm := right_month hr
  unfold rightT at hr
  exact ⟨hr.1.1, hr.1.2, hm.1, hm.2, hr.2.1.1, hr.2.1.2, rfl⟩
theorem IsT.bd {N Y M D : Int} (h : IsT N Y M D) : 0 ≤ N ∧ N ≤ 3652058 := by
  have hw := h.within
  have h0 := ahead_mono h.y0
  have h1 := ahead_mono (show Y + 1 ≤ 10000 by have := h.y1; omega)
  rw [show aheadY 1 = 0 by decide] at h0
  rw [show aheadY 10000 = 3652059 by decide] at h1
  omega
/-- The year that the search begins with isn't too late. -/
theorem year_least (N : Int) (h0 : 0 ≤ N) (h1 : N < 3652059) : 1 ≤ N / 146097 * 400 + N % 146097 / 366 + 1 ∧ N / 146097 * 400 + N % 146097 / 366 + 1 ≤ 10000 ∧ aheadY (N / 146097 * 400 + N % 146097 / 366 + 1) ≤ N := by
  unfold aheadY
  have e : N = N / 146097 * 146097 + N % 146097 := by omega
  have hq0 : 0 ≤ N / 146097 := by omega
  have hq1 : N / 146097 ≤ 24 := by omega
  have hr0 : 0 ≤ N % 146097 := by omega
  have hr1 : N % 146097 < 146097 := by omega
  generalize N / 146097 = q at *
  generalize N % 146097 = r at *
  have hy0 : 366 * (r / 366) ≤ r := by omega
  have hy1 : r / 366 ≤ 399 := by omega
  have hy2 : 0 ≤ r / 366 := by omega
  generalize r / 366 = y at *
  refine ⟨by omega, by omega, ?_⟩
  omega
theorem tdm (sec : Int) : (Int.tmod sec 86400 < 0 ∧ Int.tdiv sec 86400 - 1 = sec / 86400 ∧ Int.tmod sec 86400 + 86400 = sec % 86400) ∨ (0 ≤ Int.tmod sec 86400 ∧ Int.tdiv sec 86400 = sec / 86400 ∧ Int.tmod sec 86400 = sec % 86400) := by
  by_cases h : 0 ≤ sec
  · right
    rw [tdiv_nn 86400 h, tmod_nn 86400 h]
    omega
  · have e1 : Int.tdiv sec 86400 = -((-sec) / 86400) := by
      rw [← tdiv_nn 86400 (show 0 ≤ -sec by omega), Int.neg_tdiv, Int.neg_neg]
    have e2 : Int.tmod sec 86400 = -((-sec) % 86400) := by
      rw [← tmod_nn 86400 (show 0 ≤ -sec by omega), Int.neg_tmod, Int.neg_neg]
    rw [e1, e2]
    omega

/-- A time: year, month, day, hour, minute, second. -/
abbrev Tm := Int × Int × Int × Int × Int × Int
def rT (t : Tm) : Prop := rightT t.1 t.2.1 t.2.2.1 t.2.2.2.1 t.2.2.2.2.1 t.2.2.2.2.2
instance (t : Tm) : Decidable (rT t) := by unfold rT; exact inferInstance
end Go.Proofs.YtdfghdppbfabfaaX

set_option linter.unusedVariables false
set_option linter.unusedSimpArgs false
namespace Go.Proofs.YtdfghdppbfabfaaX
open Go Go.RowKit Go.Proofs
set_option maxRecDepth 100000
/-! ### clock.Of -/
def F13_S3 (x7 : Int) (x11 : Int) (x12 : Int) (x13 : Int) (x14 : Int) (x15 : Int) (x16 : Int) (x17 : Int) : St := ⟨[.junk, .junk, .ref 0 0 0 0, .junk, .imm (.int .i64 x11), .junk, .imm (.int .i64 x7), .ref 1 0 0 0, .junk, .junk, .junk, .junk, .junk, .junk, .junk, .junk, .junk, .junk, .junk, .junk, .junk, .junk, .junk, .junk, .junk, .junk, .junk, .junk, .junk, .junk, .junk, .junk, .junk, .junk, .junk, .junk, .junk, .junk, .junk, .junk, .junk, .junk, .junk, .junk, .junk, .junk, .junk, .junk, .junk, .junk, .junk, .junk, .junk, .junk, .junk, .junk, .junk, .junk, .junk, .junk, .junk, .junk, .junk, .junk, .junk, .junk, .junk, .junk, .junk, .junk, .junk, .junk, .junk, .junk, .junk, .junk, .junk], [some (.box 28 (.agg [.imm (.int .i64 (0 : Int)), .imm (.int .i64 (0 : Int)), .imm (.int .i64 (0 : Int)), .imm (.int .i64 (0 : Int)), .imm (.int .i64 (0 : Int)), .imm (.int .i64 (0 : Int))]) false), some (.box 28 (.agg [.imm (.int .i64 x12), .imm (.int .i64 x13), .imm (.int .i64 x14), .imm (.int .i64 x15), .imm (.int .i64 x16), .imm (.int .i64 x17)]) false)]⟩
def F13_S2 (x2 : Int) (x3 : Int) (x7 : Int) : St := ⟨[.junk, .junk, .ref 0 0 0 0, .junk, .imm (.int .i64 (IntKind.wrap .i64 (x2 + (719162 : Int)))), .imm (.int .i64 x3), .imm (.int .i64 x7), .junk, .junk, .junk, .junk, .junk, .junk, .junk, .junk, .junk, .junk, .junk, .junk, .junk, .junk, .junk, .junk, .junk, .junk, .junk, .junk, .junk, .junk, .junk, .junk, .junk, .junk, .junk, .junk, .junk, .junk, .junk, .junk, .junk, .junk, .junk, .junk, .junk, .junk, .junk, .junk, .junk, .junk, .junk, .junk, .junk, .junk, .junk, .junk, .junk, .junk, .junk, .junk, .junk, .junk, .junk, .junk, .junk, .junk, .junk, .junk, .junk, .junk, .junk, .junk, .junk, .junk, .junk, .junk, .junk, .junk], [some (.box 28 (.agg [.imm (.int .i64 (0 : Int)), .imm (.int .i64 (0 : Int)), .imm (.int .i64 (0 : Int)), .imm (.int .i64 (0 : Int)), .imm (.int .i64 (0 : Int)), .imm (.int .i64 (0 : Int))]) false)]⟩
def F13_S1 (x2 : Int) (x3 : Int) : St := ⟨[.junk, .junk, .ref 0 0 0 0, .junk, .imm (.int .i64 x2), .imm (.int .i64 x3), .junk, .junk, .junk, .junk, .junk, .junk, .junk, .junk, .junk, .junk, .junk, .junk, .junk, .junk, .junk, .junk, .junk, .junk, .junk, .junk, .junk, .junk, .junk, .junk, .junk, .junk, .junk, .junk, .junk, .junk, .junk, .junk, .junk, .junk, .junk, .junk, .junk, .junk, .junk, .junk, .junk, .junk, .junk, .junk, .junk, .junk, .junk, .junk, .junk, .junk, .junk, .junk, .junk, .junk, .junk, .junk, .junk, .junk, .junk, .junk, .junk, .junk, .junk, .junk, .junk, .junk, .junk, .junk, .junk, .junk, .junk], [some (.box 28 (.agg [.imm (.int .i64 (0 : Int)), .imm (.int .i64 (0 : Int)), .imm (.int .i64 (0 : Int)), .imm (.int .i64 (0 : Int)), .imm (.int .i64 (0 : Int)), .imm (.int .i64 (0 : Int))]) false)]⟩
mutual
def F13_L3 : Nat → (Int) → (Int) → (Int) → (Int) → (Int) → (Int) → (Int) → (Int) → Option (((Int) × (Int) × (Int) × (Int) × (Int) × (Int)) × (Bool))
  | 0, _, _, _, _, _, _, _, _ => none
  | m3 + 1, x7, x11, x12, x13, x14, x15, x16, x17 => (F27 m3 x7 x13).bind fun v18 => iteB (decide (v18 ≤ x11)) ((F27 m3 x7 x13).bind fun v20 => F13_L3 m3 x7 (IntKind.wrap .i64 (x11 - v20)) x12 (IntKind.wrap .i64 (x13 + (1 : Int))) x14 x15 x16 x17) (some ((x12, x13, (IntKind.wrap .i64 (x11 + (1 : Int))), x15, x16, x17), true))
def F13_L2 : Nat → (Int) → (Int) → (Int) → Option (((Int) × (Int) × (Int) × (Int) × (Int) × (Int)) × (Bool))
  | 0, _, _, _ => none
  | m2 + 1, x2, x3, x7 => (F45 m2 (IntKind.wrap .i64 (x7 + (1 : Int)))).bind fun v8 => iteB (decide (v8 ≤ (IntKind.wrap .i64 (x2 + (719162 : Int))))) (F13_L2 m2 x2 x3 (IntKind.wrap .i64 (x7 + (1 : Int)))) ((F45 m2 x7).bind fun v10 => F13_L3 m2 x7 (IntKind.wrap .i64 ((IntKind.wrap .i64 (x2 + (719162 : Int))) - v10)) x7 (1 : Int) (0 : Int) (IntKind.wrap .i64 (x3.tdiv (3600 : Int))) (IntKind.wrap .i64 ((x3.tmod (3600 : Int)).tdiv (60 : Int))) (x3.tmod (60 : Int)))
def F13_J1 (n : Nat) (x2 : Int) (x3 : Int) : Option (((Int) × (Int) × (Int) × (Int) × (Int) × (Int)) × (Bool)) := iteB (decide (x2 < (-719162 : Int))) (some (((0 : Int), (0 : Int), (0 : Int), (0 : Int), (0 : Int), (0 : Int)), false)) ((F45 n (10000 : Int)).bind fun v5 => iteB (decide ((IntKind.wrap .i64 (v5 - (719162 : Int))) ≤ x2)) (some (((0 : Int), (0 : Int), (0 : Int), (0 : Int), (0 : Int), (0 : Int)), false)) (F13_L2 n x2 x3 (IntKind.wrap .i64 ((IntKind.wrap .i64 ((IntKind.wrap .i64 ((IntKind.wrap .i64 ((IntKind.wrap .i64 (x2 + (719162 : Int))).tdiv (146097 : Int))) * (400 : Int))) + (IntKind.wrap .i64 (((IntKind.wrap .i64 (x2 + (719162 : Int))).tmod (146097 : Int)).tdiv (366 : Int))))) + (1 : Int)))))
end
def F13 (n : Nat) (a0 : Int) : Option (((Int) × (Int) × (Int) × (Int) × (Int) × (Int)) × (Bool)) := iteB (decide ((a0.tmod (86400 : Int)) < (0 : Int))) (F13_J1 n (IntKind.wrap .i64 ((IntKind.wrap .i64 (a0.tdiv (86400 : Int))) - (1 : Int))) (IntKind.wrap .i64 ((a0.tmod (86400 : Int)) + (86400 : Int)))) (F13_J1 n (IntKind.wrap .i64 (a0.tdiv (86400 : Int))) (a0.tmod (86400 : Int)))
set_option maxHeartbeats 4000000 in
theorem F13_ok : ∀ (n : Nat) (a0 : Int) (r : ((Int) × (Int) × (Int) × (Int) × (Int) × (Int)) × (Bool)), F13 n a0 = some r → FnC Try.prog 13 [.imm (.int .i64 a0)] (.tup [.agg [.imm (.int .i64 r.1.1), .imm (.int .i64 r.1.2.1), .imm (.int .i64 r.1.2.2.1), .imm (.int .i64 r.1.2.2.2.1), .imm (.int .i64 r.1.2.2.2.2.1), .imm (.int .i64 r.1.2.2.2.2.2)], .imm (.bool r.2)])
  | n, a0, r, h => by
    unfold F13 at h
    refine FnC.goX mixed Try.func13 (by kernel_rfl) rfl ?_
    simp only [Try.ntmps13, List.length_cons, List.length_nil, List.replicate, List.cons_append, List.nil_append, Nat.reduceAdd, Nat.reduceSub]
    refine runX_seq ?_
    refine runX_regionC fun C hC => ?_
    try simp -implicitDefEqProofs (maxSteps := 4000000) (disch := first | omega | decide | (simp only [go_sem]; omega)) only [go_sem, ↓reduceIte, String.reduceEq, String.reduceNe, reduceCtorEq, Int.reduceEq, Nat.reduceAdd, Nat.reduceSub, Nat.reduceMul, Nat.reduceLT, Nat.reduceLeDiff, Nat.reduceEqDiff, Nat.reduceBEq, Int.reduceToNat, Int.reduceLT, Int.reduceLE, Int.reduceGT, Int.reduceGE, Int.reduceAdd, Int.reduceSub, Int.reduceMul, Int.reduceNeg, Int.reduceBEq, Int.reduceBNe, Int.reducePow, Int.reduceDiv, Int.reduceMod, Int.reduceTDiv, Int.reduceTMod, Int.reduceNatCast]
    repeat (with_reducible refine And.intro (by first | assumption | omega | (simp; done) | (simp; omega)) ?_)
    refine toEnd hC ?_
    refine endX_seq ?_
    refine runX_seq ?_
    refine runX_regionC fun C hC => ?_
    try simp -implicitDefEqProofs (maxSteps := 4000000) (disch := first | omega | decide | (simp only [go_sem]; omega)) only [go_sem, ↓reduceIte, String.reduceEq, String.reduceNe, reduceCtorEq, Int.reduceEq, Nat.reduceAdd, Nat.reduceSub, Nat.reduceMul, Nat.reduceLT, Nat.reduceLeDiff, Nat.reduceEqDiff, Nat.reduceBEq, Int.reduceToNat, Int.reduceLT, Int.reduceLE, Int.reduceGT, Int.reduceGE, Int.reduceAdd, Int.reduceSub, Int.reduceMul, Int.reduceNeg, Int.reduceBEq, Int.reduceBNe, Int.reducePow, Int.reduceDiv, Int.reduceMod, Int.reduceTDiv, Int.reduceTMod, Int.reduceNatCast]
    repeat (with_reducible refine And.intro (by first | assumption | omega | (simp; done) | (simp; omega)) ?_)
    refine toEnd hC ?_
    refine endX_seq ?_
    refine runX_meet [2, 4, 5] (fun S => ∃ (x2 : Int) (x3 : Int), S = F13_S1 x2 x3 ∧ F13_J1 n x2 x3 = some r) ?_ ?_
    · refine runX_seq ?_
      refine runX_regionC fun C hC => ?_
      try simp -implicitDefEqProofs (maxSteps := 4000000) (disch := first | omega | decide | (simp only [go_sem]; omega)) only [go_sem, ↓reduceIte, String.reduceEq, String.reduceNe, reduceCtorEq, Int.reduceEq, Nat.reduceAdd, Nat.reduceSub, Nat.reduceMul, Nat.reduceLT, Nat.reduceLeDiff, Nat.reduceEqDiff, Nat.reduceBEq, Int.reduceToNat, Int.reduceLT, Int.reduceLE, Int.reduceGT, Int.reduceGE, Int.reduceAdd, Int.reduceSub, Int.reduceMul, Int.reduceNeg, Int.reduceBEq, Int.reduceBNe, Int.reducePow, Int.reduceDiv, Int.reduceMod, Int.reduceTDiv, Int.reduceTMod, Int.reduceNatCast]
      repeat (with_reducible refine And.intro (by first | assumption | omega | (simp; done) | (simp; omega)) ?_)
      refine toEnd hC ?_
      refine endX_seq ?_
      rcases iteB_some h with ⟨c1, h⟩ | ⟨c1, h⟩
      · refine runX_condT rfl c1 ?_
        refine runX_regionC fun C hC => ?_
        try simp -implicitDefEqProofs (maxSteps := 4000000) (disch := first | omega | decide | (simp only [go_sem]; omega)) only [go_sem, ↓reduceIte, String.reduceEq, String.reduceNe, reduceCtorEq, Int.reduceEq, Nat.reduceAdd, Nat.reduceSub, Nat.reduceMul, Nat.reduceLT, Nat.reduceLeDiff, Nat.reduceEqDiff, Nat.reduceBEq, Int.reduceToNat, Int.reduceLT, Int.reduceLE, Int.reduceGT, Int.reduceGE, Int.reduceAdd, Int.reduceSub, Int.reduceMul, Int.reduceNeg, Int.reduceBEq, Int.reduceBNe, Int.reducePow, Int.reduceDiv, Int.reduceMod, Int.reduceTDiv, Int.reduceTMod, Int.reduceNatCast]
        repeat (with_reducible refine And.intro (by first | assumption | omega | (simp; done) | (simp; omega)) ?_)
        refine toEnd hC ?_
        refine endX_q (meetQ_normal ⟨F13_S1 (IntKind.wrap .i64 ((IntKind.wrap .i64 (a0.tdiv (86400 : Int))) - (1 : Int))) (IntKind.wrap .i64 ((a0.tmod (86400 : Int)) + (86400 : Int))), ?_, (IntKind.wrap .i64 ((IntKind.wrap .i64 (a0.tdiv (86400 : Int))) - (1 : Int))), (IntKind.wrap .i64 ((a0.tmod (86400 : Int)) + (86400 : Int))), rfl, h⟩)
        simp only [F13_S1]
        (try simp -implicitDefEqProofs (maxSteps := 4000000) (disch := first | omega | decide | (simp only [go_sem]; omega)) only [go_sem, ↓reduceIte, String.reduceEq, String.reduceNe, reduceCtorEq, Int.reduceEq, Nat.reduceAdd, Nat.reduceSub, Nat.reduceMul, Nat.reduceLT, Nat.reduceLeDiff, Nat.reduceEqDiff, Nat.reduceBEq, Int.reduceToNat, Int.reduceLT, Int.reduceLE, Int.reduceGT, Int.reduceGE, Int.reduceAdd, Int.reduceSub, Int.reduceMul, Int.reduceNeg, Int.reduceBEq, Int.reduceBNe, Int.reducePow, Int.reduceDiv, Int.reduceMod, Int.reduceTDiv, Int.reduceTMod, Int.reduceNatCast])
        first | exact leS_refl _ | (refine leS_le ?_ ?_ <;> first | exact leL_refl _ | exact leOs_refl _ | (repeat (first | exact leL_refl _ | refine leL_cons (by first | exact leT_refl _ | exact leT_virt | exact leT_junk _ | exact leT_sl | exact leT_sln | exact leT_nil) ?_)))
      · refine runX_condF rfl c1 ?_
        refine runX_skip ?_
        refine endX_q (meetQ_normal ⟨F13_S1 (IntKind.wrap .i64 (a0.tdiv (86400 : Int))) (a0.tmod (86400 : Int)), ?_, (IntKind.wrap .i64 (a0.tdiv (86400 : Int))), (a0.tmod (86400 : Int)), rfl, h⟩)
        simp only [F13_S1]
        (try simp -implicitDefEqProofs (maxSteps := 4000000) (disch := first | omega | decide | (simp only [go_sem]; omega)) only [go_sem, ↓reduceIte, String.reduceEq, String.reduceNe, reduceCtorEq, Int.reduceEq, Nat.reduceAdd, Nat.reduceSub, Nat.reduceMul, Nat.reduceLT, Nat.reduceLeDiff, Nat.reduceEqDiff, Nat.reduceBEq, Int.reduceToNat, Int.reduceLT, Int.reduceLE, Int.reduceGT, Int.reduceGE, Int.reduceAdd, Int.reduceSub, Int.reduceMul, Int.reduceNeg, Int.reduceBEq, Int.reduceBNe, Int.reducePow, Int.reduceDiv, Int.reduceMod, Int.reduceTDiv, Int.reduceTMod, Int.reduceNatCast])
        first | exact leS_refl _ | (refine leS_le ?_ ?_ <;> first | exact leL_refl _ | exact leOs_refl _ | (repeat (first | exact leL_refl _ | refine leL_cons (by first | exact leT_refl _ | exact leT_virt | exact leT_junk _ | exact leT_sl | exact leT_sln | exact leT_nil) ?_)))
    · clear h
      rintro S ⟨x2, x3, rfl, h⟩
      rw [F13_J1] at h
      simp only [F13_S1]
      refine runX_seq ?_
      refine runX_seq ?_
      refine runX_regionC fun C hC => ?_
      try simp -implicitDefEqProofs (maxSteps := 4000000) (disch := first | omega | decide | (simp only [go_sem]; omega)) only [go_sem, ↓reduceIte, String.reduceEq, String.reduceNe, reduceCtorEq, Int.reduceEq, Nat.reduceAdd, Nat.reduceSub, Nat.reduceMul, Nat.reduceLT, Nat.reduceLeDiff, Nat.reduceEqDiff, Nat.reduceBEq, Int.reduceToNat, Int.reduceLT, Int.reduceLE, Int.reduceGT, Int.reduceGE, Int.reduceAdd, Int.reduceSub, Int.reduceMul, Int.reduceNeg, Int.reduceBEq, Int.reduceBNe, Int.reducePow, Int.reduceDiv, Int.reduceMod, Int.reduceTDiv, Int.reduceTMod, Int.reduceNatCast]
      repeat (with_reducible refine And.intro (by first | assumption | omega | (simp; done) | (simp; omega)) ?_)
      rcases iteB_some h with ⟨c4, h⟩ | ⟨c4, h⟩
      · refine guardK_F c4 ?_
        try simp -implicitDefEqProofs (maxSteps := 4000000) (disch := first | omega | decide | (simp only [go_sem]; omega)) only [go_sem, ↓reduceIte, String.reduceEq, String.reduceNe, reduceCtorEq, Int.reduceEq, Nat.reduceAdd, Nat.reduceSub, Nat.reduceMul, Nat.reduceLT, Nat.reduceLeDiff, Nat.reduceEqDiff, Nat.reduceBEq, Int.reduceToNat, Int.reduceLT, Int.reduceLE, Int.reduceGT, Int.reduceGE, Int.reduceAdd, Int.reduceSub, Int.reduceMul, Int.reduceNeg, Int.reduceBEq, Int.reduceBNe, Int.reducePow, Int.reduceDiv, Int.reduceMod, Int.reduceTDiv, Int.reduceTMod, Int.reduceNatCast]
        repeat (with_reducible refine And.intro (by first | assumption | omega | (simp; done) | (simp; omega)) ?_)
        refine toEnd hC ?_
        refine endX_seq ?_
        refine runX_condT rfl rfl ?_
        refine runX_seq ?_
        refine runX_regionC fun C hC => ?_
        try simp -implicitDefEqProofs (maxSteps := 4000000) (disch := first | omega | decide | (simp only [go_sem]; omega)) only [go_sem, ↓reduceIte, String.reduceEq, String.reduceNe, reduceCtorEq, Int.reduceEq, Nat.reduceAdd, Nat.reduceSub, Nat.reduceMul, Nat.reduceLT, Nat.reduceLeDiff, Nat.reduceEqDiff, Nat.reduceBEq, Int.reduceToNat, Int.reduceLT, Int.reduceLE, Int.reduceGT, Int.reduceGE, Int.reduceAdd, Int.reduceSub, Int.reduceMul, Int.reduceNeg, Int.reduceBEq, Int.reduceBNe, Int.reducePow, Int.reduceDiv, Int.reduceMod, Int.reduceTDiv, Int.reduceTMod, Int.reduceNatCast]
        repeat (with_reducible refine And.intro (by first | assumption | omega | (simp; done) | (simp; omega)) ?_)
        refine buildW_of [.imm (.int .i64 (0 : Int)), .imm (.int .i64 (0 : Int)), .imm (.int .i64 (0 : Int)), .imm (.int .i64 (0 : Int)), .imm (.int .i64 (0 : Int)), .imm (.int .i64 (0 : Int))] (by kernel_rfl) ?_
        try simp -implicitDefEqProofs (maxSteps := 4000000) (disch := first | omega | decide | (simp only [go_sem]; omega)) only [go_sem, ↓reduceIte, String.reduceEq, String.reduceNe, reduceCtorEq, Int.reduceEq, Nat.reduceAdd, Nat.reduceSub, Nat.reduceMul, Nat.reduceLT, Nat.reduceLeDiff, Nat.reduceEqDiff, Nat.reduceBEq, Int.reduceToNat, Int.reduceLT, Int.reduceLE, Int.reduceGT, Int.reduceGE, Int.reduceAdd, Int.reduceSub, Int.reduceMul, Int.reduceNeg, Int.reduceBEq, Int.reduceBNe, Int.reducePow, Int.reduceDiv, Int.reduceMod, Int.reduceTDiv, Int.reduceTMod, Int.reduceNatCast]
        repeat (with_reducible refine And.intro (by first | assumption | omega | (simp; done) | (simp; omega)) ?_)
        refine toEnd hC ?_
        refine endX_seq ?_
        refine runX_ret ?_
        refine endX_seqR ?_
        refine endX_q ?_
        obtain rfl := Option.some.inj h
        show RetW _ _ _ _ _
        simp only [RetW]
        (try simp -implicitDefEqProofs (maxSteps := 4000000) (disch := first | omega | decide | (simp only [go_sem]; omega)) only [go_sem, ↓reduceIte, String.reduceEq, String.reduceNe, reduceCtorEq, Int.reduceEq, Nat.reduceAdd, Nat.reduceSub, Nat.reduceMul, Nat.reduceLT, Nat.reduceLeDiff, Nat.reduceEqDiff, Nat.reduceBEq, Int.reduceToNat, Int.reduceLT, Int.reduceLE, Int.reduceGT, Int.reduceGE, Int.reduceAdd, Int.reduceSub, Int.reduceMul, Int.reduceNeg, Int.reduceBEq, Int.reduceBNe, Int.reducePow, Int.reduceDiv, Int.reduceMod, Int.reduceTDiv, Int.reduceTMod, Int.reduceNatCast])
        first | exact leT_refl _ | (refine ⟨rfl, ?_⟩; first | exact leT_refl _ | exact leT_sl | exact leT_sln | exact leT_nil | (refine leT_tup (by repeat (first | exact leL_refl _ | refine leL_cons (by first | exact leT_refl _ | exact leT_virt | exact leT_junk _ | exact leT_sl | exact leT_sln | exact leT_nil) ?_))) | (refine leT_agg (by repeat (first | exact leL_refl _ | refine leL_cons (by first | exact leT_refl _ | exact leT_virt | exact leT_junk _ | exact leT_sl | exact leT_sln | exact leT_nil) ?_)))) | (first | exact leT_refl _ | exact leT_sl | exact leT_sln | exact leT_nil | (refine leT_tup (by repeat (first | exact leL_refl _ | refine leL_cons (by first | exact leT_refl _ | exact leT_virt | exact leT_junk _ | exact leT_sl | exact leT_sln | exact leT_nil) ?_))) | (refine leT_agg (by repeat (first | exact leL_refl _ | refine leL_cons (by first | exact leT_refl _ | exact leT_virt | exact leT_junk _ | exact leT_sl | exact leT_sln | exact leT_nil) ?_))))
      · refine guardK_T c4 ?_
        obtain ⟨v5, h5, h⟩ := bnd_some h
        try simp -implicitDefEqProofs (maxSteps := 4000000) (disch := first | omega | decide | (simp only [go_sem]; omega)) only [go_sem, ↓reduceIte, String.reduceEq, String.reduceNe, reduceCtorEq, Int.reduceEq, Nat.reduceAdd, Nat.reduceSub, Nat.reduceMul, Nat.reduceLT, Nat.reduceLeDiff, Nat.reduceEqDiff, Nat.reduceBEq, Int.reduceToNat, Int.reduceLT, Int.reduceLE, Int.reduceGT, Int.reduceGE, Int.reduceAdd, Int.reduceSub, Int.reduceMul, Int.reduceNeg, Int.reduceBEq, Int.reduceBNe, Int.reducePow, Int.reduceDiv, Int.reduceMod, Int.reduceTDiv, Int.reduceTMod, Int.reduceNatCast]
        repeat (with_reducible refine And.intro (by first | assumption | omega | (simp; done) | (simp; omega)) ?_)
        refine callG_X (F45_ok n (10000 : Int) _ h5) (by repeat (first | exact leL_refl _ | refine leL_cons (by first | exact leT_refl _ | exact leT_virt | exact leT_junk _ | exact leT_sl | exact leT_sln | exact leT_nil) ?_)) ?_
        try simp -implicitDefEqProofs (maxSteps := 4000000) (disch := first | omega | decide | (simp only [go_sem]; omega)) only [go_sem, ↓reduceIte, String.reduceEq, String.reduceNe, reduceCtorEq, Int.reduceEq, Nat.reduceAdd, Nat.reduceSub, Nat.reduceMul, Nat.reduceLT, Nat.reduceLeDiff, Nat.reduceEqDiff, Nat.reduceBEq, Int.reduceToNat, Int.reduceLT, Int.reduceLE, Int.reduceGT, Int.reduceGE, Int.reduceAdd, Int.reduceSub, Int.reduceMul, Int.reduceNeg, Int.reduceBEq, Int.reduceBNe, Int.reducePow, Int.reduceDiv, Int.reduceMod, Int.reduceTDiv, Int.reduceTMod, Int.reduceNatCast]
        repeat (with_reducible refine And.intro (by first | assumption | omega | (simp; done) | (simp; omega)) ?_)
        refine toEnd hC ?_
        refine endX_seq ?_
        rcases iteB_some h with ⟨c6, h⟩ | ⟨c6, h⟩
        · refine runX_condT rfl c6 ?_
          refine runX_seq ?_
          refine runX_regionC fun C hC => ?_
          try simp -implicitDefEqProofs (maxSteps := 4000000) (disch := first | omega | decide | (simp only [go_sem]; omega)) only [go_sem, ↓reduceIte, String.reduceEq, String.reduceNe, reduceCtorEq, Int.reduceEq, Nat.reduceAdd, Nat.reduceSub, Nat.reduceMul, Nat.reduceLT, Nat.reduceLeDiff, Nat.reduceEqDiff, Nat.reduceBEq, Int.reduceToNat, Int.reduceLT, Int.reduceLE, Int.reduceGT, Int.reduceGE, Int.reduceAdd, Int.reduceSub, Int.reduceMul, Int.reduceNeg, Int.reduceBEq, Int.reduceBNe, Int.reducePow, Int.reduceDiv, Int.reduceMod, Int.reduceTDiv, Int.reduceTMod, Int.reduceNatCast]
          repeat (with_reducible refine And.intro (by first | assumption | omega | (simp; done) | (simp; omega)) ?_)
          refine buildW_of [.imm (.int .i64 (0 : Int)), .imm (.int .i64 (0 : Int)), .imm (.int .i64 (0 : Int)), .imm (.int .i64 (0 : Int)), .imm (.int .i64 (0 : Int)), .imm (.int .i64 (0 : Int))] (by kernel_rfl) ?_
          try simp -implicitDefEqProofs (maxSteps := 4000000) (disch := first | omega | decide | (simp only [go_sem]; omega)) only [go_sem, ↓reduceIte, String.reduceEq, String.reduceNe, reduceCtorEq, Int.reduceEq, Nat.reduceAdd, Nat.reduceSub, Nat.reduceMul, Nat.reduceLT, Nat.reduceLeDiff, Nat.reduceEqDiff, Nat.reduceBEq, Int.reduceToNat, Int.reduceLT, Int.reduceLE, Int.reduceGT, Int.reduceGE, Int.reduceAdd, Int.reduceSub, Int.reduceMul, Int.reduceNeg, Int.reduceBEq, Int.reduceBNe, Int.reducePow, Int.reduceDiv, Int.reduceMod, Int.reduceTDiv, Int.reduceTMod, Int.reduceNatCast]
          repeat (with_reducible refine And.intro (by first | assumption | omega | (simp; done) | (simp; omega)) ?_)
          refine toEnd hC ?_
          refine endX_seq ?_
          refine runX_ret ?_
          refine endX_seqR ?_
          refine endX_q ?_
          obtain rfl := Option.some.inj h
          show RetW _ _ _ _ _
          simp only [RetW]
          (try simp -implicitDefEqProofs (maxSteps := 4000000) (disch := first | omega | decide | (simp only [go_sem]; omega)) only [go_sem, ↓reduceIte, String.reduceEq, String.reduceNe, reduceCtorEq, Int.reduceEq, Nat.reduceAdd, Nat.reduceSub, Nat.reduceMul, Nat.reduceLT, Nat.reduceLeDiff, Nat.reduceEqDiff, Nat.reduceBEq, Int.reduceToNat, Int.reduceLT, Int.reduceLE, Int.reduceGT, Int.reduceGE, Int.reduceAdd, Int.reduceSub, Int.reduceMul, Int.reduceNeg, Int.reduceBEq, Int.reduceBNe, Int.reducePow, Int.reduceDiv, Int.reduceMod, Int.reduceTDiv, Int.reduceTMod, Int.reduceNatCast])
          first | exact leT_refl _ | (refine ⟨rfl, ?_⟩; first | exact leT_refl _ | exact leT_sl | exact leT_sln | exact leT_nil | (refine leT_tup (by repeat (first | exact leL_refl _ | refine leL_cons (by first | exact leT_refl _ | exact leT_virt | exact leT_junk _ | exact leT_sl | exact leT_sln | exact leT_nil) ?_))) | (refine leT_agg (by repeat (first | exact leL_refl _ | refine leL_cons (by first | exact leT_refl _ | exact leT_virt | exact leT_junk _ | exact leT_sl | exact leT_sln | exact leT_nil) ?_)))) | (first | exact leT_refl _ | exact leT_sl | exact leT_sln | exact leT_nil | (refine leT_tup (by repeat (first | exact leL_refl _ | refine leL_cons (by first | exact leT_refl _ | exact leT_virt | exact leT_junk _ | exact leT_sl | exact leT_sln | exact leT_nil) ?_))) | (refine leT_agg (by repeat (first | exact leL_refl _ | refine leL_cons (by first | exact leT_refl _ | exact leT_virt | exact leT_junk _ | exact leT_sl | exact leT_sln | exact leT_nil) ?_))))
        · refine runX_condF rfl c6 ?_
          refine runX_skip ?_
          refine endX_seq ?_
          refine runX_seq ?_
          refine runX_regionC fun C hC => ?_
          try simp -implicitDefEqProofs (maxSteps := 4000000) (disch := first | omega | decide | (simp only [go_sem]; omega)) only [go_sem, ↓reduceIte, String.reduceEq, String.reduceNe, reduceCtorEq, Int.reduceEq, Nat.reduceAdd, Nat.reduceSub, Nat.reduceMul, Nat.reduceLT, Nat.reduceLeDiff, Nat.reduceEqDiff, Nat.reduceBEq, Int.reduceToNat, Int.reduceLT, Int.reduceLE, Int.reduceGT, Int.reduceGE, Int.reduceAdd, Int.reduceSub, Int.reduceMul, Int.reduceNeg, Int.reduceBEq, Int.reduceBNe, Int.reducePow, Int.reduceDiv, Int.reduceMod, Int.reduceTDiv, Int.reduceTMod, Int.reduceNatCast]
          repeat (with_reducible refine And.intro (by first | assumption | omega | (simp; done) | (simp; omega)) ?_)
          refine toEnd hC ?_
          refine endX_seq ?_
          refine runX_seq ?_
          refine runX_regionC fun C hC => ?_
          try simp -implicitDefEqProofs (maxSteps := 4000000) (disch := first | omega | decide | (simp only [go_sem]; omega)) only [go_sem, ↓reduceIte, String.reduceEq, String.reduceNe, reduceCtorEq, Int.reduceEq, Nat.reduceAdd, Nat.reduceSub, Nat.reduceMul, Nat.reduceLT, Nat.reduceLeDiff, Nat.reduceEqDiff, Nat.reduceBEq, Int.reduceToNat, Int.reduceLT, Int.reduceLE, Int.reduceGT, Int.reduceGE, Int.reduceAdd, Int.reduceSub, Int.reduceMul, Int.reduceNeg, Int.reduceBEq, Int.reduceBNe, Int.reducePow, Int.reduceDiv, Int.reduceMod, Int.reduceTDiv, Int.reduceTMod, Int.reduceNatCast]
          repeat (with_reducible refine And.intro (by first | assumption | omega | (simp; done) | (simp; omega)) ?_)
          refine toEnd hC ?_
          refine endX_seq ?_
          refine runX_seq ?_
          refine runX_block ?_
          refine runX_loop [2, 4, 5, 6] (fun m S => ∃ (x7 : Int), S = F13_S2 x2 x3 x7 ∧ m ≤ n ∧ F13_L2 m x2 x3 x7 = some r) n ⟨F13_S2 x2 x3 (IntKind.wrap .i64 ((IntKind.wrap .i64 ((IntKind.wrap .i64 ((IntKind.wrap .i64 ((IntKind.wrap .i64 (x2 + (719162 : Int))).tdiv (146097 : Int))) * (400 : Int))) + (IntKind.wrap .i64 (((IntKind.wrap .i64 (x2 + (719162 : Int))).tmod (146097 : Int)).tdiv (366 : Int))))) + (1 : Int))), ?_, (IntKind.wrap .i64 ((IntKind.wrap .i64 ((IntKind.wrap .i64 ((IntKind.wrap .i64 ((IntKind.wrap .i64 (x2 + (719162 : Int))).tdiv (146097 : Int))) * (400 : Int))) + (IntKind.wrap .i64 (((IntKind.wrap .i64 (x2 + (719162 : Int))).tmod (146097 : Int)).tdiv (366 : Int))))) + (1 : Int))), rfl, Nat.le_refl _, h⟩ ?_
          · simp only [F13_S2]
            (try simp -implicitDefEqProofs (maxSteps := 4000000) (disch := first | omega | decide | (simp only [go_sem]; omega)) only [go_sem, ↓reduceIte, String.reduceEq, String.reduceNe, reduceCtorEq, Int.reduceEq, Nat.reduceAdd, Nat.reduceSub, Nat.reduceMul, Nat.reduceLT, Nat.reduceLeDiff, Nat.reduceEqDiff, Nat.reduceBEq, Int.reduceToNat, Int.reduceLT, Int.reduceLE, Int.reduceGT, Int.reduceGE, Int.reduceAdd, Int.reduceSub, Int.reduceMul, Int.reduceNeg, Int.reduceBEq, Int.reduceBNe, Int.reducePow, Int.reduceDiv, Int.reduceMod, Int.reduceTDiv, Int.reduceTMod, Int.reduceNatCast])
            first | exact leS_refl _ | (refine leS_le ?_ ?_ <;> first | exact leL_refl _ | exact leOs_refl _ | (repeat (first | exact leL_refl _ | refine leL_cons (by first | exact leT_refl _ | exact leT_virt | exact leT_junk _ | exact leT_sl | exact leT_sln | exact leT_nil) ?_)))
          · clear h
            rintro m2 S ⟨x7, rfl, hm2, h⟩
            cases m2 with
            | zero => cases (show (none : Option _) = some _ from h)
            | succ m2 =>
              rw [F13_L2] at h
              simp only [F13_S2]
              refine runX_seq ?_
              refine runX_seq ?_
              refine runX_regionC fun C hC => ?_
              obtain ⟨v8, h8, h⟩ := bnd_some h
              try simp -implicitDefEqProofs (maxSteps := 4000000) (disch := first | omega | decide | (simp only [go_sem]; omega)) only [go_sem, ↓reduceIte, String.reduceEq, String.reduceNe, reduceCtorEq, Int.reduceEq, Nat.reduceAdd, Nat.reduceSub, Nat.reduceMul, Nat.reduceLT, Nat.reduceLeDiff, Nat.reduceEqDiff, Nat.reduceBEq, Int.reduceToNat, Int.reduceLT, Int.reduceLE, Int.reduceGT, Int.reduceGE, Int.reduceAdd, Int.reduceSub, Int.reduceMul, Int.reduceNeg, Int.reduceBEq, Int.reduceBNe, Int.reducePow, Int.reduceDiv, Int.reduceMod, Int.reduceTDiv, Int.reduceTMod, Int.reduceNatCast]
              repeat (with_reducible refine And.intro (by first | assumption | omega | (simp; done) | (simp; omega)) ?_)
              refine callG_X (F45_ok m2 (IntKind.wrap .i64 (x7 + (1 : Int))) _ h8) (by repeat (first | exact leL_refl _ | refine leL_cons (by first | exact leT_refl _ | exact leT_virt | exact leT_junk _ | exact leT_sl | exact leT_sln | exact leT_nil) ?_)) ?_
              try simp -implicitDefEqProofs (maxSteps := 4000000) (disch := first | omega | decide | (simp only [go_sem]; omega)) only [go_sem, ↓reduceIte, String.reduceEq, String.reduceNe, reduceCtorEq, Int.reduceEq, Nat.reduceAdd, Nat.reduceSub, Nat.reduceMul, Nat.reduceLT, Nat.reduceLeDiff, Nat.reduceEqDiff, Nat.reduceBEq, Int.reduceToNat, Int.reduceLT, Int.reduceLE, Int.reduceGT, Int.reduceGE, Int.reduceAdd, Int.reduceSub, Int.reduceMul, Int.reduceNeg, Int.reduceBEq, Int.reduceBNe, Int.reducePow, Int.reduceDiv, Int.reduceMod, Int.reduceTDiv, Int.reduceTMod, Int.reduceNatCast]
              repeat (with_reducible refine And.intro (by first | assumption | omega | (simp; done) | (simp; omega)) ?_)
              refine toEnd hC ?_
              refine endX_seq ?_
              rcases iteB_some h with ⟨c9, h⟩ | ⟨c9, h⟩
              · refine runX_condT rfl c9 ?_
                refine runX_skip ?_
                refine endX_seq ?_
                refine runX_block ?_
                refine runX_regionC fun C hC => ?_
                try simp -implicitDefEqProofs (maxSteps := 4000000) (disch := first | omega | decide | (simp only [go_sem]; omega)) only [go_sem, ↓reduceIte, String.reduceEq, String.reduceNe, reduceCtorEq, Int.reduceEq, Nat.reduceAdd, Nat.reduceSub, Nat.reduceMul, Nat.reduceLT, Nat.reduceLeDiff, Nat.reduceEqDiff, Nat.reduceBEq, Int.reduceToNat, Int.reduceLT, Int.reduceLE, Int.reduceGT, Int.reduceGE, Int.reduceAdd, Int.reduceSub, Int.reduceMul, Int.reduceNeg, Int.reduceBEq, Int.reduceBNe, Int.reducePow, Int.reduceDiv, Int.reduceMod, Int.reduceTDiv, Int.reduceTMod, Int.reduceNatCast]
                repeat (with_reducible refine And.intro (by first | assumption | omega | (simp; done) | (simp; omega)) ?_)
                refine toEnd hC ?_
                refine endX_blk ?_
                refine endX_q (roundQ_normal ⟨m2, by omega, F13_S2 x2 x3 (IntKind.wrap .i64 (x7 + (1 : Int))), ?_, (IntKind.wrap .i64 (x7 + (1 : Int))), rfl, by omega, h⟩)
                simp only [F13_S2]
                (try simp -implicitDefEqProofs (maxSteps := 4000000) (disch := first | omega | decide | (simp only [go_sem]; omega)) only [go_sem, ↓reduceIte, String.reduceEq, String.reduceNe, reduceCtorEq, Int.reduceEq, Nat.reduceAdd, Nat.reduceSub, Nat.reduceMul, Nat.reduceLT, Nat.reduceLeDiff, Nat.reduceEqDiff, Nat.reduceBEq, Int.reduceToNat, Int.reduceLT, Int.reduceLE, Int.reduceGT, Int.reduceGE, Int.reduceAdd, Int.reduceSub, Int.reduceMul, Int.reduceNeg, Int.reduceBEq, Int.reduceBNe, Int.reducePow, Int.reduceDiv, Int.reduceMod, Int.reduceTDiv, Int.reduceTMod, Int.reduceNatCast])
                first | exact leS_refl _ | (refine leS_le ?_ ?_ <;> first | exact leL_refl _ | exact leOs_refl _ | (repeat (first | exact leL_refl _ | refine leL_cons (by first | exact leT_refl _ | exact leT_virt | exact leT_junk _ | exact leT_sl | exact leT_sln | exact leT_nil) ?_)))
              · refine runX_condF rfl c9 ?_
                refine runX_exit ?_
                refine endX_seqE ?_
                refine endX_q (roundQ_exit ?_)
                refine endX_blkE ?_
                refine endX_seq ?_
                refine runX_seq ?_
                refine runX_regionC fun C hC => ?_
                try simp -implicitDefEqProofs (maxSteps := 4000000) (disch := first | omega | decide | (simp only [go_sem]; omega)) only [go_sem, ↓reduceIte, String.reduceEq, String.reduceNe, reduceCtorEq, Int.reduceEq, Nat.reduceAdd, Nat.reduceSub, Nat.reduceMul, Nat.reduceLT, Nat.reduceLeDiff, Nat.reduceEqDiff, Nat.reduceBEq, Int.reduceToNat, Int.reduceLT, Int.reduceLE, Int.reduceGT, Int.reduceGE, Int.reduceAdd, Int.reduceSub, Int.reduceMul, Int.reduceNeg, Int.reduceBEq, Int.reduceBNe, Int.reducePow, Int.reduceDiv, Int.reduceMod, Int.reduceTDiv, Int.reduceTMod, Int.reduceNatCast]
                repeat (with_reducible refine And.intro (by first | assumption | omega | (simp; done) | (simp; omega)) ?_)
                refine buildW_of [.imm (.int .i64 x7), .imm (.int .i64 (1 : Int)), .imm (.int .i64 (0 : Int)), .imm (.int .i64 (IntKind.wrap .i64 (x3.tdiv (3600 : Int)))), .imm (.int .i64 (IntKind.wrap .i64 ((x3.tmod (3600 : Int)).tdiv (60 : Int)))), .imm (.int .i64 (x3.tmod (60 : Int)))] (by kernel_rfl) ?_
                try simp -implicitDefEqProofs (maxSteps := 4000000) (disch := first | omega | decide | (simp only [go_sem]; omega)) only [go_sem, ↓reduceIte, String.reduceEq, String.reduceNe, reduceCtorEq, Int.reduceEq, Nat.reduceAdd, Nat.reduceSub, Nat.reduceMul, Nat.reduceLT, Nat.reduceLeDiff, Nat.reduceEqDiff, Nat.reduceBEq, Int.reduceToNat, Int.reduceLT, Int.reduceLE, Int.reduceGT, Int.reduceGE, Int.reduceAdd, Int.reduceSub, Int.reduceMul, Int.reduceNeg, Int.reduceBEq, Int.reduceBNe, Int.reducePow, Int.reduceDiv, Int.reduceMod, Int.reduceTDiv, Int.reduceTMod, Int.reduceNatCast]
                repeat (with_reducible refine And.intro (by first | assumption | omega | (simp; done) | (simp; omega)) ?_)
                refine toEnd hC ?_
                refine endX_seq ?_
                refine runX_seq ?_
                refine runX_regionC fun C hC => ?_
                obtain ⟨v10, h10, h⟩ := bnd_some h
                try simp -implicitDefEqProofs (maxSteps := 4000000) (disch := first | omega | decide | (simp only [go_sem]; omega)) only [go_sem, ↓reduceIte, String.reduceEq, String.reduceNe, reduceCtorEq, Int.reduceEq, Nat.reduceAdd, Nat.reduceSub, Nat.reduceMul, Nat.reduceLT, Nat.reduceLeDiff, Nat.reduceEqDiff, Nat.reduceBEq, Int.reduceToNat, Int.reduceLT, Int.reduceLE, Int.reduceGT, Int.reduceGE, Int.reduceAdd, Int.reduceSub, Int.reduceMul, Int.reduceNeg, Int.reduceBEq, Int.reduceBNe, Int.reducePow, Int.reduceDiv, Int.reduceMod, Int.reduceTDiv, Int.reduceTMod, Int.reduceNatCast]
                repeat (with_reducible refine And.intro (by first | assumption | omega | (simp; done) | (simp; omega)) ?_)
                refine callG_X (F45_ok m2 x7 _ h10) (by repeat (first | exact leL_refl _ | refine leL_cons (by first | exact leT_refl _ | exact leT_virt | exact leT_junk _ | exact leT_sl | exact leT_sln | exact leT_nil) ?_)) ?_
                try simp -implicitDefEqProofs (maxSteps := 4000000) (disch := first | omega | decide | (simp only [go_sem]; omega)) only [go_sem, ↓reduceIte, String.reduceEq, String.reduceNe, reduceCtorEq, Int.reduceEq, Nat.reduceAdd, Nat.reduceSub, Nat.reduceMul, Nat.reduceLT, Nat.reduceLeDiff, Nat.reduceEqDiff, Nat.reduceBEq, Int.reduceToNat, Int.reduceLT, Int.reduceLE, Int.reduceGT, Int.reduceGE, Int.reduceAdd, Int.reduceSub, Int.reduceMul, Int.reduceNeg, Int.reduceBEq, Int.reduceBNe, Int.reducePow, Int.reduceDiv, Int.reduceMod, Int.reduceTDiv, Int.reduceTMod, Int.reduceNatCast]
                repeat (with_reducible refine And.intro (by first | assumption | omega | (simp; done) | (simp; omega)) ?_)
                refine toEnd hC ?_
                refine endX_seq ?_
                refine runX_seq ?_
                refine runX_block ?_
                refine runX_loop [2, 4, 6, 7] (fun m S => ∃ (x11 : Int) (x12 : Int) (x13 : Int) (x14 : Int) (x15 : Int) (x16 : Int) (x17 : Int), S = F13_S3 x7 x11 x12 x13 x14 x15 x16 x17 ∧ m ≤ m2 ∧ F13_L3 m x7 x11 x12 x13 x14 x15 x16 x17 = some r) m2 ⟨F13_S3 x7 (IntKind.wrap .i64 ((IntKind.wrap .i64 (x2 + (719162 : Int))) - v10)) x7 (1 : Int) (0 : Int) (IntKind.wrap .i64 (x3.tdiv (3600 : Int))) (IntKind.wrap .i64 ((x3.tmod (3600 : Int)).tdiv (60 : Int))) (x3.tmod (60 : Int)), ?_, (IntKind.wrap .i64 ((IntKind.wrap .i64 (x2 + (719162 : Int))) - v10)), x7, (1 : Int), (0 : Int), (IntKind.wrap .i64 (x3.tdiv (3600 : Int))), (IntKind.wrap .i64 ((x3.tmod (3600 : Int)).tdiv (60 : Int))), (x3.tmod (60 : Int)), rfl, Nat.le_refl _, h⟩ ?_
                · simp only [F13_S3]
                  (try simp -implicitDefEqProofs (maxSteps := 4000000) (disch := first | omega | decide | (simp only [go_sem]; omega)) only [go_sem, ↓reduceIte, String.reduceEq, String.reduceNe, reduceCtorEq, Int.reduceEq, Nat.reduceAdd, Nat.reduceSub, Nat.reduceMul, Nat.reduceLT, Nat.reduceLeDiff, Nat.reduceEqDiff, Nat.reduceBEq, Int.reduceToNat, Int.reduceLT, Int.reduceLE, Int.reduceGT, Int.reduceGE, Int.reduceAdd, Int.reduceSub, Int.reduceMul, Int.reduceNeg, Int.reduceBEq, Int.reduceBNe, Int.reducePow, Int.reduceDiv, Int.reduceMod, Int.reduceTDiv, Int.reduceTMod, Int.reduceNatCast])
                  first | exact leS_refl _ | (refine leS_le ?_ ?_ <;> first | exact leL_refl _ | exact leOs_refl _ | (repeat (first | exact leL_refl _ | refine leL_cons (by first | exact leT_refl _ | exact leT_virt | exact leT_junk _ | exact leT_sl | exact leT_sln | exact leT_nil) ?_)))
                · clear h
                  rintro m3 S ⟨x11, x12, x13, x14, x15, x16, x17, rfl, hm3, h⟩
                  cases m3 with
                  | zero => cases (show (none : Option _) = some _ from h)
                  | succ m3 =>
                    rw [F13_L3] at h
                    simp only [F13_S3]
                    refine runX_seq ?_
                    refine runX_seq ?_
                    refine runX_regionC fun C hC => ?_
                    obtain ⟨v18, h18, h⟩ := bnd_some h
                    try simp -implicitDefEqProofs (maxSteps := 4000000) (disch := first | omega | decide | (simp only [go_sem]; omega)) only [go_sem, ↓reduceIte, String.reduceEq, String.reduceNe, reduceCtorEq, Int.reduceEq, Nat.reduceAdd, Nat.reduceSub, Nat.reduceMul, Nat.reduceLT, Nat.reduceLeDiff, Nat.reduceEqDiff, Nat.reduceBEq, Int.reduceToNat, Int.reduceLT, Int.reduceLE, Int.reduceGT, Int.reduceGE, Int.reduceAdd, Int.reduceSub, Int.reduceMul, Int.reduceNeg, Int.reduceBEq, Int.reduceBNe, Int.reducePow, Int.reduceDiv, Int.reduceMod, Int.reduceTDiv, Int.reduceTMod, Int.reduceNatCast]
                    repeat (with_reducible refine And.intro (by first | assumption | omega | (simp; done) | (simp; omega)) ?_)
                    refine callG_X (F27_ok m3 x7 x13 _ h18) (by repeat (first | exact leL_refl _ | refine leL_cons (by first | exact leT_refl _ | exact leT_virt | exact leT_junk _ | exact leT_sl | exact leT_sln | exact leT_nil) ?_)) ?_
                    try simp -implicitDefEqProofs (maxSteps := 4000000) (disch := first | omega | decide | (simp only [go_sem]; omega)) only [go_sem, ↓reduceIte, String.reduceEq, String.reduceNe, reduceCtorEq, Int.reduceEq, Nat.reduceAdd, Nat.reduceSub, Nat.reduceMul, Nat.reduceLT, Nat.reduceLeDiff, Nat.reduceEqDiff, Nat.reduceBEq, Int.reduceToNat, Int.reduceLT, Int.reduceLE, Int.reduceGT, Int.reduceGE, Int.reduceAdd, Int.reduceSub, Int.reduceMul, Int.reduceNeg, Int.reduceBEq, Int.reduceBNe, Int.reducePow, Int.reduceDiv, Int.reduceMod, Int.reduceTDiv, Int.reduceTMod, Int.reduceNatCast]
                    repeat (with_reducible refine And.intro (by first | assumption | omega | (simp; done) | (simp; omega)) ?_)
                    refine toEnd hC ?_
                    refine endX_seq ?_
                    rcases iteB_some h with ⟨c19, h⟩ | ⟨c19, h⟩
                    · refine runX_condT rfl c19 ?_
                      refine runX_skip ?_
                      refine endX_seq ?_
                      refine runX_seq ?_
                      refine runX_block ?_
                      refine runX_regionC fun C hC => ?_
                      obtain ⟨v20, h20, h⟩ := bnd_some h
                      try simp -implicitDefEqProofs (maxSteps := 4000000) (disch := first | omega | decide | (simp only [go_sem]; omega)) only [go_sem, ↓reduceIte, String.reduceEq, String.reduceNe, reduceCtorEq, Int.reduceEq, Nat.reduceAdd, Nat.reduceSub, Nat.reduceMul, Nat.reduceLT, Nat.reduceLeDiff, Nat.reduceEqDiff, Nat.reduceBEq, Int.reduceToNat, Int.reduceLT, Int.reduceLE, Int.reduceGT, Int.reduceGE, Int.reduceAdd, Int.reduceSub, Int.reduceMul, Int.reduceNeg, Int.reduceBEq, Int.reduceBNe, Int.reducePow, Int.reduceDiv, Int.reduceMod, Int.reduceTDiv, Int.reduceTMod, Int.reduceNatCast]
                      repeat (with_reducible refine And.intro (by first | assumption | omega | (simp; done) | (simp; omega)) ?_)
                      refine callG_X (F27_ok m3 x7 x13 _ h20) (by repeat (first | exact leL_refl _ | refine leL_cons (by first | exact leT_refl _ | exact leT_virt | exact leT_junk _ | exact leT_sl | exact leT_sln | exact leT_nil) ?_)) ?_
                      try simp -implicitDefEqProofs (maxSteps := 4000000) (disch := first | omega | decide | (simp only [go_sem]; omega)) only [go_sem, ↓reduceIte, String.reduceEq, String.reduceNe, reduceCtorEq, Int.reduceEq, Nat.reduceAdd, Nat.reduceSub, Nat.reduceMul, Nat.reduceLT, Nat.reduceLeDiff, Nat.reduceEqDiff, Nat.reduceBEq, Int.reduceToNat, Int.reduceLT, Int.reduceLE, Int.reduceGT, Int.reduceGE, Int.reduceAdd, Int.reduceSub, Int.reduceMul, Int.reduceNeg, Int.reduceBEq, Int.reduceBNe, Int.reducePow, Int.reduceDiv, Int.reduceMod, Int.reduceTDiv, Int.reduceTMod, Int.reduceNatCast]
                      repeat (with_reducible refine And.intro (by first | assumption | omega | (simp; done) | (simp; omega)) ?_)
                      refine toEnd hC ?_
                      refine endX_blk ?_
                      refine endX_seq ?_
                      refine runX_regionC fun C hC => ?_
                      try simp -implicitDefEqProofs (maxSteps := 4000000) (disch := first | omega | decide | (simp only [go_sem]; omega)) only [go_sem, ↓reduceIte, String.reduceEq, String.reduceNe, reduceCtorEq, Int.reduceEq, Nat.reduceAdd, Nat.reduceSub, Nat.reduceMul, Nat.reduceLT, Nat.reduceLeDiff, Nat.reduceEqDiff, Nat.reduceBEq, Int.reduceToNat, Int.reduceLT, Int.reduceLE, Int.reduceGT, Int.reduceGE, Int.reduceAdd, Int.reduceSub, Int.reduceMul, Int.reduceNeg, Int.reduceBEq, Int.reduceBNe, Int.reducePow, Int.reduceDiv, Int.reduceMod, Int.reduceTDiv, Int.reduceTMod, Int.reduceNatCast]
                      repeat (with_reducible refine And.intro (by first | assumption | omega | (simp; done) | (simp; omega)) ?_)
                      refine toEnd hC ?_
                      refine endX_q (roundQ_normal ⟨m3, by omega, F13_S3 x7 (IntKind.wrap .i64 (x11 - v20)) x12 (IntKind.wrap .i64 (x13 + (1 : Int))) x14 x15 x16 x17, ?_, (IntKind.wrap .i64 (x11 - v20)), x12, (IntKind.wrap .i64 (x13 + (1 : Int))), x14, x15, x16, x17, rfl, by omega, h⟩)
                      simp only [F13_S3]
                      (try simp -implicitDefEqProofs (maxSteps := 4000000) (disch := first | omega | decide | (simp only [go_sem]; omega)) only [go_sem, ↓reduceIte, String.reduceEq, String.reduceNe, reduceCtorEq, Int.reduceEq, Nat.reduceAdd, Nat.reduceSub, Nat.reduceMul, Nat.reduceLT, Nat.reduceLeDiff, Nat.reduceEqDiff, Nat.reduceBEq, Int.reduceToNat, Int.reduceLT, Int.reduceLE, Int.reduceGT, Int.reduceGE, Int.reduceAdd, Int.reduceSub, Int.reduceMul, Int.reduceNeg, Int.reduceBEq, Int.reduceBNe, Int.reducePow, Int.reduceDiv, Int.reduceMod, Int.reduceTDiv, Int.reduceTMod, Int.reduceNatCast])
                      first | exact leS_refl _ | (refine leS_le ?_ ?_ <;> first | exact leL_refl _ | exact leOs_refl _ | (repeat (first | exact leL_refl _ | refine leL_cons (by first | exact leT_refl _ | exact leT_virt | exact leT_junk _ | exact leT_sl | exact leT_sln | exact leT_nil) ?_)))
                    · refine runX_condF rfl c19 ?_
                      refine runX_exit ?_
                      refine endX_seqE ?_
                      refine endX_q (roundQ_exit ?_)
                      refine endX_blkE ?_
                      refine endX_seq ?_
                      refine runX_seq ?_
                      refine runX_regionC fun C hC => ?_
                      try simp -implicitDefEqProofs (maxSteps := 4000000) (disch := first | omega | decide | (simp only [go_sem]; omega)) only [go_sem, ↓reduceIte, String.reduceEq, String.reduceNe, reduceCtorEq, Int.reduceEq, Nat.reduceAdd, Nat.reduceSub, Nat.reduceMul, Nat.reduceLT, Nat.reduceLeDiff, Nat.reduceEqDiff, Nat.reduceBEq, Int.reduceToNat, Int.reduceLT, Int.reduceLE, Int.reduceGT, Int.reduceGE, Int.reduceAdd, Int.reduceSub, Int.reduceMul, Int.reduceNeg, Int.reduceBEq, Int.reduceBNe, Int.reducePow, Int.reduceDiv, Int.reduceMod, Int.reduceTDiv, Int.reduceTMod, Int.reduceNatCast]
                      repeat (with_reducible refine And.intro (by first | assumption | omega | (simp; done) | (simp; omega)) ?_)
                      refine toEnd hC ?_
                      refine endX_seq ?_
                      refine runX_seq ?_
                      refine runX_regionC fun C hC => ?_
                      try simp -implicitDefEqProofs (maxSteps := 4000000) (disch := first | omega | decide | (simp only [go_sem]; omega)) only [go_sem, ↓reduceIte, String.reduceEq, String.reduceNe, reduceCtorEq, Int.reduceEq, Nat.reduceAdd, Nat.reduceSub, Nat.reduceMul, Nat.reduceLT, Nat.reduceLeDiff, Nat.reduceEqDiff, Nat.reduceBEq, Int.reduceToNat, Int.reduceLT, Int.reduceLE, Int.reduceGT, Int.reduceGE, Int.reduceAdd, Int.reduceSub, Int.reduceMul, Int.reduceNeg, Int.reduceBEq, Int.reduceBNe, Int.reducePow, Int.reduceDiv, Int.reduceMod, Int.reduceTDiv, Int.reduceTMod, Int.reduceNatCast]
                      repeat (with_reducible refine And.intro (by first | assumption | omega | (simp; done) | (simp; omega)) ?_)
                      refine toEnd hC ?_
                      refine endX_seq ?_
                      refine runX_ret ?_
                      refine endX_q ?_
                      obtain rfl := Option.some.inj h
                      show RetW _ _ _ _ _
                      simp only [RetW]
                      (try simp -implicitDefEqProofs (maxSteps := 4000000) (disch := first | omega | decide | (simp only [go_sem]; omega)) only [go_sem, ↓reduceIte, String.reduceEq, String.reduceNe, reduceCtorEq, Int.reduceEq, Nat.reduceAdd, Nat.reduceSub, Nat.reduceMul, Nat.reduceLT, Nat.reduceLeDiff, Nat.reduceEqDiff, Nat.reduceBEq, Int.reduceToNat, Int.reduceLT, Int.reduceLE, Int.reduceGT, Int.reduceGE, Int.reduceAdd, Int.reduceSub, Int.reduceMul, Int.reduceNeg, Int.reduceBEq, Int.reduceBNe, Int.reducePow, Int.reduceDiv, Int.reduceMod, Int.reduceTDiv, Int.reduceTMod, Int.reduceNatCast])
                      first | exact leT_refl _ | (refine ⟨rfl, ?_⟩; first | exact leT_refl _ | exact leT_sl | exact leT_sln | exact leT_nil | (refine leT_tup (by repeat (first | exact leL_refl _ | refine leL_cons (by first | exact leT_refl _ | exact leT_virt | exact leT_junk _ | exact leT_sl | exact leT_sln | exact leT_nil) ?_))) | (refine leT_agg (by repeat (first | exact leL_refl _ | refine leL_cons (by first | exact leT_refl _ | exact leT_virt | exact leT_junk _ | exact leT_sl | exact leT_sln | exact leT_nil) ?_)))) | (first | exact leT_refl _ | exact leT_sl | exact leT_sln | exact leT_nil | (refine leT_tup (by repeat (first | exact leL_refl _ | refine leL_cons (by first | exact leT_refl _ | exact leT_virt | exact leT_junk _ | exact leT_sl | exact leT_sln | exact leT_nil) ?_))) | (refine leT_agg (by repeat (first | exact leL_refl _ | refine leL_cons (by first | exact leT_refl _ | exact leT_virt | exact leT_junk _ | exact leT_sl | exact leT_sln | exact leT_nil) ?_))))
end Go.Proofs.YtdfghdppbfabfaaX

set_option linter.unusedVariables false
set_option linter.unusedSimpArgs false
namespace Go.Proofs.YtdfghdppbfabfaaX
open Go Go.RowKit Go.Proofs
set_option maxRecDepth 100000
/-! ### clock.Seconds -/
def F18 (n : Nat) (a0 : (Int) × (Int) × (Int) × (Int) × (Int) × (Int)) : Option ((Int) × (Bool)) := (F46 n (a0.1, a0.2.1, a0.2.2.1, a0.2.2.2.1, a0.2.2.2.2.1, a0.2.2.2.2.2)).bind fun v1 => iteB (!v1) (some ((0 : Int), false)) ((F47 n (a0.1, a0.2.1, a0.2.2.1, a0.2.2.2.1, a0.2.2.2.2.1, a0.2.2.2.2.2)).bind fun v3 => some ((IntKind.wrap .i64 ((IntKind.wrap .i64 ((IntKind.wrap .i64 ((IntKind.wrap .i64 ((IntKind.wrap .i64 (v3 - (719162 : Int))) * (86400 : Int))) + (IntKind.wrap .i64 (a0.2.2.2.1 * (3600 : Int))))) + (IntKind.wrap .i64 (a0.2.2.2.2.1 * (60 : Int))))) + a0.2.2.2.2.2)), true))
set_option maxHeartbeats 4000000 in
theorem F18_ok : ∀ (n : Nat) (a0 : (Int) × (Int) × (Int) × (Int) × (Int) × (Int)) (r : (Int) × (Bool)), F18 n a0 = some r → FnC Try.prog 18 [.agg [.imm (.int .i64 a0.1), .imm (.int .i64 a0.2.1), .imm (.int .i64 a0.2.2.1), .imm (.int .i64 a0.2.2.2.1), .imm (.int .i64 a0.2.2.2.2.1), .imm (.int .i64 a0.2.2.2.2.2)]] (.tup [.imm (.int .i64 r.1), .imm (.bool r.2)])
  | n, a0, r, h => by
    unfold F18 at h
    refine FnC.goX mixed Try.func18 (by kernel_rfl) rfl ?_
    simp only [Try.ntmps18, List.length_cons, List.length_nil, List.replicate, List.cons_append, List.nil_append, Nat.reduceAdd, Nat.reduceSub]
    refine runX_seq ?_
    refine runX_regionC fun C hC => ?_
    try simp -implicitDefEqProofs (maxSteps := 4000000) (disch := first | omega | decide | (simp only [go_sem]; omega)) only [go_sem, ↓reduceIte, String.reduceEq, String.reduceNe, reduceCtorEq, Int.reduceEq, Nat.reduceAdd, Nat.reduceSub, Nat.reduceMul, Nat.reduceLT, Nat.reduceLeDiff, Nat.reduceEqDiff, Nat.reduceBEq, Int.reduceToNat, Int.reduceLT, Int.reduceLE, Int.reduceGT, Int.reduceGE, Int.reduceAdd, Int.reduceSub, Int.reduceMul, Int.reduceNeg, Int.reduceBEq, Int.reduceBNe, Int.reducePow, Int.reduceDiv, Int.reduceMod, Int.reduceTDiv, Int.reduceTMod, Int.reduceNatCast]
    repeat (with_reducible refine And.intro (by first | assumption | omega | (simp; done) | (simp; omega)) ?_)
    refine toEnd hC ?_
    refine endX_seq ?_
    refine runX_seq ?_
    refine runX_seq ?_
    refine runX_regionC fun C hC => ?_
    obtain ⟨v1, h1, h⟩ := bnd_some h
    try simp -implicitDefEqProofs (maxSteps := 4000000) (disch := first | omega | decide | (simp only [go_sem]; omega)) only [go_sem, ↓reduceIte, String.reduceEq, String.reduceNe, reduceCtorEq, Int.reduceEq, Nat.reduceAdd, Nat.reduceSub, Nat.reduceMul, Nat.reduceLT, Nat.reduceLeDiff, Nat.reduceEqDiff, Nat.reduceBEq, Int.reduceToNat, Int.reduceLT, Int.reduceLE, Int.reduceGT, Int.reduceGE, Int.reduceAdd, Int.reduceSub, Int.reduceMul, Int.reduceNeg, Int.reduceBEq, Int.reduceBNe, Int.reducePow, Int.reduceDiv, Int.reduceMod, Int.reduceTDiv, Int.reduceTMod, Int.reduceNatCast]
    repeat (with_reducible refine And.intro (by first | assumption | omega | (simp; done) | (simp; omega)) ?_)
    refine callG_X (F46_ok n (a0.1, a0.2.1, a0.2.2.1, a0.2.2.2.1, a0.2.2.2.2.1, a0.2.2.2.2.2) _ h1) (by repeat (first | exact leL_refl _ | refine leL_cons (by first | exact leT_refl _ | exact leT_virt | exact leT_junk _ | exact leT_sl | exact leT_sln | exact leT_nil) ?_)) ?_
    try simp -implicitDefEqProofs (maxSteps := 4000000) (disch := first | omega | decide | (simp only [go_sem]; omega)) only [go_sem, ↓reduceIte, String.reduceEq, String.reduceNe, reduceCtorEq, Int.reduceEq, Nat.reduceAdd, Nat.reduceSub, Nat.reduceMul, Nat.reduceLT, Nat.reduceLeDiff, Nat.reduceEqDiff, Nat.reduceBEq, Int.reduceToNat, Int.reduceLT, Int.reduceLE, Int.reduceGT, Int.reduceGE, Int.reduceAdd, Int.reduceSub, Int.reduceMul, Int.reduceNeg, Int.reduceBEq, Int.reduceBNe, Int.reducePow, Int.reduceDiv, Int.reduceMod, Int.reduceTDiv, Int.reduceTMod, Int.reduceNatCast]
    repeat (with_reducible refine And.intro (by first | assumption | omega | (simp; done) | (simp; omega)) ?_)
    refine toEnd hC ?_
    refine endX_seq ?_
    rcases iteB_some h with ⟨c2, h⟩ | ⟨c2, h⟩
    · refine runX_condT rfl c2 ?_
      refine runX_seq ?_
      refine runX_regionC fun C hC => ?_
      try simp -implicitDefEqProofs (maxSteps := 4000000) (disch := first | omega | decide | (simp only [go_sem]; omega)) only [go_sem, ↓reduceIte, String.reduceEq, String.reduceNe, reduceCtorEq, Int.reduceEq, Nat.reduceAdd, Nat.reduceSub, Nat.reduceMul, Nat.reduceLT, Nat.reduceLeDiff, Nat.reduceEqDiff, Nat.reduceBEq, Int.reduceToNat, Int.reduceLT, Int.reduceLE, Int.reduceGT, Int.reduceGE, Int.reduceAdd, Int.reduceSub, Int.reduceMul, Int.reduceNeg, Int.reduceBEq, Int.reduceBNe, Int.reducePow, Int.reduceDiv, Int.reduceMod, Int.reduceTDiv, Int.reduceTMod, Int.reduceNatCast]
      repeat (with_reducible refine And.intro (by first | assumption | omega | (simp; done) | (simp; omega)) ?_)
      refine toEnd hC ?_
      refine endX_seq ?_
      refine runX_ret ?_
      refine endX_seqR ?_
      refine endX_q ?_
      obtain rfl := Option.some.inj h
      show RetW _ _ _ _ _
      simp only [RetW]
      (try simp -implicitDefEqProofs (maxSteps := 4000000) (disch := first | omega | decide | (simp only [go_sem]; omega)) only [go_sem, ↓reduceIte, String.reduceEq, String.reduceNe, reduceCtorEq, Int.reduceEq, Nat.reduceAdd, Nat.reduceSub, Nat.reduceMul, Nat.reduceLT, Nat.reduceLeDiff, Nat.reduceEqDiff, Nat.reduceBEq, Int.reduceToNat, Int.reduceLT, Int.reduceLE, Int.reduceGT, Int.reduceGE, Int.reduceAdd, Int.reduceSub, Int.reduceMul, Int.reduceNeg, Int.reduceBEq, Int.reduceBNe, Int.reducePow, Int.reduceDiv, Int.reduceMod, Int.reduceTDiv, Int.reduceTMod, Int.reduceNatCast])
      first | exact leT_refl _ | (refine ⟨rfl, ?_⟩; first | exact leT_refl _ | exact leT_sl | exact leT_sln | exact leT_nil | (refine leT_tup (by repeat (first | exact leL_refl _ | refine leL_cons (by first | exact leT_refl _ | exact leT_virt | exact leT_junk _ | exact leT_sl | exact leT_sln | exact leT_nil) ?_))) | (refine leT_agg (by repeat (first | exact leL_refl _ | refine leL_cons (by first | exact leT_refl _ | exact leT_virt | exact leT_junk _ | exact leT_sl | exact leT_sln | exact leT_nil) ?_)))) | (first | exact leT_refl _ | exact leT_sl | exact leT_sln | exact leT_nil | (refine leT_tup (by repeat (first | exact leL_refl _ | refine leL_cons (by first | exact leT_refl _ | exact leT_virt | exact leT_junk _ | exact leT_sl | exact leT_sln | exact leT_nil) ?_))) | (refine leT_agg (by repeat (first | exact leL_refl _ | refine leL_cons (by first | exact leT_refl _ | exact leT_virt | exact leT_junk _ | exact leT_sl | exact leT_sln | exact leT_nil) ?_))))
    · refine runX_condF rfl c2 ?_
      refine runX_skip ?_
      refine endX_seq ?_
      refine runX_seq ?_
      refine runX_drawC mixed (by kernel_rfl) fun C hC => ?_
      obtain ⟨v3, h3, h⟩ := bnd_some h
      try simp -implicitDefEqProofs (maxSteps := 4000000) (disch := first | omega | decide | (simp only [go_sem]; omega)) only [go_sem, ↓reduceIte, String.reduceEq, String.reduceNe, reduceCtorEq, Int.reduceEq, Nat.reduceAdd, Nat.reduceSub, Nat.reduceMul, Nat.reduceLT, Nat.reduceLeDiff, Nat.reduceEqDiff, Nat.reduceBEq, Int.reduceToNat, Int.reduceLT, Int.reduceLE, Int.reduceGT, Int.reduceGE, Int.reduceAdd, Int.reduceSub, Int.reduceMul, Int.reduceNeg, Int.reduceBEq, Int.reduceBNe, Int.reducePow, Int.reduceDiv, Int.reduceMod, Int.reduceTDiv, Int.reduceTMod, Int.reduceNatCast]
      repeat (with_reducible refine And.intro (by first | assumption | omega | (simp; done) | (simp; omega)) ?_)
      refine callD_X (F47_ok n (a0.1, a0.2.1, a0.2.2.1, a0.2.2.2.1, a0.2.2.2.2.1, a0.2.2.2.2.2) _ h3) (by repeat (first | exact leL_refl _ | refine leL_cons (by first | exact leT_refl _ | exact leT_virt | exact leT_junk _ | exact leT_sl | exact leT_sln | exact leT_nil) ?_)) ?_
      try simp -implicitDefEqProofs (maxSteps := 4000000) (disch := first | omega | decide | (simp only [go_sem]; omega)) only [go_sem, ↓reduceIte, String.reduceEq, String.reduceNe, reduceCtorEq, Int.reduceEq, Nat.reduceAdd, Nat.reduceSub, Nat.reduceMul, Nat.reduceLT, Nat.reduceLeDiff, Nat.reduceEqDiff, Nat.reduceBEq, Int.reduceToNat, Int.reduceLT, Int.reduceLE, Int.reduceGT, Int.reduceGE, Int.reduceAdd, Int.reduceSub, Int.reduceMul, Int.reduceNeg, Int.reduceBEq, Int.reduceBNe, Int.reducePow, Int.reduceDiv, Int.reduceMod, Int.reduceTDiv, Int.reduceTMod, Int.reduceNatCast]
      repeat (with_reducible refine And.intro (by first | assumption | omega | (simp; done) | (simp; omega)) ?_)
      refine toEnd hC ?_
      refine endX_seq ?_
      refine runX_ret ?_
      refine endX_q ?_
      obtain rfl := Option.some.inj h
      show RetW _ _ _ _ _
      simp only [RetW]
      (try simp -implicitDefEqProofs (maxSteps := 4000000) (disch := first | omega | decide | (simp only [go_sem]; omega)) only [go_sem, ↓reduceIte, String.reduceEq, String.reduceNe, reduceCtorEq, Int.reduceEq, Nat.reduceAdd, Nat.reduceSub, Nat.reduceMul, Nat.reduceLT, Nat.reduceLeDiff, Nat.reduceEqDiff, Nat.reduceBEq, Int.reduceToNat, Int.reduceLT, Int.reduceLE, Int.reduceGT, Int.reduceGE, Int.reduceAdd, Int.reduceSub, Int.reduceMul, Int.reduceNeg, Int.reduceBEq, Int.reduceBNe, Int.reducePow, Int.reduceDiv, Int.reduceMod, Int.reduceTDiv, Int.reduceTMod, Int.reduceNatCast])
      first | exact leT_refl _ | (refine ⟨rfl, ?_⟩; first | exact leT_refl _ | exact leT_sl | exact leT_sln | exact leT_nil | (refine leT_tup (by repeat (first | exact leL_refl _ | refine leL_cons (by first | exact leT_refl _ | exact leT_virt | exact leT_junk _ | exact leT_sl | exact leT_sln | exact leT_nil) ?_))) | (refine leT_agg (by repeat (first | exact leL_refl _ | refine leL_cons (by first | exact leT_refl _ | exact leT_virt | exact leT_junk _ | exact leT_sl | exact leT_sln | exact leT_nil) ?_)))) | (first | exact leT_refl _ | exact leT_sl | exact leT_sln | exact leT_nil | (refine leT_tup (by repeat (first | exact leL_refl _ | refine leL_cons (by first | exact leT_refl _ | exact leT_virt | exact leT_junk _ | exact leT_sl | exact leT_sln | exact leT_nil) ?_))) | (refine leT_agg (by repeat (first | exact leL_refl _ | refine leL_cons (by first | exact leT_refl _ | exact leT_virt | exact leT_junk _ | exact leT_sl | exact leT_sln | exact leT_nil) ?_))))
end Go.Proofs.YtdfghdppbfabfaaX

set_option linter.unusedVariables false
set_option linter.unusedSimpArgs false
namespace Go.Proofs.YtdfghdppbfabfaaX
open Go Go.RowKit Go.Proofs
set_option maxRecDepth 100000
/-! ### shadowboxref15.Of -/
def F17_S4 (x25 : Int) (x26 : Int) (x27 : Int) (x28 : Int) (x29 : Int) (x30 : Int) (x31 : Int) : St := ⟨[.junk, .junk, .ref 0 0 0 0, .junk, .imm (.int .i64 x25), .junk, .ref 1 0 0 0, .junk, .junk, .junk, .junk, .junk, .junk, .junk, .junk, .junk, .junk, .junk, .junk, .junk, .junk, .junk, .junk, .junk, .junk, .junk, .junk, .junk, .junk, .junk, .junk, .junk, .junk, .junk, .junk, .junk, .junk, .junk, .junk, .junk, .junk, .junk, .junk, .junk, .junk, .junk, .junk, .junk, .junk, .junk, .junk, .junk, .junk, .junk, .junk, .junk, .junk, .junk, .junk, .junk, .junk, .junk, .junk, .junk, .junk, .junk, .junk, .junk, .junk, .junk, .junk, .junk, .junk, .junk, .junk, .junk, .junk, .junk, .junk], [some (.box 34 (.agg [.imm (.int .i64 (0 : Int)), .imm (.int .i64 (0 : Int)), .imm (.int .i64 (0 : Int)), .imm (.int .i64 (0 : Int)), .imm (.int .i64 (0 : Int)), .imm (.int .i64 (0 : Int))]) false), some (.box 34 (.agg [.imm (.int .i64 x26), .imm (.int .i64 x27), .imm (.int .i64 x28), .imm (.int .i64 x29), .imm (.int .i64 x30), .imm (.int .i64 x31)]) false)]⟩
def F17_S3 (x15 : Int) (x16 : Int) (x17 : Int) (x18 : Int) (x19 : Int) (x20 : Int) (x21 : Int) : St := ⟨[.junk, .junk, .ref 0 0 0 0, .junk, .imm (.int .i64 x15), .junk, .ref 1 0 0 0, .junk, .junk, .junk, .junk, .junk, .junk, .junk, .junk, .junk, .junk, .junk, .junk, .junk, .junk, .junk, .junk, .junk, .junk, .junk, .junk, .junk, .junk, .junk, .junk, .junk, .junk, .junk, .junk, .junk, .junk, .junk, .junk, .junk, .junk, .junk, .junk, .junk, .junk, .junk, .junk, .junk, .junk, .junk, .junk, .junk, .junk, .junk, .junk, .junk, .junk, .junk, .junk, .junk, .junk, .junk, .junk, .junk, .junk, .junk, .junk, .junk, .junk, .junk, .junk, .junk, .junk, .junk, .junk, .junk, .junk, .junk, .junk], [some (.box 34 (.agg [.imm (.int .i64 (0 : Int)), .imm (.int .i64 (0 : Int)), .imm (.int .i64 (0 : Int)), .imm (.int .i64 (0 : Int)), .imm (.int .i64 (0 : Int)), .imm (.int .i64 (0 : Int))]) false), some (.box 34 (.agg [.imm (.int .i64 x16), .imm (.int .i64 x17), .imm (.int .i64 x18), .imm (.int .i64 x19), .imm (.int .i64 x20), .imm (.int .i64 x21)]) false)]⟩
def F17_S2 (x6 : Int) (x7 : Int) (x8 : Int) (x9 : Int) (x10 : Int) (x11 : Int) (x12 : Int) : St := ⟨[.junk, .junk, .ref 0 0 0 0, .junk, .imm (.int .i64 x6), .junk, .ref 1 0 0 0, .junk, .junk, .junk, .junk, .junk, .junk, .junk, .junk, .junk, .junk, .junk, .junk, .junk, .junk, .junk, .junk, .junk, .junk, .junk, .junk, .junk, .junk, .junk, .junk, .junk, .junk, .junk, .junk, .junk, .junk, .junk, .junk, .junk, .junk, .junk, .junk, .junk, .junk, .junk, .junk, .junk, .junk, .junk, .junk, .junk, .junk, .junk, .junk, .junk, .junk, .junk, .junk, .junk, .junk, .junk, .junk, .junk, .junk, .junk, .junk, .junk, .junk, .junk, .junk, .junk, .junk, .junk, .junk, .junk, .junk, .junk, .junk], [some (.box 34 (.agg [.imm (.int .i64 (0 : Int)), .imm (.int .i64 (0 : Int)), .imm (.int .i64 (0 : Int)), .imm (.int .i64 (0 : Int)), .imm (.int .i64 (0 : Int)), .imm (.int .i64 (0 : Int))]) false), some (.box 34 (.agg [.imm (.int .i64 x7), .imm (.int .i64 x8), .imm (.int .i64 x9), .imm (.int .i64 x10), .imm (.int .i64 x11), .imm (.int .i64 x12)]) false)]⟩
def F17_S1 (x4 : Int) (x5 : Int) : St := ⟨[.junk, .junk, .ref 0 0 0 0, .junk, .imm (.int .i64 x4), .imm (.int .i64 x5), .junk, .junk, .junk, .junk, .junk, .junk, .junk, .junk, .junk, .junk, .junk, .junk, .junk, .junk, .junk, .junk, .junk, .junk, .junk, .junk, .junk, .junk, .junk, .junk, .junk, .junk, .junk, .junk, .junk, .junk, .junk, .junk, .junk, .junk, .junk, .junk, .junk, .junk, .junk, .junk, .junk, .junk, .junk, .junk, .junk, .junk, .junk, .junk, .junk, .junk, .junk, .junk, .junk, .junk, .junk, .junk, .junk, .junk, .junk, .junk, .junk, .junk, .junk, .junk, .junk, .junk, .junk, .junk, .junk, .junk, .junk, .junk, .junk], [some (.box 34 (.agg [.imm (.int .i64 (0 : Int)), .imm (.int .i64 (0 : Int)), .imm (.int .i64 (0 : Int)), .imm (.int .i64 (0 : Int)), .imm (.int .i64 (0 : Int)), .imm (.int .i64 (0 : Int))]) false)]⟩
mutual
def F17_L4 : Nat → (Int) → (Int) → (Int) → (Int) → (Int) → (Int) → (Int) → Option (((Int) × (Int) × (Int) × (Int) × (Int) × (Int)) × (Bool))
  | 0, _, _, _, _, _, _, _ => none
  | m4 + 1, x25, x26, x27, x28, x29, x30, x31 => (F28 m4 x26 x27).bind fun v32 => iteB (decide (v32 ≤ x25)) ((F28 m4 x26 x27).bind fun v34 => F17_L4 m4 (IntKind.wrap .i64 (x25 - v34)) x26 (IntKind.wrap .i64 (x27 + (1 : Int))) x28 x29 x30 x31) (some ((x26, x27, (IntKind.wrap .i64 (x25 + (1 : Int))), x29, x30, x31), true))
def F17_L3 : Nat → (Int) → (Int) → (Int) → (Int) → (Int) → (Int) → (Int) → Option (((Int) × (Int) × (Int) × (Int) × (Int) × (Int)) × (Bool))
  | 0, _, _, _, _, _, _, _ => none
  | m3 + 1, x15, x16, x17, x18, x19, x20, x21 => (F51 m3 x16).bind fun v22 => iteB (decide (v22 ≤ x15)) ((F51 m3 x16).bind fun v24 => F17_L3 m3 (IntKind.wrap .i64 (x15 - v24)) (IntKind.wrap .i64 (x16 + (1 : Int))) x17 x18 x19 x20 x21) (F17_L4 m3 x15 x16 x17 x18 x19 x20 x21)
def F17_L2 : Nat → (Int) → (Int) → (Int) → (Int) → (Int) → (Int) → (Int) → Option (((Int) × (Int) × (Int) × (Int) × (Int) × (Int)) × (Bool))
  | 0, _, _, _, _, _, _, _ => none
  | m2 + 1, x6, x7, x8, x9, x10, x11, x12 => iteB (decide (x6 < (0 : Int))) ((F51 m2 (IntKind.wrap .i64 (x7 - (1 : Int)))).bind fun v14 => F17_L2 m2 (IntKind.wrap .i64 (x6 + v14)) (IntKind.wrap .i64 (x7 - (1 : Int))) x8 x9 x10 x11 x12) (F17_L3 m2 x6 x7 x8 x9 x10 x11 x12)
def F17_J1 (n : Nat) (x4 : Int) (x5 : Int) : Option (((Int) × (Int) × (Int) × (Int) × (Int) × (Int)) × (Bool)) := F17_L2 n x4 (1970 : Int) (1 : Int) (1 : Int) (IntKind.wrap .i64 (x5.tdiv (3600 : Int))) ((IntKind.wrap .i64 (x5.tdiv (60 : Int))).tmod (60 : Int)) (x5.tmod (60 : Int))
end
def F17 (n : Nat) (a0 : Int) : Option (((Int) × (Int) × (Int) × (Int) × (Int) × (Int)) × (Bool)) := iteB (decide (a0 < (-62135596800 : Int))) (some (((0 : Int), (0 : Int), (0 : Int), (0 : Int), (0 : Int), (0 : Int)), false)) (iteB (decide ((253402300799 : Int) < a0)) (some (((0 : Int), (0 : Int), (0 : Int), (0 : Int), (0 : Int), (0 : Int)), false)) (iteB (decide ((a0.tmod (86400 : Int)) < (0 : Int))) (F17_J1 n (IntKind.wrap .i64 ((IntKind.wrap .i64 (a0.tdiv (86400 : Int))) - (1 : Int))) (IntKind.wrap .i64 ((a0.tmod (86400 : Int)) + (86400 : Int)))) (F17_J1 n (IntKind.wrap .i64 (a0.tdiv (86400 : Int))) (a0.tmod (86400 : Int)))))
set_option maxHeartbeats 4000000 in
theorem F17_ok : ∀ (n : Nat) (a0 : Int) (r : ((Int) × (Int) × (Int) × (Int) × (Int) × (Int)) × (Bool)), F17 n a0 = some r → FnC Try.prog 17 [.imm (.int .i64 a0)] (.tup [.agg [.imm (.int .i64 r.1.1), .imm (.int .i64 r.1.2.1), .imm (.int .i64 r.1.2.2.1), .imm (.int .i64 r.1.2.2.2.1), .imm (.int .i64 r.1.2.2.2.2.1), .imm (.int .i64 r.1.2.2.2.2.2)], .imm (.bool r.2)])
  | n, a0, r, h => by
    unfold F17 at h
    refine FnC.goX mixed Try.func17 (by kernel_rfl) rfl ?_
    simp only [Try.ntmps17, List.length_cons, List.length_nil, List.replicate, List.cons_append, List.nil_append, Nat.reduceAdd, Nat.reduceSub]
    refine runX_seq ?_
    refine runX_regionC fun C hC => ?_
    try simp -implicitDefEqProofs (maxSteps := 4000000) (disch := first | omega | decide | (simp only [go_sem]; omega)) only [go_sem, ↓reduceIte, String.reduceEq, String.reduceNe, reduceCtorEq, Int.reduceEq, Nat.reduceAdd, Nat.reduceSub, Nat.reduceMul, Nat.reduceLT, Nat.reduceLeDiff, Nat.reduceEqDiff, Nat.reduceBEq, Int.reduceToNat, Int.reduceLT, Int.reduceLE, Int.reduceGT, Int.reduceGE, Int.reduceAdd, Int.reduceSub, Int.reduceMul, Int.reduceNeg, Int.reduceBEq, Int.reduceBNe, Int.reducePow, Int.reduceDiv, Int.reduceMod, Int.reduceTDiv, Int.reduceTMod, Int.reduceNatCast]
    repeat (with_reducible refine And.intro (by first | assumption | omega | (simp; done) | (simp; omega)) ?_)
    refine toEnd hC ?_
    refine endX_seq ?_
    refine runX_seq ?_
    refine runX_seq ?_
    refine runX_regionC fun C hC => ?_
    try simp -implicitDefEqProofs (maxSteps := 4000000) (disch := first | omega | decide | (simp only [go_sem]; omega)) only [go_sem, ↓reduceIte, String.reduceEq, String.reduceNe, reduceCtorEq, Int.reduceEq, Nat.reduceAdd, Nat.reduceSub, Nat.reduceMul, Nat.reduceLT, Nat.reduceLeDiff, Nat.reduceEqDiff, Nat.reduceBEq, Int.reduceToNat, Int.reduceLT, Int.reduceLE, Int.reduceGT, Int.reduceGE, Int.reduceAdd, Int.reduceSub, Int.reduceMul, Int.reduceNeg, Int.reduceBEq, Int.reduceBNe, Int.reducePow, Int.reduceDiv, Int.reduceMod, Int.reduceTDiv, Int.reduceTMod, Int.reduceNatCast]
    repeat (with_reducible refine And.intro (by first | assumption | omega | (simp; done) | (simp; omega)) ?_)
    rcases iteB_some h with ⟨c1, h⟩ | ⟨c1, h⟩
    · refine guardK_F c1 ?_
      try simp -implicitDefEqProofs (maxSteps := 4000000) (disch := first | omega | decide | (simp only [go_sem]; omega)) only [go_sem, ↓reduceIte, String.reduceEq, String.reduceNe, reduceCtorEq, Int.reduceEq, Nat.reduceAdd, Nat.reduceSub, Nat.reduceMul, Nat.reduceLT, Nat.reduceLeDiff, Nat.reduceEqDiff, Nat.reduceBEq, Int.reduceToNat, Int.reduceLT, Int.reduceLE, Int.reduceGT, Int.reduceGE, Int.reduceAdd, Int.reduceSub, Int.reduceMul, Int.reduceNeg, Int.reduceBEq, Int.reduceBNe, Int.reducePow, Int.reduceDiv, Int.reduceMod, Int.reduceTDiv, Int.reduceTMod, Int.reduceNatCast]
      repeat (with_reducible refine And.intro (by first | assumption | omega | (simp; done) | (simp; omega)) ?_)
      refine toEnd hC ?_
      refine endX_seq ?_
      refine runX_condT rfl rfl ?_
      refine runX_seq ?_
      refine runX_regionC fun C hC => ?_
      try simp -implicitDefEqProofs (maxSteps := 4000000) (disch := first | omega | decide | (simp only [go_sem]; omega)) only [go_sem, ↓reduceIte, String.reduceEq, String.reduceNe, reduceCtorEq, Int.reduceEq, Nat.reduceAdd, Nat.reduceSub, Nat.reduceMul, Nat.reduceLT, Nat.reduceLeDiff, Nat.reduceEqDiff, Nat.reduceBEq, Int.reduceToNat, Int.reduceLT, Int.reduceLE, Int.reduceGT, Int.reduceGE, Int.reduceAdd, Int.reduceSub, Int.reduceMul, Int.reduceNeg, Int.reduceBEq, Int.reduceBNe, Int.reducePow, Int.reduceDiv, Int.reduceMod, Int.reduceTDiv, Int.reduceTMod, Int.reduceNatCast]
      repeat (with_reducible refine And.intro (by first | assumption | omega | (simp; done) | (simp; omega)) ?_)
      refine buildW_of [.imm (.int .i64 (0 : Int)), .imm (.int .i64 (0 : Int)), .imm (.int .i64 (0 : Int)), .imm (.int .i64 (0 : Int)), .imm (.int .i64 (0 : Int)), .imm (.int .i64 (0 : Int))] (by kernel_rfl) ?_
      try simp -implicitDefEqProofs (maxSteps := 4000000) (disch := first | omega | decide | (simp only [go_sem]; omega)) only [go_sem, ↓reduceIte, String.reduceEq, String.reduceNe, reduceCtorEq, Int.reduceEq, Nat.reduceAdd, Nat.reduceSub, Nat.reduceMul, Nat.reduceLT, Nat.reduceLeDiff, Nat.reduceEqDiff, Nat.reduceBEq, Int.reduceToNat, Int.reduceLT, Int.reduceLE, Int.reduceGT, Int.reduceGE, Int.reduceAdd, Int.reduceSub, Int.reduceMul, Int.reduceNeg, Int.reduceBEq, Int.reduceBNe, Int.reducePow, Int.reduceDiv, Int.reduceMod, Int.reduceTDiv, Int.reduceTMod, Int.reduceNatCast]
      repeat (with_reducible refine And.intro (by first | assumption | omega | (simp; done) | (simp; omega)) ?_)
      refine toEnd hC ?_
      refine endX_seq ?_
      refine runX_ret ?_
      refine endX_seqR ?_
      refine endX_q ?_
      obtain rfl := Option.some.inj h
      show RetW _ _ _ _ _
      simp only [RetW]
      (try simp -implicitDefEqProofs (maxSteps := 4000000) (disch := first | omega | decide | (simp only [go_sem]; omega)) only [go_sem, ↓reduceIte, String.reduceEq, String.reduceNe, reduceCtorEq, Int.reduceEq, Nat.reduceAdd, Nat.reduceSub, Nat.reduceMul, Nat.reduceLT, Nat.reduceLeDiff, Nat.reduceEqDiff, Nat.reduceBEq, Int.reduceToNat, Int.reduceLT, Int.reduceLE, Int.reduceGT, Int.reduceGE, Int.reduceAdd, Int.reduceSub, Int.reduceMul, Int.reduceNeg, Int.reduceBEq, Int.reduceBNe, Int.reducePow, Int.reduceDiv, Int.reduceMod, Int.reduceTDiv, Int.reduceTMod, Int.reduceNatCast])
      first | exact leT_refl _ | (refine ⟨rfl, ?_⟩; first | exact leT_refl _ | exact leT_sl | exact leT_sln | exact leT_nil | (refine leT_tup (by repeat (first | exact leL_refl _ | refine leL_cons (by first | exact leT_refl _ | exact leT_virt | exact leT_junk _ | exact leT_sl | exact leT_sln | exact leT_nil) ?_))) | (refine leT_agg (by repeat (first | exact leL_refl _ | refine leL_cons (by first | exact leT_refl _ | exact leT_virt | exact leT_junk _ | exact leT_sl | exact leT_sln | exact leT_nil) ?_)))) | (first | exact leT_refl _ | exact leT_sl | exact leT_sln | exact leT_nil | (refine leT_tup (by repeat (first | exact leL_refl _ | refine leL_cons (by first | exact leT_refl _ | exact leT_virt | exact leT_junk _ | exact leT_sl | exact leT_sln | exact leT_nil) ?_))) | (refine leT_agg (by repeat (first | exact leL_refl _ | refine leL_cons (by first | exact leT_refl _ | exact leT_virt | exact leT_junk _ | exact leT_sl | exact leT_sln | exact leT_nil) ?_))))
    · refine guardK_T c1 ?_
      try simp -implicitDefEqProofs (maxSteps := 4000000) (disch := first | omega | decide | (simp only [go_sem]; omega)) only [go_sem, ↓reduceIte, String.reduceEq, String.reduceNe, reduceCtorEq, Int.reduceEq, Nat.reduceAdd, Nat.reduceSub, Nat.reduceMul, Nat.reduceLT, Nat.reduceLeDiff, Nat.reduceEqDiff, Nat.reduceBEq, Int.reduceToNat, Int.reduceLT, Int.reduceLE, Int.reduceGT, Int.reduceGE, Int.reduceAdd, Int.reduceSub, Int.reduceMul, Int.reduceNeg, Int.reduceBEq, Int.reduceBNe, Int.reducePow, Int.reduceDiv, Int.reduceMod, Int.reduceTDiv, Int.reduceTMod, Int.reduceNatCast]
      repeat (with_reducible refine And.intro (by first | assumption | omega | (simp; done) | (simp; omega)) ?_)
      refine toEnd hC ?_
      refine endX_seq ?_
      rcases iteB_some h with ⟨c2, h⟩ | ⟨c2, h⟩
      · refine runX_condT rfl c2 ?_
        refine runX_seq ?_
        refine runX_regionC fun C hC => ?_
        try simp -implicitDefEqProofs (maxSteps := 4000000) (disch := first | omega | decide | (simp only [go_sem]; omega)) only [go_sem, ↓reduceIte, String.reduceEq, String.reduceNe, reduceCtorEq, Int.reduceEq, Nat.reduceAdd, Nat.reduceSub, Nat.reduceMul, Nat.reduceLT, Nat.reduceLeDiff, Nat.reduceEqDiff, Nat.reduceBEq, Int.reduceToNat, Int.reduceLT, Int.reduceLE, Int.reduceGT, Int.reduceGE, Int.reduceAdd, Int.reduceSub, Int.reduceMul, Int.reduceNeg, Int.reduceBEq, Int.reduceBNe, Int.reducePow, Int.reduceDiv, Int.reduceMod, Int.reduceTDiv, Int.reduceTMod, Int.reduceNatCast]
        repeat (with_reducible refine And.intro (by first | assumption | omega | (simp; done) | (simp; omega)) ?_)
        refine buildW_of [.imm (.int .i64 (0 : Int)), .imm (.int .i64 (0 : Int)), .imm (.int .i64 (0 : Int)), .imm (.int .i64 (0 : Int)), .imm (.int .i64 (0 : Int)), .imm (.int .i64 (0 : Int))] (by kernel_rfl) ?_
        try simp -implicitDefEqProofs (maxSteps := 4000000) (disch := first | omega | decide | (simp only [go_sem]; omega)) only [go_sem, ↓reduceIte, String.reduceEq, String.reduceNe, reduceCtorEq, Int.reduceEq, Nat.reduceAdd, Nat.reduceSub, Nat.reduceMul, Nat.reduceLT, Nat.reduceLeDiff, Nat.reduceEqDiff, Nat.reduceBEq, Int.reduceToNat, Int.reduceLT, Int.reduceLE, Int.reduceGT, Int.reduceGE, Int.reduceAdd, Int.reduceSub, Int.reduceMul, Int.reduceNeg, Int.reduceBEq, Int.reduceBNe, Int.reducePow, Int.reduceDiv, Int.reduceMod, Int.reduceTDiv, Int.reduceTMod, Int.reduceNatCast]
        repeat (with_reducible refine And.intro (by first | assumption | omega | (simp; done) | (simp; omega)) ?_)
        refine toEnd hC ?_
        refine endX_seq ?_
        refine runX_ret ?_
        refine endX_seqR ?_
        refine endX_q ?_
        obtain rfl := Option.some.inj h
        show RetW _ _ _ _ _
        simp only [RetW]
        (try simp -implicitDefEqProofs (maxSteps := 4000000) (disch := first | omega | decide | (simp only [go_sem]; omega)) only [go_sem, ↓reduceIte, String.reduceEq, String.reduceNe, reduceCtorEq, Int.reduceEq, Nat.reduceAdd, Nat.reduceSub, Nat.reduceMul, Nat.reduceLT, Nat.reduceLeDiff, Nat.reduceEqDiff, Nat.reduceBEq, Int.reduceToNat, Int.reduceLT, Int.reduceLE, Int.reduceGT, Int.reduceGE, Int.reduceAdd, Int.reduceSub, Int.reduceMul, Int.reduceNeg, Int.reduceBEq, Int.reduceBNe, Int.reducePow, Int.reduceDiv, Int.reduceMod, Int.reduceTDiv, Int.reduceTMod, Int.reduceNatCast])
        first | exact leT_refl _ | (refine ⟨rfl, ?_⟩; first | exact leT_refl _ | exact leT_sl | exact leT_sln | exact leT_nil | (refine leT_tup (by repeat (first | exact leL_refl _ | refine leL_cons (by first | exact leT_refl _ | exact leT_virt | exact leT_junk _ | exact leT_sl | exact leT_sln | exact leT_nil) ?_))) | (refine leT_agg (by repeat (first | exact leL_refl _ | refine leL_cons (by first | exact leT_refl _ | exact leT_virt | exact leT_junk _ | exact leT_sl | exact leT_sln | exact leT_nil) ?_)))) | (first | exact leT_refl _ | exact leT_sl | exact leT_sln | exact leT_nil | (refine leT_tup (by repeat (first | exact leL_refl _ | refine leL_cons (by first | exact leT_refl _ | exact leT_virt | exact leT_junk _ | exact leT_sl | exact leT_sln | exact leT_nil) ?_))) | (refine leT_agg (by repeat (first | exact leL_refl _ | refine leL_cons (by first | exact leT_refl _ | exact leT_virt | exact leT_junk _ | exact leT_sl | exact leT_sln | exact leT_nil) ?_))))
      · refine runX_condF rfl c2 ?_
        refine runX_skip ?_
        refine endX_seq ?_
        refine runX_seq ?_
        refine runX_regionC fun C hC => ?_
        try simp -implicitDefEqProofs (maxSteps := 4000000) (disch := first | omega | decide | (simp only [go_sem]; omega)) only [go_sem, ↓reduceIte, String.reduceEq, String.reduceNe, reduceCtorEq, Int.reduceEq, Nat.reduceAdd, Nat.reduceSub, Nat.reduceMul, Nat.reduceLT, Nat.reduceLeDiff, Nat.reduceEqDiff, Nat.reduceBEq, Int.reduceToNat, Int.reduceLT, Int.reduceLE, Int.reduceGT, Int.reduceGE, Int.reduceAdd, Int.reduceSub, Int.reduceMul, Int.reduceNeg, Int.reduceBEq, Int.reduceBNe, Int.reducePow, Int.reduceDiv, Int.reduceMod, Int.reduceTDiv, Int.reduceTMod, Int.reduceNatCast]
        repeat (with_reducible refine And.intro (by first | assumption | omega | (simp; done) | (simp; omega)) ?_)
        refine toEnd hC ?_
        refine endX_seq ?_
        refine runX_seq ?_
        refine runX_regionC fun C hC => ?_
        try simp -implicitDefEqProofs (maxSteps := 4000000) (disch := first | omega | decide | (simp only [go_sem]; omega)) only [go_sem, ↓reduceIte, String.reduceEq, String.reduceNe, reduceCtorEq, Int.reduceEq, Nat.reduceAdd, Nat.reduceSub, Nat.reduceMul, Nat.reduceLT, Nat.reduceLeDiff, Nat.reduceEqDiff, Nat.reduceBEq, Int.reduceToNat, Int.reduceLT, Int.reduceLE, Int.reduceGT, Int.reduceGE, Int.reduceAdd, Int.reduceSub, Int.reduceMul, Int.reduceNeg, Int.reduceBEq, Int.reduceBNe, Int.reducePow, Int.reduceDiv, Int.reduceMod, Int.reduceTDiv, Int.reduceTMod, Int.reduceNatCast]
        repeat (with_reducible refine And.intro (by first | assumption | omega | (simp; done) | (simp; omega)) ?_)
        refine toEnd hC ?_
        refine endX_seq ?_
        refine runX_meet [2, 4, 5] (fun S => ∃ (x4 : Int) (x5 : Int), S = F17_S1 x4 x5 ∧ F17_J1 n x4 x5 = some r) ?_ ?_
        · refine runX_seq ?_
          refine runX_regionC fun C hC => ?_
          try simp -implicitDefEqProofs (maxSteps := 4000000) (disch := first | omega | decide | (simp only [go_sem]; omega)) only [go_sem, ↓reduceIte, String.reduceEq, String.reduceNe, reduceCtorEq, Int.reduceEq, Nat.reduceAdd, Nat.reduceSub, Nat.reduceMul, Nat.reduceLT, Nat.reduceLeDiff, Nat.reduceEqDiff, Nat.reduceBEq, Int.reduceToNat, Int.reduceLT, Int.reduceLE, Int.reduceGT, Int.reduceGE, Int.reduceAdd, Int.reduceSub, Int.reduceMul, Int.reduceNeg, Int.reduceBEq, Int.reduceBNe, Int.reducePow, Int.reduceDiv, Int.reduceMod, Int.reduceTDiv, Int.reduceTMod, Int.reduceNatCast]
          repeat (with_reducible refine And.intro (by first | assumption | omega | (simp; done) | (simp; omega)) ?_)
          refine toEnd hC ?_
          refine endX_seq ?_
          rcases iteB_some h with ⟨c3, h⟩ | ⟨c3, h⟩
          · refine runX_condT rfl c3 ?_
            refine runX_seq ?_
            refine runX_regionC fun C hC => ?_
            try simp -implicitDefEqProofs (maxSteps := 4000000) (disch := first | omega | decide | (simp only [go_sem]; omega)) only [go_sem, ↓reduceIte, String.reduceEq, String.reduceNe, reduceCtorEq, Int.reduceEq, Nat.reduceAdd, Nat.reduceSub, Nat.reduceMul, Nat.reduceLT, Nat.reduceLeDiff, Nat.reduceEqDiff, Nat.reduceBEq, Int.reduceToNat, Int.reduceLT, Int.reduceLE, Int.reduceGT, Int.reduceGE, Int.reduceAdd, Int.reduceSub, Int.reduceMul, Int.reduceNeg, Int.reduceBEq, Int.reduceBNe, Int.reducePow, Int.reduceDiv, Int.reduceMod, Int.reduceTDiv, Int.reduceTMod, Int.reduceNatCast]
            repeat (with_reducible refine And.intro (by first | assumption | omega | (simp; done) | (simp; omega)) ?_)
            refine toEnd hC ?_
            refine endX_seq ?_
            refine runX_regionC fun C hC => ?_
            try simp -implicitDefEqProofs (maxSteps := 4000000) (disch := first | omega | decide | (simp only [go_sem]; omega)) only [go_sem, ↓reduceIte, String.reduceEq, String.reduceNe, reduceCtorEq, Int.reduceEq, Nat.reduceAdd, Nat.reduceSub, Nat.reduceMul, Nat.reduceLT, Nat.reduceLeDiff, Nat.reduceEqDiff, Nat.reduceBEq, Int.reduceToNat, Int.reduceLT, Int.reduceLE, Int.reduceGT, Int.reduceGE, Int.reduceAdd, Int.reduceSub, Int.reduceMul, Int.reduceNeg, Int.reduceBEq, Int.reduceBNe, Int.reducePow, Int.reduceDiv, Int.reduceMod, Int.reduceTDiv, Int.reduceTMod, Int.reduceNatCast]
            repeat (with_reducible refine And.intro (by first | assumption | omega | (simp; done) | (simp; omega)) ?_)
            refine toEnd hC ?_
            refine endX_q (meetQ_normal ⟨F17_S1 (IntKind.wrap .i64 ((IntKind.wrap .i64 (a0.tdiv (86400 : Int))) - (1 : Int))) (IntKind.wrap .i64 ((a0.tmod (86400 : Int)) + (86400 : Int))), ?_, (IntKind.wrap .i64 ((IntKind.wrap .i64 (a0.tdiv (86400 : Int))) - (1 : Int))), (IntKind.wrap .i64 ((a0.tmod (86400 : Int)) + (86400 : Int))), rfl, h⟩)
            simp only [F17_S1]
            (try simp -implicitDefEqProofs (maxSteps := 4000000) (disch := first | omega | decide | (simp only [go_sem]; omega)) only [go_sem, ↓reduceIte, String.reduceEq, String.reduceNe, reduceCtorEq, Int.reduceEq, Nat.reduceAdd, Nat.reduceSub, Nat.reduceMul, Nat.reduceLT, Nat.reduceLeDiff, Nat.reduceEqDiff, Nat.reduceBEq, Int.reduceToNat, Int.reduceLT, Int.reduceLE, Int.reduceGT, Int.reduceGE, Int.reduceAdd, Int.reduceSub, Int.reduceMul, Int.reduceNeg, Int.reduceBEq, Int.reduceBNe, Int.reducePow, Int.reduceDiv, Int.reduceMod, Int.reduceTDiv, Int.reduceTMod, Int.reduceNatCast])
            first | exact leS_refl _ | (refine leS_le ?_ ?_ <;> first | exact leL_refl _ | exact leOs_refl _ | (repeat (first | exact leL_refl _ | refine leL_cons (by first | exact leT_refl _ | exact leT_virt | exact leT_junk _ | exact leT_sl | exact leT_sln | exact leT_nil) ?_)))
          · refine runX_condF rfl c3 ?_
            refine runX_skip ?_
            refine endX_q (meetQ_normal ⟨F17_S1 (IntKind.wrap .i64 (a0.tdiv (86400 : Int))) (a0.tmod (86400 : Int)), ?_, (IntKind.wrap .i64 (a0.tdiv (86400 : Int))), (a0.tmod (86400 : Int)), rfl, h⟩)
            simp only [F17_S1]
            (try simp -implicitDefEqProofs (maxSteps := 4000000) (disch := first | omega | decide | (simp only [go_sem]; omega)) only [go_sem, ↓reduceIte, String.reduceEq, String.reduceNe, reduceCtorEq, Int.reduceEq, Nat.reduceAdd, Nat.reduceSub, Nat.reduceMul, Nat.reduceLT, Nat.reduceLeDiff, Nat.reduceEqDiff, Nat.reduceBEq, Int.reduceToNat, Int.reduceLT, Int.reduceLE, Int.reduceGT, Int.reduceGE, Int.reduceAdd, Int.reduceSub, Int.reduceMul, Int.reduceNeg, Int.reduceBEq, Int.reduceBNe, Int.reducePow, Int.reduceDiv, Int.reduceMod, Int.reduceTDiv, Int.reduceTMod, Int.reduceNatCast])
            first | exact leS_refl _ | (refine leS_le ?_ ?_ <;> first | exact leL_refl _ | exact leOs_refl _ | (repeat (first | exact leL_refl _ | refine leL_cons (by first | exact leT_refl _ | exact leT_virt | exact leT_junk _ | exact leT_sl | exact leT_sln | exact leT_nil) ?_)))
        · clear h
          rintro S ⟨x4, x5, rfl, h⟩
          rw [F17_J1] at h
          simp only [F17_S1]
          refine runX_seq ?_
          refine runX_regionC fun C hC => ?_
          try simp -implicitDefEqProofs (maxSteps := 4000000) (disch := first | omega | decide | (simp only [go_sem]; omega)) only [go_sem, ↓reduceIte, String.reduceEq, String.reduceNe, reduceCtorEq, Int.reduceEq, Nat.reduceAdd, Nat.reduceSub, Nat.reduceMul, Nat.reduceLT, Nat.reduceLeDiff, Nat.reduceEqDiff, Nat.reduceBEq, Int.reduceToNat, Int.reduceLT, Int.reduceLE, Int.reduceGT, Int.reduceGE, Int.reduceAdd, Int.reduceSub, Int.reduceMul, Int.reduceNeg, Int.reduceBEq, Int.reduceBNe, Int.reducePow, Int.reduceDiv, Int.reduceMod, Int.reduceTDiv, Int.reduceTMod, Int.reduceNatCast]
          repeat (with_reducible refine And.intro (by first | assumption | omega | (simp; done) | (simp; omega)) ?_)
          refine buildW_of [.imm (.int .i64 (1970 : Int)), .imm (.int .i64 (1 : Int)), .imm (.int .i64 (1 : Int)), .imm (.int .i64 (IntKind.wrap .i64 (x5.tdiv (3600 : Int)))), .imm (.int .i64 ((IntKind.wrap .i64 (x5.tdiv (60 : Int))).tmod (60 : Int))), .imm (.int .i64 (x5.tmod (60 : Int)))] (by kernel_rfl) ?_
          try simp -implicitDefEqProofs (maxSteps := 4000000) (disch := first | omega | decide | (simp only [go_sem]; omega)) only [go_sem, ↓reduceIte, String.reduceEq, String.reduceNe, reduceCtorEq, Int.reduceEq, Nat.reduceAdd, Nat.reduceSub, Nat.reduceMul, Nat.reduceLT, Nat.reduceLeDiff, Nat.reduceEqDiff, Nat.reduceBEq, Int.reduceToNat, Int.reduceLT, Int.reduceLE, Int.reduceGT, Int.reduceGE, Int.reduceAdd, Int.reduceSub, Int.reduceMul, Int.reduceNeg, Int.reduceBEq, Int.reduceBNe, Int.reducePow, Int.reduceDiv, Int.reduceMod, Int.reduceTDiv, Int.reduceTMod, Int.reduceNatCast]
          repeat (with_reducible refine And.intro (by first | assumption | omega | (simp; done) | (simp; omega)) ?_)
          refine toEnd hC ?_
          refine endX_seq ?_
          refine runX_seq ?_
          refine runX_block ?_
          refine runX_loop [2, 4, 6] (fun m S => ∃ (x6 : Int) (x7 : Int) (x8 : Int) (x9 : Int) (x10 : Int) (x11 : Int) (x12 : Int), S = F17_S2 x6 x7 x8 x9 x10 x11 x12 ∧ m ≤ n ∧ F17_L2 m x6 x7 x8 x9 x10 x11 x12 = some r) n ⟨F17_S2 x4 (1970 : Int) (1 : Int) (1 : Int) (IntKind.wrap .i64 (x5.tdiv (3600 : Int))) ((IntKind.wrap .i64 (x5.tdiv (60 : Int))).tmod (60 : Int)) (x5.tmod (60 : Int)), ?_, x4, (1970 : Int), (1 : Int), (1 : Int), (IntKind.wrap .i64 (x5.tdiv (3600 : Int))), ((IntKind.wrap .i64 (x5.tdiv (60 : Int))).tmod (60 : Int)), (x5.tmod (60 : Int)), rfl, Nat.le_refl _, h⟩ ?_
          · simp only [F17_S2]
            (try simp -implicitDefEqProofs (maxSteps := 4000000) (disch := first | omega | decide | (simp only [go_sem]; omega)) only [go_sem, ↓reduceIte, String.reduceEq, String.reduceNe, reduceCtorEq, Int.reduceEq, Nat.reduceAdd, Nat.reduceSub, Nat.reduceMul, Nat.reduceLT, Nat.reduceLeDiff, Nat.reduceEqDiff, Nat.reduceBEq, Int.reduceToNat, Int.reduceLT, Int.reduceLE, Int.reduceGT, Int.reduceGE, Int.reduceAdd, Int.reduceSub, Int.reduceMul, Int.reduceNeg, Int.reduceBEq, Int.reduceBNe, Int.reducePow, Int.reduceDiv, Int.reduceMod, Int.reduceTDiv, Int.reduceTMod, Int.reduceNatCast])
            first | exact leS_refl _ | (refine leS_le ?_ ?_ <;> first | exact leL_refl _ | exact leOs_refl _ | (repeat (first | exact leL_refl _ | refine leL_cons (by first | exact leT_refl _ | exact leT_virt | exact leT_junk _ | exact leT_sl | exact leT_sln | exact leT_nil) ?_)))
          · clear h
            rintro m2 S ⟨x6, x7, x8, x9, x10, x11, x12, rfl, hm2, h⟩
            cases m2 with
            | zero => cases (show (none : Option _) = some _ from h)
            | succ m2 =>
              rw [F17_L2] at h
              simp only [F17_S2]
              refine runX_seq ?_
              refine runX_seq ?_
              refine runX_regionC fun C hC => ?_
              try simp -implicitDefEqProofs (maxSteps := 4000000) (disch := first | omega | decide | (simp only [go_sem]; omega)) only [go_sem, ↓reduceIte, String.reduceEq, String.reduceNe, reduceCtorEq, Int.reduceEq, Nat.reduceAdd, Nat.reduceSub, Nat.reduceMul, Nat.reduceLT, Nat.reduceLeDiff, Nat.reduceEqDiff, Nat.reduceBEq, Int.reduceToNat, Int.reduceLT, Int.reduceLE, Int.reduceGT, Int.reduceGE, Int.reduceAdd, Int.reduceSub, Int.reduceMul, Int.reduceNeg, Int.reduceBEq, Int.reduceBNe, Int.reducePow, Int.reduceDiv, Int.reduceMod, Int.reduceTDiv, Int.reduceTMod, Int.reduceNatCast]
              repeat (with_reducible refine And.intro (by first | assumption | omega | (simp; done) | (simp; omega)) ?_)
              refine toEnd hC ?_
              refine endX_seq ?_
              rcases iteB_some h with ⟨c13, h⟩ | ⟨c13, h⟩
              · refine runX_condT rfl c13 ?_
                refine runX_skip ?_
                refine endX_seq ?_
                refine runX_block ?_
                refine runX_seq ?_
                refine runX_regionC fun C hC => ?_
                try simp -implicitDefEqProofs (maxSteps := 4000000) (disch := first | omega | decide | (simp only [go_sem]; omega)) only [go_sem, ↓reduceIte, String.reduceEq, String.reduceNe, reduceCtorEq, Int.reduceEq, Nat.reduceAdd, Nat.reduceSub, Nat.reduceMul, Nat.reduceLT, Nat.reduceLeDiff, Nat.reduceEqDiff, Nat.reduceBEq, Int.reduceToNat, Int.reduceLT, Int.reduceLE, Int.reduceGT, Int.reduceGE, Int.reduceAdd, Int.reduceSub, Int.reduceMul, Int.reduceNeg, Int.reduceBEq, Int.reduceBNe, Int.reducePow, Int.reduceDiv, Int.reduceMod, Int.reduceTDiv, Int.reduceTMod, Int.reduceNatCast]
                repeat (with_reducible refine And.intro (by first | assumption | omega | (simp; done) | (simp; omega)) ?_)
                refine toEnd hC ?_
                refine endX_seq ?_
                refine runX_regionC fun C hC => ?_
                obtain ⟨v14, h14, h⟩ := bnd_some h
                try simp -implicitDefEqProofs (maxSteps := 4000000) (disch := first | omega | decide | (simp only [go_sem]; omega)) only [go_sem, ↓reduceIte, String.reduceEq, String.reduceNe, reduceCtorEq, Int.reduceEq, Nat.reduceAdd, Nat.reduceSub, Nat.reduceMul, Nat.reduceLT, Nat.reduceLeDiff, Nat.reduceEqDiff, Nat.reduceBEq, Int.reduceToNat, Int.reduceLT, Int.reduceLE, Int.reduceGT, Int.reduceGE, Int.reduceAdd, Int.reduceSub, Int.reduceMul, Int.reduceNeg, Int.reduceBEq, Int.reduceBNe, Int.reducePow, Int.reduceDiv, Int.reduceMod, Int.reduceTDiv, Int.reduceTMod, Int.reduceNatCast]
                repeat (with_reducible refine And.intro (by first | assumption | omega | (simp; done) | (simp; omega)) ?_)
                refine callG_X (F51_ok m2 (IntKind.wrap .i64 (x7 - (1 : Int))) _ h14) (by repeat (first | exact leL_refl _ | refine leL_cons (by first | exact leT_refl _ | exact leT_virt | exact leT_junk _ | exact leT_sl | exact leT_sln | exact leT_nil) ?_)) ?_
                try simp -implicitDefEqProofs (maxSteps := 4000000) (disch := first | omega | decide | (simp only [go_sem]; omega)) only [go_sem, ↓reduceIte, String.reduceEq, String.reduceNe, reduceCtorEq, Int.reduceEq, Nat.reduceAdd, Nat.reduceSub, Nat.reduceMul, Nat.reduceLT, Nat.reduceLeDiff, Nat.reduceEqDiff, Nat.reduceBEq, Int.reduceToNat, Int.reduceLT, Int.reduceLE, Int.reduceGT, Int.reduceGE, Int.reduceAdd, Int.reduceSub, Int.reduceMul, Int.reduceNeg, Int.reduceBEq, Int.reduceBNe, Int.reducePow, Int.reduceDiv, Int.reduceMod, Int.reduceTDiv, Int.reduceTMod, Int.reduceNatCast]
                repeat (with_reducible refine And.intro (by first | assumption | omega | (simp; done) | (simp; omega)) ?_)
                refine toEnd hC ?_
                refine endX_blk ?_
                refine endX_q (roundQ_normal ⟨m2, by omega, F17_S2 (IntKind.wrap .i64 (x6 + v14)) (IntKind.wrap .i64 (x7 - (1 : Int))) x8 x9 x10 x11 x12, ?_, (IntKind.wrap .i64 (x6 + v14)), (IntKind.wrap .i64 (x7 - (1 : Int))), x8, x9, x10, x11, x12, rfl, by omega, h⟩)
                simp only [F17_S2]
                (try simp -implicitDefEqProofs (maxSteps := 4000000) (disch := first | omega | decide | (simp only [go_sem]; omega)) only [go_sem, ↓reduceIte, String.reduceEq, String.reduceNe, reduceCtorEq, Int.reduceEq, Nat.reduceAdd, Nat.reduceSub, Nat.reduceMul, Nat.reduceLT, Nat.reduceLeDiff, Nat.reduceEqDiff, Nat.reduceBEq, Int.reduceToNat, Int.reduceLT, Int.reduceLE, Int.reduceGT, Int.reduceGE, Int.reduceAdd, Int.reduceSub, Int.reduceMul, Int.reduceNeg, Int.reduceBEq, Int.reduceBNe, Int.reducePow, Int.reduceDiv, Int.reduceMod, Int.reduceTDiv, Int.reduceTMod, Int.reduceNatCast])
                first | exact leS_refl _ | (refine leS_le ?_ ?_ <;> first | exact leL_refl _ | exact leOs_refl _ | (repeat (first | exact leL_refl _ | refine leL_cons (by first | exact leT_refl _ | exact leT_virt | exact leT_junk _ | exact leT_sl | exact leT_sln | exact leT_nil) ?_)))
              · refine runX_condF rfl c13 ?_
                refine runX_exit ?_
                refine endX_seqE ?_
                refine endX_q (roundQ_exit ?_)
                refine endX_blkE ?_
                refine endX_seq ?_
                refine runX_seq ?_
                refine runX_block ?_
                refine runX_loop [2, 4, 6] (fun m S => ∃ (x15 : Int) (x16 : Int) (x17 : Int) (x18 : Int) (x19 : Int) (x20 : Int) (x21 : Int), S = F17_S3 x15 x16 x17 x18 x19 x20 x21 ∧ m ≤ m2 ∧ F17_L3 m x15 x16 x17 x18 x19 x20 x21 = some r) m2 ⟨F17_S3 x6 x7 x8 x9 x10 x11 x12, ?_, x6, x7, x8, x9, x10, x11, x12, rfl, Nat.le_refl _, h⟩ ?_
                · simp only [F17_S3]
                  (try simp -implicitDefEqProofs (maxSteps := 4000000) (disch := first | omega | decide | (simp only [go_sem]; omega)) only [go_sem, ↓reduceIte, String.reduceEq, String.reduceNe, reduceCtorEq, Int.reduceEq, Nat.reduceAdd, Nat.reduceSub, Nat.reduceMul, Nat.reduceLT, Nat.reduceLeDiff, Nat.reduceEqDiff, Nat.reduceBEq, Int.reduceToNat, Int.reduceLT, Int.reduceLE, Int.reduceGT, Int.reduceGE, Int.reduceAdd, Int.reduceSub, Int.reduceMul, Int.reduceNeg, Int.reduceBEq, Int.reduceBNe, Int.reducePow, Int.reduceDiv, Int.reduceMod, Int.reduceTDiv, Int.reduceTMod, Int.reduceNatCast])
                  first | exact leS_refl _ | (refine leS_le ?_ ?_ <;> first | exact leL_refl _ | exact leOs_refl _ | (repeat (first | exact leL_refl _ | refine leL_cons (by first | exact leT_refl _ | exact leT_virt | exact leT_junk _ | exact leT_sl | exact leT_sln | exact leT_nil) ?_)))
                · clear h
                  rintro m3 S ⟨x15, x16, x17, x18, x19, x20, x21, rfl, hm3, h⟩
                  cases m3 with
                  | zero => cases (show (none : Option _) = some _ from h)
                  | succ m3 =>
                    rw [F17_L3] at h
                    simp only [F17_S3]
                    refine runX_seq ?_
                    refine runX_seq ?_
                    refine runX_regionC fun C hC => ?_
                    obtain ⟨v22, h22, h⟩ := bnd_some h
                    try simp -implicitDefEqProofs (maxSteps := 4000000) (disch := first | omega | decide | (simp only [go_sem]; omega)) only [go_sem, ↓reduceIte, String.reduceEq, String.reduceNe, reduceCtorEq, Int.reduceEq, Nat.reduceAdd, Nat.reduceSub, Nat.reduceMul, Nat.reduceLT, Nat.reduceLeDiff, Nat.reduceEqDiff, Nat.reduceBEq, Int.reduceToNat, Int.reduceLT, Int.reduceLE, Int.reduceGT, Int.reduceGE, Int.reduceAdd, Int.reduceSub, Int.reduceMul, Int.reduceNeg, Int.reduceBEq, Int.reduceBNe, Int.reducePow, Int.reduceDiv, Int.reduceMod, Int.reduceTDiv, Int.reduceTMod, Int.reduceNatCast]
                    repeat (with_reducible refine And.intro (by first | assumption | omega | (simp; done) | (simp; omega)) ?_)
                    refine callG_X (F51_ok m3 x16 _ h22) (by repeat (first | exact leL_refl _ | refine leL_cons (by first | exact leT_refl _ | exact leT_virt | exact leT_junk _ | exact leT_sl | exact leT_sln | exact leT_nil) ?_)) ?_
                    try simp -implicitDefEqProofs (maxSteps := 4000000) (disch := first | omega | decide | (simp only [go_sem]; omega)) only [go_sem, ↓reduceIte, String.reduceEq, String.reduceNe, reduceCtorEq, Int.reduceEq, Nat.reduceAdd, Nat.reduceSub, Nat.reduceMul, Nat.reduceLT, Nat.reduceLeDiff, Nat.reduceEqDiff, Nat.reduceBEq, Int.reduceToNat, Int.reduceLT, Int.reduceLE, Int.reduceGT, Int.reduceGE, Int.reduceAdd, Int.reduceSub, Int.reduceMul, Int.reduceNeg, Int.reduceBEq, Int.reduceBNe, Int.reducePow, Int.reduceDiv, Int.reduceMod, Int.reduceTDiv, Int.reduceTMod, Int.reduceNatCast]
                    repeat (with_reducible refine And.intro (by first | assumption | omega | (simp; done) | (simp; omega)) ?_)
                    refine toEnd hC ?_
                    refine endX_seq ?_
                    rcases iteB_some h with ⟨c23, h⟩ | ⟨c23, h⟩
                    · refine runX_condT rfl c23 ?_
                      refine runX_skip ?_
                      refine endX_seq ?_
                      refine runX_block ?_
                      refine runX_seq ?_
                      refine runX_regionC fun C hC => ?_
                      obtain ⟨v24, h24, h⟩ := bnd_some h
                      try simp -implicitDefEqProofs (maxSteps := 4000000) (disch := first | omega | decide | (simp only [go_sem]; omega)) only [go_sem, ↓reduceIte, String.reduceEq, String.reduceNe, reduceCtorEq, Int.reduceEq, Nat.reduceAdd, Nat.reduceSub, Nat.reduceMul, Nat.reduceLT, Nat.reduceLeDiff, Nat.reduceEqDiff, Nat.reduceBEq, Int.reduceToNat, Int.reduceLT, Int.reduceLE, Int.reduceGT, Int.reduceGE, Int.reduceAdd, Int.reduceSub, Int.reduceMul, Int.reduceNeg, Int.reduceBEq, Int.reduceBNe, Int.reducePow, Int.reduceDiv, Int.reduceMod, Int.reduceTDiv, Int.reduceTMod, Int.reduceNatCast]
                      repeat (with_reducible refine And.intro (by first | assumption | omega | (simp; done) | (simp; omega)) ?_)
                      refine callG_X (F51_ok m3 x16 _ h24) (by repeat (first | exact leL_refl _ | refine leL_cons (by first | exact leT_refl _ | exact leT_virt | exact leT_junk _ | exact leT_sl | exact leT_sln | exact leT_nil) ?_)) ?_
                      try simp -implicitDefEqProofs (maxSteps := 4000000) (disch := first | omega | decide | (simp only [go_sem]; omega)) only [go_sem, ↓reduceIte, String.reduceEq, String.reduceNe, reduceCtorEq, Int.reduceEq, Nat.reduceAdd, Nat.reduceSub, Nat.reduceMul, Nat.reduceLT, Nat.reduceLeDiff, Nat.reduceEqDiff, Nat.reduceBEq, Int.reduceToNat, Int.reduceLT, Int.reduceLE, Int.reduceGT, Int.reduceGE, Int.reduceAdd, Int.reduceSub, Int.reduceMul, Int.reduceNeg, Int.reduceBEq, Int.reduceBNe, Int.reducePow, Int.reduceDiv, Int.reduceMod, Int.reduceTDiv, Int.reduceTMod, Int.reduceNatCast]
                      repeat (with_reducible refine And.intro (by first | assumption | omega | (simp; done) | (simp; omega)) ?_)
                      refine toEnd hC ?_
                      refine endX_seq ?_
                      refine runX_regionC fun C hC => ?_
                      try simp -implicitDefEqProofs (maxSteps := 4000000) (disch := first | omega | decide | (simp only [go_sem]; omega)) only [go_sem, ↓reduceIte, String.reduceEq, String.reduceNe, reduceCtorEq, Int.reduceEq, Nat.reduceAdd, Nat.reduceSub, Nat.reduceMul, Nat.reduceLT, Nat.reduceLeDiff, Nat.reduceEqDiff, Nat.reduceBEq, Int.reduceToNat, Int.reduceLT, Int.reduceLE, Int.reduceGT, Int.reduceGE, Int.reduceAdd, Int.reduceSub, Int.reduceMul, Int.reduceNeg, Int.reduceBEq, Int.reduceBNe, Int.reducePow, Int.reduceDiv, Int.reduceMod, Int.reduceTDiv, Int.reduceTMod, Int.reduceNatCast]
                      repeat (with_reducible refine And.intro (by first | assumption | omega | (simp; done) | (simp; omega)) ?_)
                      refine toEnd hC ?_
                      refine endX_blk ?_
                      refine endX_q (roundQ_normal ⟨m3, by omega, F17_S3 (IntKind.wrap .i64 (x15 - v24)) (IntKind.wrap .i64 (x16 + (1 : Int))) x17 x18 x19 x20 x21, ?_, (IntKind.wrap .i64 (x15 - v24)), (IntKind.wrap .i64 (x16 + (1 : Int))), x17, x18, x19, x20, x21, rfl, by omega, h⟩)
                      simp only [F17_S3]
                      (try simp -implicitDefEqProofs (maxSteps := 4000000) (disch := first | omega | decide | (simp only [go_sem]; omega)) only [go_sem, ↓reduceIte, String.reduceEq, String.reduceNe, reduceCtorEq, Int.reduceEq, Nat.reduceAdd, Nat.reduceSub, Nat.reduceMul, Nat.reduceLT, Nat.reduceLeDiff, Nat.reduceEqDiff, Nat.reduceBEq, Int.reduceToNat, Int.reduceLT, Int.reduceLE, Int.reduceGT, Int.reduceGE, Int.reduceAdd, Int.reduceSub, Int.reduceMul, Int.reduceNeg, Int.reduceBEq, Int.reduceBNe, Int.reducePow, Int.reduceDiv, Int.reduceMod, Int.reduceTDiv, Int.reduceTMod, Int.reduceNatCast])
                      first | exact leS_refl _ | (refine leS_le ?_ ?_ <;> first | exact leL_refl _ | exact leOs_refl _ | (repeat (first | exact leL_refl _ | refine leL_cons (by first | exact leT_refl _ | exact leT_virt | exact leT_junk _ | exact leT_sl | exact leT_sln | exact leT_nil) ?_)))
                    · refine runX_condF rfl c23 ?_
                      refine runX_exit ?_
                      refine endX_seqE ?_
                      refine endX_q (roundQ_exit ?_)
                      refine endX_blkE ?_
                      refine endX_seq ?_
                      refine runX_seq ?_
                      refine runX_block ?_
                      refine runX_loop [2, 4, 6] (fun m S => ∃ (x25 : Int) (x26 : Int) (x27 : Int) (x28 : Int) (x29 : Int) (x30 : Int) (x31 : Int), S = F17_S4 x25 x26 x27 x28 x29 x30 x31 ∧ m ≤ m3 ∧ F17_L4 m x25 x26 x27 x28 x29 x30 x31 = some r) m3 ⟨F17_S4 x15 x16 x17 x18 x19 x20 x21, ?_, x15, x16, x17, x18, x19, x20, x21, rfl, Nat.le_refl _, h⟩ ?_
                      · simp only [F17_S4]
                        (try simp -implicitDefEqProofs (maxSteps := 4000000) (disch := first | omega | decide | (simp only [go_sem]; omega)) only [go_sem, ↓reduceIte, String.reduceEq, String.reduceNe, reduceCtorEq, Int.reduceEq, Nat.reduceAdd, Nat.reduceSub, Nat.reduceMul, Nat.reduceLT, Nat.reduceLeDiff, Nat.reduceEqDiff, Nat.reduceBEq, Int.reduceToNat, Int.reduceLT, Int.reduceLE, Int.reduceGT, Int.reduceGE, Int.reduceAdd, Int.reduceSub, Int.reduceMul, Int.reduceNeg, Int.reduceBEq, Int.reduceBNe, Int.reducePow, Int.reduceDiv, Int.reduceMod, Int.reduceTDiv, Int.reduceTMod, Int.reduceNatCast])
                        first | exact leS_refl _ | (refine leS_le ?_ ?_ <;> first | exact leL_refl _ | exact leOs_refl _ | (repeat (first | exact leL_refl _ | refine leL_cons (by first | exact leT_refl _ | exact leT_virt | exact leT_junk _ | exact leT_sl | exact leT_sln | exact leT_nil) ?_)))
                      · clear h
                        rintro m4 S ⟨x25, x26, x27, x28, x29, x30, x31, rfl, hm4, h⟩
                        cases m4 with
                        | zero => cases (show (none : Option _) = some _ from h)
                        | succ m4 =>
                          rw [F17_L4] at h
                          simp only [F17_S4]
                          refine runX_seq ?_
                          refine runX_seq ?_
                          refine runX_regionC fun C hC => ?_
                          obtain ⟨v32, h32, h⟩ := bnd_some h
                          try simp -implicitDefEqProofs (maxSteps := 4000000) (disch := first | omega | decide | (simp only [go_sem]; omega)) only [go_sem, ↓reduceIte, String.reduceEq, String.reduceNe, reduceCtorEq, Int.reduceEq, Nat.reduceAdd, Nat.reduceSub, Nat.reduceMul, Nat.reduceLT, Nat.reduceLeDiff, Nat.reduceEqDiff, Nat.reduceBEq, Int.reduceToNat, Int.reduceLT, Int.reduceLE, Int.reduceGT, Int.reduceGE, Int.reduceAdd, Int.reduceSub, Int.reduceMul, Int.reduceNeg, Int.reduceBEq, Int.reduceBNe, Int.reducePow, Int.reduceDiv, Int.reduceMod, Int.reduceTDiv, Int.reduceTMod, Int.reduceNatCast]
                          repeat (with_reducible refine And.intro (by first | assumption | omega | (simp; done) | (simp; omega)) ?_)
                          refine callG_X (F28_ok m4 x26 x27 _ h32) (by repeat (first | exact leL_refl _ | refine leL_cons (by first | exact leT_refl _ | exact leT_virt | exact leT_junk _ | exact leT_sl | exact leT_sln | exact leT_nil) ?_)) ?_
                          try simp -implicitDefEqProofs (maxSteps := 4000000) (disch := first | omega | decide | (simp only [go_sem]; omega)) only [go_sem, ↓reduceIte, String.reduceEq, String.reduceNe, reduceCtorEq, Int.reduceEq, Nat.reduceAdd, Nat.reduceSub, Nat.reduceMul, Nat.reduceLT, Nat.reduceLeDiff, Nat.reduceEqDiff, Nat.reduceBEq, Int.reduceToNat, Int.reduceLT, Int.reduceLE, Int.reduceGT, Int.reduceGE, Int.reduceAdd, Int.reduceSub, Int.reduceMul, Int.reduceNeg, Int.reduceBEq, Int.reduceBNe, Int.reducePow, Int.reduceDiv, Int.reduceMod, Int.reduceTDiv, Int.reduceTMod, Int.reduceNatCast]
                          repeat (with_reducible refine And.intro (by first | assumption | omega | (simp; done) | (simp; omega)) ?_)
                          refine toEnd hC ?_
                          refine endX_seq ?_
                          rcases iteB_some h with ⟨c33, h⟩ | ⟨c33, h⟩
                          · refine runX_condT rfl c33 ?_
                            refine runX_skip ?_
                            refine endX_seq ?_
                            refine runX_block ?_
                            refine runX_seq ?_
                            refine runX_regionC fun C hC => ?_
                            obtain ⟨v34, h34, h⟩ := bnd_some h
                            try simp -implicitDefEqProofs (maxSteps := 4000000) (disch := first | omega | decide | (simp only [go_sem]; omega)) only [go_sem, ↓reduceIte, String.reduceEq, String.reduceNe, reduceCtorEq, Int.reduceEq, Nat.reduceAdd, Nat.reduceSub, Nat.reduceMul, Nat.reduceLT, Nat.reduceLeDiff, Nat.reduceEqDiff, Nat.reduceBEq, Int.reduceToNat, Int.reduceLT, Int.reduceLE, Int.reduceGT, Int.reduceGE, Int.reduceAdd, Int.reduceSub, Int.reduceMul, Int.reduceNeg, Int.reduceBEq, Int.reduceBNe, Int.reducePow, Int.reduceDiv, Int.reduceMod, Int.reduceTDiv, Int.reduceTMod, Int.reduceNatCast]
                            repeat (with_reducible refine And.intro (by first | assumption | omega | (simp; done) | (simp; omega)) ?_)
                            refine callG_X (F28_ok m4 x26 x27 _ h34) (by repeat (first | exact leL_refl _ | refine leL_cons (by first | exact leT_refl _ | exact leT_virt | exact leT_junk _ | exact leT_sl | exact leT_sln | exact leT_nil) ?_)) ?_
                            try simp -implicitDefEqProofs (maxSteps := 4000000) (disch := first | omega | decide | (simp only [go_sem]; omega)) only [go_sem, ↓reduceIte, String.reduceEq, String.reduceNe, reduceCtorEq, Int.reduceEq, Nat.reduceAdd, Nat.reduceSub, Nat.reduceMul, Nat.reduceLT, Nat.reduceLeDiff, Nat.reduceEqDiff, Nat.reduceBEq, Int.reduceToNat, Int.reduceLT, Int.reduceLE, Int.reduceGT, Int.reduceGE, Int.reduceAdd, Int.reduceSub, Int.reduceMul, Int.reduceNeg, Int.reduceBEq, Int.reduceBNe, Int.reducePow, Int.reduceDiv, Int.reduceMod, Int.reduceTDiv, Int.reduceTMod, Int.reduceNatCast]
                            repeat (with_reducible refine And.intro (by first | assumption | omega | (simp; done) | (simp; omega)) ?_)
                            refine toEnd hC ?_
                            refine endX_seq ?_
                            refine runX_regionC fun C hC => ?_
                            try simp -implicitDefEqProofs (maxSteps := 4000000) (disch := first | omega | decide | (simp only [go_sem]; omega)) only [go_sem, ↓reduceIte, String.reduceEq, String.reduceNe, reduceCtorEq, Int.reduceEq, Nat.reduceAdd, Nat.reduceSub, Nat.reduceMul, Nat.reduceLT, Nat.reduceLeDiff, Nat.reduceEqDiff, Nat.reduceBEq, Int.reduceToNat, Int.reduceLT, Int.reduceLE, Int.reduceGT, Int.reduceGE, Int.reduceAdd, Int.reduceSub, Int.reduceMul, Int.reduceNeg, Int.reduceBEq, Int.reduceBNe, Int.reducePow, Int.reduceDiv, Int.reduceMod, Int.reduceTDiv, Int.reduceTMod, Int.reduceNatCast]
                            repeat (with_reducible refine And.intro (by first | assumption | omega | (simp; done) | (simp; omega)) ?_)
                            refine toEnd hC ?_
                            refine endX_blk ?_
                            refine endX_q (roundQ_normal ⟨m4, by omega, F17_S4 (IntKind.wrap .i64 (x25 - v34)) x26 (IntKind.wrap .i64 (x27 + (1 : Int))) x28 x29 x30 x31, ?_, (IntKind.wrap .i64 (x25 - v34)), x26, (IntKind.wrap .i64 (x27 + (1 : Int))), x28, x29, x30, x31, rfl, by omega, h⟩)
                            simp only [F17_S4]
                            (try simp -implicitDefEqProofs (maxSteps := 4000000) (disch := first | omega | decide | (simp only [go_sem]; omega)) only [go_sem, ↓reduceIte, String.reduceEq, String.reduceNe, reduceCtorEq, Int.reduceEq, Nat.reduceAdd, Nat.reduceSub, Nat.reduceMul, Nat.reduceLT, Nat.reduceLeDiff, Nat.reduceEqDiff, Nat.reduceBEq, Int.reduceToNat, Int.reduceLT, Int.reduceLE, Int.reduceGT, Int.reduceGE, Int.reduceAdd, Int.reduceSub, Int.reduceMul, Int.reduceNeg, Int.reduceBEq, Int.reduceBNe, Int.reducePow, Int.reduceDiv, Int.reduceMod, Int.reduceTDiv, Int.reduceTMod, Int.reduceNatCast])
                            first | exact leS_refl _ | (refine leS_le ?_ ?_ <;> first | exact leL_refl _ | exact leOs_refl _ | (repeat (first | exact leL_refl _ | refine leL_cons (by first | exact leT_refl _ | exact leT_virt | exact leT_junk _ | exact leT_sl | exact leT_sln | exact leT_nil) ?_)))
                          · refine runX_condF rfl c33 ?_
                            refine runX_exit ?_
                            refine endX_seqE ?_
                            refine endX_q (roundQ_exit ?_)
                            refine endX_blkE ?_
                            refine endX_seq ?_
                            refine runX_seq ?_
                            refine runX_regionC fun C hC => ?_
                            try simp -implicitDefEqProofs (maxSteps := 4000000) (disch := first | omega | decide | (simp only [go_sem]; omega)) only [go_sem, ↓reduceIte, String.reduceEq, String.reduceNe, reduceCtorEq, Int.reduceEq, Nat.reduceAdd, Nat.reduceSub, Nat.reduceMul, Nat.reduceLT, Nat.reduceLeDiff, Nat.reduceEqDiff, Nat.reduceBEq, Int.reduceToNat, Int.reduceLT, Int.reduceLE, Int.reduceGT, Int.reduceGE, Int.reduceAdd, Int.reduceSub, Int.reduceMul, Int.reduceNeg, Int.reduceBEq, Int.reduceBNe, Int.reducePow, Int.reduceDiv, Int.reduceMod, Int.reduceTDiv, Int.reduceTMod, Int.reduceNatCast]
                            repeat (with_reducible refine And.intro (by first | assumption | omega | (simp; done) | (simp; omega)) ?_)
                            refine toEnd hC ?_
                            refine endX_seq ?_
                            refine runX_seq ?_
                            refine runX_regionC fun C hC => ?_
                            try simp -implicitDefEqProofs (maxSteps := 4000000) (disch := first | omega | decide | (simp only [go_sem]; omega)) only [go_sem, ↓reduceIte, String.reduceEq, String.reduceNe, reduceCtorEq, Int.reduceEq, Nat.reduceAdd, Nat.reduceSub, Nat.reduceMul, Nat.reduceLT, Nat.reduceLeDiff, Nat.reduceEqDiff, Nat.reduceBEq, Int.reduceToNat, Int.reduceLT, Int.reduceLE, Int.reduceGT, Int.reduceGE, Int.reduceAdd, Int.reduceSub, Int.reduceMul, Int.reduceNeg, Int.reduceBEq, Int.reduceBNe, Int.reducePow, Int.reduceDiv, Int.reduceMod, Int.reduceTDiv, Int.reduceTMod, Int.reduceNatCast]
                            repeat (with_reducible refine And.intro (by first | assumption | omega | (simp; done) | (simp; omega)) ?_)
                            refine toEnd hC ?_
                            refine endX_seq ?_
                            refine runX_ret ?_
                            refine endX_q ?_
                            obtain rfl := Option.some.inj h
                            show RetW _ _ _ _ _
                            simp only [RetW]
                            (try simp -implicitDefEqProofs (maxSteps := 4000000) (disch := first | omega | decide | (simp only [go_sem]; omega)) only [go_sem, ↓reduceIte, String.reduceEq, String.reduceNe, reduceCtorEq, Int.reduceEq, Nat.reduceAdd, Nat.reduceSub, Nat.reduceMul, Nat.reduceLT, Nat.reduceLeDiff, Nat.reduceEqDiff, Nat.reduceBEq, Int.reduceToNat, Int.reduceLT, Int.reduceLE, Int.reduceGT, Int.reduceGE, Int.reduceAdd, Int.reduceSub, Int.reduceMul, Int.reduceNeg, Int.reduceBEq, Int.reduceBNe, Int.reducePow, Int.reduceDiv, Int.reduceMod, Int.reduceTDiv, Int.reduceTMod, Int.reduceNatCast])
                            first | exact leT_refl _ | (refine ⟨rfl, ?_⟩; first | exact leT_refl _ | exact leT_sl | exact leT_sln | exact leT_nil | (refine leT_tup (by repeat (first | exact leL_refl _ | refine leL_cons (by first | exact leT_refl _ | exact leT_virt | exact leT_junk _ | exact leT_sl | exact leT_sln | exact leT_nil) ?_))) | (refine leT_agg (by repeat (first | exact leL_refl _ | refine leL_cons (by first | exact leT_refl _ | exact leT_virt | exact leT_junk _ | exact leT_sl | exact leT_sln | exact leT_nil) ?_)))) | (first | exact leT_refl _ | exact leT_sl | exact leT_sln | exact leT_nil | (refine leT_tup (by repeat (first | exact leL_refl _ | refine leL_cons (by first | exact leT_refl _ | exact leT_virt | exact leT_junk _ | exact leT_sl | exact leT_sln | exact leT_nil) ?_))) | (refine leT_agg (by repeat (first | exact leL_refl _ | refine leL_cons (by first | exact leT_refl _ | exact leT_virt | exact leT_junk _ | exact leT_sl | exact leT_sln | exact leT_nil) ?_))))
end Go.Proofs.YtdfghdppbfabfaaX

/- The calendar: the program's functions and the reference's. -/
set_option linter.unusedVariables false
set_option linter.unusedSimpArgs false
namespace Go.Proofs.YtdfghdppbfabfaaX
open Go

theorem beqI0 (a b : Int) : (a == b) = decide (a = b) := rfl
theorem leapF (y : Int) : F25 0 y = some (decide (leapY y)) := by
  unfold F25 leapY
  by_cases h1 : Int.tmod y 4 = 0 <;> by_cases h2 : Int.tmod y 100 = 0 <;> by_cases h3 : Int.tmod y 400 = 0 <;> simp [bne, beqI0, h1, h2, h3, iteB]
theorem Leap_eq (n : Nat) (y : Int) : F25 n y = some (decide (leapY y)) := leapF y
theorem rLeap_eq (n : Nat) (y : Int) : F26 n y = some (decide (leapY y)) := leapF y
theorem length_eq (n : Nat) (y : Int) : F51 n y = some (lenY y) := by
  unfold F51 lenY
  rw [rLeap_eq, bind_some']
  by_cases h : leapY y <;> simp [h, iteB]
theorem mlist (i : Nat) (h : i < 12) : ([(31 : Int), 28, 31, 30, 31, 30, 31, 31, 30, 31, 30, 31] : List Int).getD i default = if i = 1 then 28 else if i = 3 ∨ i = 5 ∨ i = 8 ∨ i = 10 then 30 else 31 := by
  have : ∀ i : Fin 12, ([(31 : Int), 28, 31, 30, 31, 30, 31, 31, 30, 31, 30, 31] : List Int).getD i.val default = if i.val = 1 then 28 else if i.val = 3 ∨ i.val = 5 ∨ i.val = 8 ∨ i.val = 10 then 30 else 31 := by decide
  exact this ⟨i, h⟩
theorem Days_eq (n : Nat) (y m : Int) : F27 n y m = some (daysOf y m) := by
  unfold F27 daysOf
  by_cases h1 : m < 1
  · rw [decide_eq_true h1, iteB_t, if_pos (.inl h1)]
  rw [decide_eq_false h1, iteB_f]
  by_cases h2 : 12 < m
  · rw [decide_eq_true h2, iteB_t, if_pos (.inr h2)]
  rw [decide_eq_false h2, iteB_f, if_neg (by omega)]
  obtain ⟨i, rfl⟩ : ∃ i : Nat, m = i + 1 := ⟨(m - 1).toNat, by omega⟩
  have hw : IntKind.wrap .i64 ((i : Int) + 1 - 1) = (i : Int) := by rw [w64 (by omega)]; omega
  have hg : (0 ≤ (i : Int) ∧ (i : Int) < 12 ∧ i < ([(31 : Int), 28, 31, 30, 31, 30, 31, 31, 30, 31, 30, 31] : List Int).length) := ⟨by omega, by omega, by simp only [List.length_cons, List.length_nil]; omega⟩
  simp only [F54, bind_some', hw, toNat_nat, mlist i (by omega)]
  by_cases h3 : (i : Int) + 1 = 2
  · obtain rfl : i = 1 := by omega
    rw [show (((1 : Nat) : Int) + 1 == 2) = true from rfl, iteB_t, Leap_eq, bind_some', if_pos (by omega)]
    by_cases h : leapY y
    · rw [decide_eq_true h, iteB_t, grd_t _ hg, if_pos h]; rfl
    · rw [decide_eq_false h, iteB_f, grd_t _ hg, if_neg h]; rfl
  · rw [show ((i : Int) + 1 == 2) = false by rw [beq_eq_false_iff_ne]; exact h3, iteB_f, grd_t _ hg, if_neg h3]
    by_cases h4 : i = 3 ∨ i = 5 ∨ i = 8 ∨ i = 10
    · rw [if_neg (by omega), if_pos h4, if_pos (by omega)]
    · rw [if_neg (by omega), if_neg h4, if_neg (by omega)]
theorem beqI (a b : Int) : (a == b) = decide (a = b) := rfl
theorem rDays_eq (n : Nat) (y m : Int) : F28 n y m = some (daysOf y m) := by
  unfold F28 F28_J1 F28_J2 daysOf
  simp only [rLeap_eq, bind_some', beqI]
  by_cases hr : m < 1 ∨ m > 12
  · rw [if_pos hr]
    have q : ∀ k : Int, 1 ≤ k → k ≤ 12 → decide (m = k) = false := fun k h1 h2 => decide_eq_false (by omega)
    simp only [q 1 (by omega) (by omega), q 2 (by omega) (by omega), q 3 (by omega) (by omega), q 4 (by omega) (by omega), q 5 (by omega) (by omega), q 6 (by omega) (by omega), q 7 (by omega) (by omega), q 8 (by omega) (by omega), q 9 (by omega) (by omega), q 10 (by omega) (by omega), q 11 (by omega) (by omega), q 12 (by omega) (by omega), iteB_f]
  · rw [if_neg hr]
    obtain h | h | h | h | h | h | h | h | h | h | h | h : m = 1 ∨ m = 2 ∨ m = 3 ∨ m = 4 ∨ m = 5 ∨ m = 6 ∨ m = 7 ∨ m = 8 ∨ m = 9 ∨ m = 10 ∨ m = 11 ∨ m = 12 := by omega
    all_goals subst h
    all_goals first
      | rfl
      | (by_cases h : leapY y
         · simp [h, iteB]
         · simp [h, iteB])
theorem ahead_eq (n : Nat) {y : Int} (h : 1 ≤ y) (h2 : y ≤ 100000) : F45 n y = some (aheadY y) := by
  unfold F45 aheadY
  rw [w64 (n := y - 1) (by omega), w64 (n := (y - 1) * 365) (by omega), tdiv_nn 4 (by omega), tdiv_nn 100 (by omega), tdiv_nn 400 (by omega), w64 (n := (y - 1) / 4) (by omega), w64 (n := (y - 1) / 100) (by omega), w64 (n := (y - 1) / 400) (by omega)]
  rw [w64 (n := (y - 1) * 365 + (y - 1) / 4) (by omega), w64 (n := (y - 1) * 365 + (y - 1) / 4 - (y - 1) / 100) (by omega), w64 (by omega)]
theorem in_eq (n : Nat) (a b c : Int) : F66 n a b c = some (decide (b ≤ a ∧ a ≤ c)) := by
  unfold F66
  by_cases h : b ≤ a
  · rw [decide_eq_true h, iteB_t]; congr 1; simp [h]
  · rw [decide_eq_false h, iteB_f]; congr 1; symm; rw [decide_eq_false_iff_not]; omega
theorem rin_eq (n : Nat) (a b c : Int) : F68 n a b c = some (decide (b ≤ a ∧ a ≤ c)) := in_eq n a b c
theorem right_eq (n : Nat) (t : Tm) : F46 n t = some (decide (rT t)) := by
  obtain ⟨Y, M, D, h, m, s⟩ := t
  unfold F46 rT rightT
  simp only [in_eq, Days_eq, bind_some']
  by_cases h1 : 1 ≤ Y ∧ Y ≤ 9999 <;> by_cases h2 : 1 ≤ D ∧ D ≤ daysOf Y M <;> by_cases h3 : 0 ≤ h ∧ h ≤ 23 <;> by_cases h4 : 0 ≤ m ∧ m ≤ 59 <;> simp [h1, h2, h3, h4, iteB]
theorem rRight_eq (n : Nat) (t : Tm) : F52 n t = some (decide (rT t)) := by
  obtain ⟨Y, M, D, h, m, s⟩ := t
  have hp := @days_pos Y M
  unfold F52 rT rightT
  simp only [rin_eq, rDays_eq, bind_some']
  by_cases h0 : 1 ≤ M ∧ M ≤ 12
  · by_cases h1 : 1 ≤ Y ∧ Y ≤ 9999 <;> by_cases h2 : 1 ≤ D ∧ D ≤ daysOf Y M <;> by_cases h3 : 0 ≤ h ∧ h ≤ 23 <;> by_cases h4 : 0 ≤ m ∧ m ≤ 59 <;> simp [h0, h1, h2, h3, h4, iteB]
  · have hn : ¬ (1 ≤ D ∧ D ≤ daysOf Y M) := fun e => h0 (hp (by omega))
    by_cases h1 : 1 ≤ Y ∧ Y ≤ 9999 <;> simp [h0, h1, hn, iteB]
theorem ev_day_loop (t : Tm) (j : Nat) (hj : j ≤ 11) (hM : t.2.1 = (j : Int) + 1) : ∀ (d i : Nat) (x : Int), i + d = j → -1000000000 ≤ x → x ≤ 1000000000 + 31 * i →
    Ev (fun k => F47_L1 k t x ((i : Int) + 1)) (x + cumM t.1 j - cumM t.1 i) := by
  intro d
  induction d with
  | zero =>
    intro i x hi h0 h1
    obtain rfl : i = j := by omega
    refine Ev.step (Ev.pure.congr fun k => ?_)
    rw [F47_L1, decide_eq_false (by omega), iteB_f]
    congr 1; omega
  | succ d ih =>
    intro i x hi h0 h1
    have hb := days_bd t.1 ((i : Int) + 1)
    have e := ih (i + 1) (x + daysOf t.1 ((i : Int) + 1)) (by omega) (by omega) (by omega)
    rw [cumM] at e
    rw [show x + cumM t.1 j - cumM t.1 i = x + daysOf t.1 (↑i + 1) + cumM t.1 j - (cumM t.1 i + daysOf t.1 (↑i + 1)) by omega]
    refine Ev.step (e.congr fun k => ?_)
    rw [F47_L1, decide_eq_true (by omega), iteB_t, Days_eq, bind_some', w64 (n := x + daysOf t.1 ((i : Int) + 1)) (by omega), w64 (n := (i : Int) + 1 + 1) (by omega)]
    rfl
theorem ev_day {t : Tm} (hY : 1 ≤ t.1 ∧ t.1 ≤ 9999) (hM : 1 ≤ t.2.1 ∧ t.2.1 ≤ 12) (hD : 0 ≤ t.2.2.1 ∧ t.2.2.1 ≤ 1000) : Ev (fun k => F47 k t) (dayN t.1 t.2.1 t.2.2.1) := by
  have ha0 := ahead_mono hY.1
  have ha1 := ahead_mono hY.2
  rw [show aheadY 1 = 0 by decide] at ha0
  rw [show aheadY 9999 = 3651694 by decide] at ha1
  obtain ⟨j, hj⟩ : ∃ j : Nat, t.2.1 = j + 1 := ⟨(t.2.1 - 1).toNat, by omega⟩
  have e := ev_day_loop t j (by omega) hj j 0 (aheadY t.1 + t.2.2.1 - 1) (by omega) (by omega) (by omega)
  rw [show ((0 : Nat) : Int) + 1 = 1 by rfl, show cumM t.1 0 = 0 from rfl] at e
  unfold dayN
  rw [hj, show ((j : Int) + 1 - 1).toNat = j by omega, show aheadY t.1 + cumM t.1 j + t.2.2.1 - 1 = aheadY t.1 + t.2.2.1 - 1 + cumM t.1 j - 0 by omega]
  refine e.congr fun k => ?_
  rw [F47, ahead_eq k hY.1 (by omega), bind_some', w64 (n := aheadY t.1 + t.2.2.1) (by omega), w64 (n := aheadY t.1 + t.2.2.1 - 1) (by omega)]
theorem right_month' {t : Tm} (hr : rT t) : 1 ≤ t.2.1 ∧ t.2.1 ≤ 12 := right_month hr
def secT (t : Tm) : Int := (dayN t.1 t.2.1 t.2.2.1 - 719162) * 86400 + t.2.2.2.1 * 3600 + t.2.2.2.2.1 * 60 + t.2.2.2.2.2
def secR (t : Tm) : Int × Bool := if rT t then (secT t, true) else (0, false)
def weekT (t : Tm) : Int := if rT t then (dayN t.1 t.2.1 t.2.2.1 + 1) % 7 else -1
theorem tm_eta (t : Tm) : (t.1, t.2.1, t.2.2.1, t.2.2.2.1, t.2.2.2.2.1, t.2.2.2.2.2) = t := rfl
theorem rT_bd {t : Tm} (hr : rT t) : (1 ≤ t.1 ∧ t.1 ≤ 9999) ∧ (1 ≤ t.2.2.1 ∧ t.2.2.1 ≤ 31) ∧ (0 ≤ t.2.2.2.1 ∧ t.2.2.2.1 ≤ 23) ∧ (0 ≤ t.2.2.2.2.1 ∧ t.2.2.2.2.1 ≤ 59) ∧ (0 ≤ t.2.2.2.2.2 ∧ t.2.2.2.2.2 ≤ 59) ∧ (0 ≤ dayN t.1 t.2.1 t.2.2.1 ∧ dayN t.1 t.2.1 t.2.2.1 ≤ 3652058) := by
  have hb := (right_IsT hr).bd
  have hd := days_bd t.1 t.2.1
  unfold rT rightT at hr
  omega
theorem ev_Seconds (t : Tm) : Ev (fun k => F18 k t) (secR t) := by
  unfold secR
  by_cases hr : rT t
  · rw [if_pos hr]
    obtain ⟨h1, h2, h3, h4, h5, h6⟩ := rT_bd hr
    have hd := ev_day h1 (right_month' hr) (by omega)
    refine Ev.congr (Ev.bind (g := fun k v => some (IntKind.wrap .i64 (IntKind.wrap .i64 (IntKind.wrap .i64 (IntKind.wrap .i64 (IntKind.wrap .i64 (v - 719162) * 86400) + IntKind.wrap .i64 (t.2.2.2.1 * 3600)) + IntKind.wrap .i64 (t.2.2.2.2.1 * 60)) + t.2.2.2.2.2), true)) hd (r := (secT t, true)) (Ev.const ?_)) fun k => ?_
    · unfold secT
      generalize dayN t.1 t.2.1 t.2.2.1 = N at *
      rw [w64 (n := N - 719162) (by omega), w64 (n := (N - 719162) * 86400) (by omega), w64 (n := t.2.2.2.1 * 3600) (by omega), w64 (n := t.2.2.2.2.1 * 60) (by omega), w64 (n := (N - 719162) * 86400 + t.2.2.2.1 * 3600) (by omega), w64 (n := (N - 719162) * 86400 + t.2.2.2.1 * 3600 + t.2.2.2.2.1 * 60) (by omega), w64 (n := (N - 719162) * 86400 + t.2.2.2.1 * 3600 + t.2.2.2.2.1 * 60 + t.2.2.2.2.2) (by omega)]
    · rw [F18, tm_eta, right_eq, bind_some', decide_eq_true hr]; rfl
  · rw [if_neg hr]
    refine Ev.pure.congr fun k => ?_
    rw [F18, tm_eta, right_eq, bind_some', decide_eq_false hr]; rfl
theorem ev_Weekday (t : Tm) : Ev (fun k => F14 k t) (weekT t) := by
  unfold weekT
  by_cases hr : rT t
  · rw [if_pos hr]
    obtain ⟨h1, h2, h3, h4, h5, h6⟩ := rT_bd hr
    have hd := ev_day h1 (right_month' hr) (by omega)
    refine Ev.congr (Ev.bind (g := fun k v => some ((IntKind.wrap .i64 (v + 1)).tmod 7)) hd (Ev.const ?_)) fun k => ?_
    · rw [w64 (by omega), tmod_nn 7 (by omega)]
    · rw [F14, tm_eta, right_eq, bind_some', decide_eq_true hr]; rfl
  · rw [if_neg hr]
    refine Ev.pure.congr fun k => ?_
    rw [F14, tm_eta, right_eq, bind_some', decide_eq_false hr]; rfl
end Go.Proofs.YtdfghdppbfabfaaX

/- The time of any seconds, and the seconds of any time: the program's and the reference's. -/
set_option linter.unusedVariables false
set_option linter.unusedSimpArgs false
namespace Go.Proofs.YtdfghdppbfabfaaX
open Go

theorem ev_Of_month (Y Y' D h m s : Int) (hY : 1 ≤ Y) : ∀ (d i : Nat) (x : Int), i + d = 12 → 0 ≤ x → x + cumM Y i < lenY Y →
    ∃ M E : Int, (1 ≤ M ∧ M ≤ 12) ∧ (1 ≤ E ∧ E ≤ daysOf Y M) ∧ cumM Y (M - 1).toNat + E - 1 = x + cumM Y i ∧
      Ev (fun k => F13_L3 k Y x Y' ((i : Int) + 1) D h m s) ((Y', M, E, h, m, s), true) ∧
      (Y' = Y → Ev (fun k => F17_L4 k x Y ((i : Int) + 1) D h m s) ((Y', M, E, h, m, s), true)) := by
  intro d
  induction d with
  | zero =>
    intro i x hi h0 h1
    obtain rfl : i = 12 := by omega
    rw [cum_12] at h1
    omega
  | succ d ih =>
    intro i x hi h0 h1
    have hb := days_bd Y ((i : Int) + 1)
    have hl := lenY_bd Y
    have hc := cum_bd Y (show i ≤ 12 by omega)
    by_cases hx : daysOf Y ((i : Int) + 1) ≤ x
    · obtain ⟨M, E, hM, hE, hn, e, e'⟩ := ih (i + 1) (x - daysOf Y ((i : Int) + 1)) (by omega) (by omega) (by rw [cum_step]; omega)
      refine ⟨M, E, hM, hE, by rw [hn, cum_step]; omega, ?_, fun hyy => ?_⟩
      · refine Ev.step (e.congr fun k => ?_)
        rw [F13_L3, Days_eq, bind_some', decide_eq_true hx, iteB_t, bind_some', w64 (n := x - daysOf Y ((i : Int) + 1)) (by omega), w64 (n := (i : Int) + 1 + 1) (by omega)]; rfl
      · refine Ev.step ((e' hyy).congr fun k => ?_)
        rw [F17_L4, rDays_eq, bind_some', decide_eq_true hx, iteB_t, bind_some', w64 (n := x - daysOf Y ((i : Int) + 1)) (by omega), w64 (n := (i : Int) + 1 + 1) (by omega)]; rfl
    · refine ⟨(i : Int) + 1, x + 1, by omega, by omega, ?_, ?_, fun hyy => ?_⟩
      · rw [show ((i : Int) + 1 - 1).toNat = i by omega]; omega
      · refine Ev.step (Ev.pure.congr fun k => ?_)
        rw [F13_L3, Days_eq, bind_some', decide_eq_false hx, iteB_f, w64 (n := x + 1) (by omega)]
      · refine Ev.step (Ev.pure.congr fun k => ?_)
        rw [F17_L4, rDays_eq, bind_some', decide_eq_false hx, iteB_f, w64 (n := x + 1) (by omega), hyy]
theorem ev_Of_year (q rest : Int) (h0 : 0 ≤ q + 719162) (h1 : q + 719162 < 3652059) (hr : 0 ≤ rest ∧ rest < 86400) : ∀ (d : Nat) (Y : Int), Y + d = 10000 → 1 ≤ Y → aheadY Y ≤ q + 719162 →
    ∃ Z M E : Int, IsT (q + 719162) Z M E ∧ Ev (fun k => F13_L2 k q rest Y) ((Z, M, E, rest / 3600, rest % 3600 / 60, rest % 60), true) := by
  intro d
  have hw : IntKind.wrap .i64 (q + 719162) = q + 719162 := w64 (by omega)
  induction d with
  | zero =>
    intro Y hd hY ha
    obtain rfl : Y = 10000 := by omega
    rw [show aheadY 10000 = 3652059 by decide] at ha
    omega
  | succ d ih =>
    intro Y hd hY ha
    have hs := ahead_succ hY
    by_cases hn : aheadY (Y + 1) ≤ q + 719162
    · obtain ⟨Z, M, E, hi, e⟩ := ih (Y + 1) (by omega) (by omega) hn
      refine ⟨Z, M, E, hi, Ev.step (e.congr fun k => ?_)⟩
      rw [F13_L2, w64 (n := Y + 1) (by omega), ahead_eq k (by omega) (by omega), bind_some', hw, decide_eq_true hn, iteB_t]
    · obtain ⟨M, E, hM, hE, hm, e, _⟩ := ev_Of_month Y Y 0 (rest / 3600) (rest % 3600 / 60) (rest % 60) hY 12 0 (q + 719162 - aheadY Y) (by omega) (by omega) (by rw [show cumM Y 0 = 0 from rfl]; omega)
      refine ⟨Y, M, E, IsT.mk' ⟨hY, by omega⟩ hM hE hm rfl, ?_⟩
      have hq := ahead_mono hY
      rw [show aheadY 1 = 0 by decide] at hq
      refine Ev.step (e.congr fun k => ?_)
      rw [F13_L2, w64 (n := Y + 1) (by omega), ahead_eq k (by omega) (by omega), bind_some', hw, decide_eq_false hn, iteB_f, ahead_eq k (by omega) (by omega), bind_some', w64 (n := q + 719162 - aheadY Y) (by omega), tdiv_nn 3600 (by omega), tmod_nn 3600 (by omega), tmod_nn 60 (by omega), tdiv_nn 60 (by omega), w64 (n := rest / 3600) (by omega), w64 (n := rest % 3600 / 60) (by omega)]
      rfl
def ofS (sec : Int) (t : Tm × Bool) : Prop :=
  if -62135596800 ≤ sec ∧ sec ≤ 253402300799 then ∃ Y M D : Int, IsT (sec / 86400 + 719162) Y M D ∧ t = ((Y, M, D, sec % 86400 / 3600, sec % 86400 % 3600 / 60, sec % 86400 % 60), true)
  else t = ((0, 0, 0, 0, 0, 0), false)
theorem ofS_one {sec : Int} {t u : Tm × Bool} (h : ofS sec t) (k : ofS sec u) : t = u := by
  unfold ofS at h k
  split at h
  · rename_i hb
    rw [if_pos hb] at k
    obtain ⟨Y, M, D, h1, rfl⟩ := h
    obtain ⟨Y', M', D', h2, rfl⟩ := k
    obtain ⟨rfl, rfl, rfl⟩ := h1.one h2
    rfl
  · rename_i hb
    rw [if_neg hb] at k
    rw [h, k]
theorem ev_Of_j (q rest sec : Int) (hq : q = sec / 86400) (hr : rest = sec % 86400) (hw : -9223372036854775808 ≤ sec ∧ sec ≤ 9223372036854775807) : ∃ t, ofS sec t ∧ Ev (fun k => F13_J1 k q rest) t := by
  unfold ofS
  have ha : ∀ k, F45 k 10000 = some 3652059 := fun k => by rw [ahead_eq k (by omega) (by omega)]; rfl
  have hv : IntKind.wrap .i64 (3652059 - 719162) = 2932897 := w64 (by omega)
  by_cases hb : -62135596800 ≤ sec ∧ sec ≤ 253402300799
  · obtain ⟨l0, l1, l2⟩ := year_least (q + 719162) (by omega) (by omega)
    obtain ⟨Y, M, E, hi, e⟩ := ev_Of_year q rest (by omega) (by omega) (by omega) (10000 - ((q + 719162) / 146097 * 400 + (q + 719162) % 146097 / 366 + 1)).toNat _ (by omega) l0 l2
    refine ⟨_, by rw [if_pos hb]; exact ⟨Y, M, E, by rw [← hq]; exact hi, by rw [← hr]⟩, ?_⟩
    refine e.congr fun k => ?_
    rw [F13_J1, decide_eq_false (by omega), iteB_f, ha, bind_some', hv, decide_eq_false (by omega), iteB_f, w64 (n := q + 719162) (by omega), tdiv_nn 146097 (by omega), tmod_nn 146097 (by omega), tdiv_nn 366 (by omega), w64 (n := (q + 719162) / 146097) (by omega), w64 (n := (q + 719162) / 146097 * 400) (by omega), w64 (n := (q + 719162) % 146097 / 366) (by omega), w64 (n := (q + 719162) / 146097 * 400 + (q + 719162) % 146097 / 366) (by omega), w64 (n := (q + 719162) / 146097 * 400 + (q + 719162) % 146097 / 366 + 1) (by omega)]
  · refine ⟨_, by rw [if_neg hb], ?_⟩
    refine Ev.pure.congr fun k => ?_
    rw [F13_J1]
    by_cases hn : q < -719162
    · rw [decide_eq_true hn, iteB_t]
    · rw [decide_eq_false hn, iteB_f, ha, bind_some', hv, decide_eq_true (by omega), iteB_t]
theorem ev_Of (sec : Int) (hw : -9223372036854775808 ≤ sec ∧ sec ≤ 9223372036854775807) : ∃ t, ofS sec t ∧ Ev (fun k => F13 k sec) t := by
  rcases tdm sec with ⟨h1, h2, h3⟩ | ⟨h1, h2, h3⟩
  · obtain ⟨t, ht, e⟩ := ev_Of_j (Int.tdiv sec 86400 - 1) (Int.tmod sec 86400 + 86400) sec h2 h3 hw
    refine ⟨t, ht, e.congr fun k => ?_⟩
    rw [F13, decide_eq_true h1, iteB_t, w64 (n := Int.tdiv sec 86400) (by omega), w64 (n := Int.tdiv sec 86400 - 1) (by omega), w64 (n := Int.tmod sec 86400 + 86400) (by omega)]
  · obtain ⟨t, ht, e⟩ := ev_Of_j (Int.tdiv sec 86400) (Int.tmod sec 86400) sec h2 h3 hw
    refine ⟨t, ht, e.congr fun k => ?_⟩
    rw [F13, decide_eq_false (by omega), iteB_f, w64 (n := Int.tdiv sec 86400) (by omega)]
/-! ### The reference's -/
theorem ev_rOf_up (N h m s : Int) (h0 : 0 ≤ N) (h1 : N < 3652059) : ∀ (d : Nat) (Y : Int), Y + d = 10000 → 1 ≤ Y → aheadY Y ≤ N →
    ∃ Z M E : Int, IsT N Z M E ∧ Ev (fun k => F17_L3 k (N - aheadY Y) Y 1 1 h m s) ((Z, M, E, h, m, s), true) := by
  intro d
  induction d with
  | zero =>
    intro Y hd hY ha
    obtain rfl : Y = 10000 := by omega
    rw [show aheadY 10000 = 3652059 by decide] at ha
    omega
  | succ d ih =>
    intro Y hd hY ha
    have hs := ahead_succ hY
    have hq := ahead_mono hY
    rw [show aheadY 1 = 0 by decide] at hq
    have hl := lenY_bd Y
    by_cases hn : lenY Y ≤ N - aheadY Y
    · obtain ⟨Z, M, E, hi, e⟩ := ih (Y + 1) (by omega) (by omega) (by omega)
      refine ⟨Z, M, E, hi, Ev.step (e.congr fun k => ?_)⟩
      rw [F17_L3, length_eq, bind_some', decide_eq_true hn, iteB_t, bind_some', w64 (n := N - aheadY Y - lenY Y) (by omega), w64 (n := Y + 1) (by omega), hs]
      congr 1; omega
    · obtain ⟨M, E, hM, hE, hm, _, e⟩ := ev_Of_month Y Y 1 h m s hY 12 0 (N - aheadY Y) (by omega) (by omega) (by rw [show cumM Y 0 = 0 from rfl]; omega)
      refine ⟨Y, M, E, IsT.mk' ⟨hY, by omega⟩ hM hE hm rfl, Ev.step ((e rfl).congr fun k => ?_)⟩
      rw [F17_L3, length_eq, bind_some', decide_eq_false hn, iteB_f]; rfl
theorem ev_rOf_down (N h m s : Int) (h0 : 0 ≤ N) (h1 : N < 3652059) : ∀ (d : Nat) (Y : Int), Y = d + 1 → Y ≤ 1970 →
    ∃ Z M E : Int, IsT N Z M E ∧ Ev (fun k => F17_L2 k (N - aheadY Y) Y 1 1 h m s) ((Z, M, E, h, m, s), true) := by
  intro d
  induction d with
  | zero =>
    intro Y hY hb
    obtain rfl : Y = 1 := by omega
    obtain ⟨Z, M, E, hi, e⟩ := ev_rOf_up N h m s h0 h1 9999 1 (by omega) (by omega) (by rw [show aheadY 1 = 0 by decide]; omega)
    refine ⟨Z, M, E, hi, Ev.step (e.congr fun k => ?_)⟩
    rw [F17_L2, decide_eq_false (by rw [show aheadY 1 = 0 by decide]; omega), iteB_f]
  | succ d ih =>
    intro Y hY hb
    have hs := ahead_succ (y := Y - 1) (by omega)
    rw [show Y - 1 + 1 = Y by omega] at hs
    have hl := lenY_bd (Y - 1)
    have hq := ahead_mono (show (1 : Int) ≤ Y by omega)
    have hq2 := ahead_mono hb
    rw [show aheadY 1 = 0 by decide] at hq
    rw [show aheadY 1970 = 719162 by decide] at hq2
    by_cases hn : N - aheadY Y < 0
    · obtain ⟨Z, M, E, hi, e⟩ := ih (Y - 1) (by omega) (by omega)
      refine ⟨Z, M, E, hi, Ev.step (e.congr fun k => ?_)⟩
      rw [F17_L2, decide_eq_true hn, iteB_t, w64 (n := Y - 1) (by omega), length_eq, bind_some', w64 (n := N - aheadY Y + lenY (Y - 1)) (by omega)]
      congr 1; omega
    · obtain ⟨Z, M, E, hi, e⟩ := ev_rOf_up N h m s h0 h1 (10000 - Y).toNat Y (by omega) (by omega) (by omega)
      refine ⟨Z, M, E, hi, Ev.step (e.congr fun k => ?_)⟩
      rw [F17_L2, decide_eq_false hn, iteB_f]
theorem ev_rOf_j (q rest sec : Int) (hq : q = sec / 86400) (hr : rest = sec % 86400) (hb : -62135596800 ≤ sec ∧ sec ≤ 253402300799) : ∃ t, ofS sec t ∧ Ev (fun k => F17_J1 k q rest) t := by
  unfold ofS
  obtain ⟨Y, M, E, hi, e⟩ := ev_rOf_down (q + 719162) (rest / 3600) (rest / 60 % 60) (rest % 60) (by omega) (by omega) 1969 1970 (by omega) (by omega)
  rw [show aheadY 1970 = 719162 by decide] at e
  refine ⟨_, by rw [if_pos hb]; exact ⟨Y, M, E, by rw [← hq]; exact hi, by rw [← hr]⟩, ?_⟩
  rw [show rest % 3600 / 60 = rest / 60 % 60 by omega]
  refine e.congr fun k => ?_
  rw [F17_J1, tdiv_nn 3600 (by omega), tdiv_nn 60 (by omega), w64 (n := rest / 3600) (by omega), w64 (n := rest / 60) (by omega), tmod_nn 60 (by omega), tmod_nn 60 (by omega)]
  congr 1; omega
theorem ev_rOf (sec : Int) (hw : -9223372036854775808 ≤ sec ∧ sec ≤ 9223372036854775807) : ∃ t, ofS sec t ∧ Ev (fun k => F17 k sec) t := by
  by_cases hb : -62135596800 ≤ sec ∧ sec ≤ 253402300799
  · rcases tdm sec with ⟨h1, h2, h3⟩ | ⟨h1, h2, h3⟩
    · obtain ⟨t, ht, e⟩ := ev_rOf_j (Int.tdiv sec 86400 - 1) (Int.tmod sec 86400 + 86400) sec h2 h3 hb
      refine ⟨t, ht, e.congr fun k => ?_⟩
      rw [F17, decide_eq_false (by omega), iteB_f, decide_eq_false (by omega), iteB_f, decide_eq_true h1, iteB_t, w64 (n := Int.tdiv sec 86400) (by omega), w64 (n := Int.tdiv sec 86400 - 1) (by omega), w64 (n := Int.tmod sec 86400 + 86400) (by omega)]
    · obtain ⟨t, ht, e⟩ := ev_rOf_j (Int.tdiv sec 86400) (Int.tmod sec 86400) sec h2 h3 hb
      refine ⟨t, ht, e.congr fun k => ?_⟩
      rw [F17, decide_eq_false (by omega), iteB_f, decide_eq_false (by omega), iteB_f, decide_eq_false (by omega), iteB_f, w64 (n := Int.tdiv sec 86400) (by omega)]
  · refine ⟨_, by unfold ofS; rw [if_neg hb], Ev.pure.congr fun k => ?_⟩
    rw [F17]
    by_cases h1 : sec < -62135596800
    · rw [decide_eq_true h1, iteB_t]
    · rw [decide_eq_false h1, iteB_f, decide_eq_true (by omega), iteB_t]
/-! ### Seconds -/
theorem ev_rS3 (t : Tm) (hr : rT t) (j : Nat) (hj : j ≤ 11) (hM : t.2.1 = (j : Int) + 1) : ∀ (d i : Nat) (x : Int), i + d = j → -10000000 ≤ x → x ≤ 10000000 + 31 * i →
    Ev (fun k => F19_L3 k t x ((i : Int) + 1)) ((x + cumM t.1 j - cumM t.1 i) * 86400 + t.2.2.2.1 * 3600 + t.2.2.2.2.1 * 60 + t.2.2.2.2.2, true) := by
  intro d
  obtain ⟨h1, h2, h3, h4, h5, h6⟩ := rT_bd hr
  induction d with
  | zero =>
    intro i x hi h0 hx
    obtain rfl : i = j := by omega
    refine Ev.step (Ev.pure.congr fun k => ?_)
    rw [F19_L3, decide_eq_false (by omega), iteB_f, w64 (n := x * 86400) (by omega), w64 (n := t.2.2.2.1 * 3600) (by omega), w64 (n := t.2.2.2.2.1 * 60) (by omega), w64 (n := x * 86400 + t.2.2.2.1 * 3600) (by omega), w64 (n := x * 86400 + t.2.2.2.1 * 3600 + t.2.2.2.2.1 * 60) (by omega), w64 (n := x * 86400 + t.2.2.2.1 * 3600 + t.2.2.2.2.1 * 60 + t.2.2.2.2.2) (by omega)]
    rw [show x + cumM t.1 i - cumM t.1 i = x by omega]
  | succ d ih =>
    intro i x hi h0 hx
    have hb := days_bd t.1 ((i : Int) + 1)
    have e := ih (i + 1) (x + daysOf t.1 ((i : Int) + 1)) (by omega) (by omega) (by omega)
    rw [cumM] at e
    rw [show x + cumM t.1 j - cumM t.1 i = x + daysOf t.1 (↑i + 1) + cumM t.1 j - (cumM t.1 i + daysOf t.1 (↑i + 1)) by omega]
    refine Ev.step (e.congr fun k => ?_)
    rw [F19_L3, decide_eq_true (by omega), iteB_t, rDays_eq, bind_some', w64 (n := x + daysOf t.1 ((i : Int) + 1)) (by omega), w64 (n := (i : Int) + 1 + 1) (by omega)]
    rfl
def sec3 (t : Tm) (x : Int) : Int × Bool := ((x + cumM t.1 (t.2.1 - 1).toNat) * 86400 + t.2.2.2.1 * 3600 + t.2.2.2.2.1 * 60 + t.2.2.2.2.2, true)
theorem ev_rS3' (t : Tm) (hr : rT t) (x : Int) (h0 : -10000000 ≤ x) (h1 : x ≤ 10000000) : Ev (fun k => F19_L3 k t x 1) (sec3 t x) := by
  have hm := right_month' hr
  obtain ⟨j, hj⟩ : ∃ j : Nat, t.2.1 = j + 1 := ⟨(t.2.1 - 1).toNat, by omega⟩
  have e := ev_rS3 t hr j (by omega) hj j 0 x (by omega) h0 (by omega)
  unfold sec3
  rw [hj, show ((j : Int) + 1 - 1).toNat = j by omega]
  rw [show cumM t.1 0 = 0 from rfl, show x + cumM t.1 j - 0 = x + cumM t.1 j by omega] at e
  exact e
theorem ev_rS2 (t : Tm) (hr : rT t) : ∀ (d : Nat) (y x : Int), y + d = 1970 → 1 ≤ y → -5000000 + 366 * d ≤ x → x ≤ 5000000 → Ev (fun k => F19_L2 k t x y) (sec3 t (x - (719162 - aheadY y))) := by
  intro d
  induction d with
  | zero =>
    intro y x hy h1 h2 h3
    obtain rfl : y = 1970 := by omega
    rw [show aheadY 1970 = 719162 by decide, show x - (719162 - 719162) = x by omega]
    refine Ev.step ((ev_rS3' t hr x (by omega) (by omega)).congr fun k => ?_)
    rw [F19_L2, decide_eq_false (by omega), iteB_f]
  | succ d ih =>
    intro y x hy h1 h2 h3
    have hs := ahead_succ h1
    have hl := lenY_bd y
    have e := ih (y + 1) (x - lenY y) (by omega) (by omega) (by omega) (by omega)
    rw [show x - lenY y - (719162 - aheadY (y + 1)) = x - (719162 - aheadY y) by omega] at e
    refine Ev.step (e.congr fun k => ?_)
    rw [F19_L2, decide_eq_true (by omega), iteB_t, length_eq, bind_some', w64 (n := x - lenY y) (by omega), w64 (n := y + 1) (by omega)]
theorem ev_rS1 (t : Tm) (hr : rT t) : ∀ (d : Nat) (y x : Int), y + d = t.1 → 1970 ≤ y → 0 ≤ x → x + 366 * d ≤ 4000000 → Ev (fun k => F19_L1 k t x y) (sec3 t (x + aheadY t.1 - aheadY y)) := by
  intro d
  induction d with
  | zero =>
    intro y x hy h1 h2 h3
    obtain rfl : y = t.1 := by omega
    rw [show x + aheadY t.1 - aheadY t.1 = x by omega]
    refine Ev.step (Ev.congr (g := fun k => F19_L2 k t x t.1) (Ev.step ((ev_rS3' t hr x (by omega) (by omega)).congr fun k => ?_)) fun k => ?_)
    · rw [F19_L2, decide_eq_false (by omega), iteB_f]
    · rw [F19_L1, decide_eq_false (by omega), iteB_f]
  | succ d ih =>
    intro y x hy h1 h2 h3
    have hs := ahead_succ (y := y) (by omega)
    have hl := lenY_bd y
    obtain ⟨g1, _⟩ := rT_bd hr
    have e := ih (y + 1) (x + lenY y) (by omega) (by omega) (by omega) (by omega)
    rw [show x + lenY y + aheadY t.1 - aheadY (y + 1) = x + aheadY t.1 - aheadY y by omega] at e
    refine Ev.step (e.congr fun k => ?_)
    rw [F19_L1, decide_eq_true (by omega), iteB_t, length_eq, bind_some', w64 (n := x + lenY y) (by omega), w64 (n := y + 1) (by omega)]
theorem ev_rSeconds (t : Tm) : Ev (fun k => F19 k t) (secR t) := by
  unfold secR
  by_cases hr : rT t
  · rw [if_pos hr]
    obtain ⟨h1, h2, h3, h4, h5, h6⟩ := rT_bd hr
    have hw : IntKind.wrap .i64 (t.2.2.1 - 1) = t.2.2.1 - 1 := w64 (by omega)
    have hres : sec3 t (t.2.2.1 - 1 + aheadY t.1 - 719162) = (secT t, true) := by
      unfold sec3 secT dayN
      congr 1
      rw [show t.2.2.1 - 1 + aheadY t.1 - 719162 + cumM t.1 (t.2.1 - 1).toNat = aheadY t.1 + cumM t.1 (t.2.1 - 1).toNat + t.2.2.1 - 1 - 719162 by omega]
    have main : Ev (fun k => F19_L1 k t (t.2.2.1 - 1) 1970) (secT t, true) := by
      rw [← hres]
      by_cases hy : 1970 ≤ t.1
      · have e := ev_rS1 t hr (t.1 - 1970).toNat 1970 (t.2.2.1 - 1) (by omega) (by omega) (by omega) (by omega)
        rw [show aheadY 1970 = 719162 by decide] at e
        exact e
      · have e := ev_rS2 t hr (1970 - t.1).toNat t.1 (t.2.2.1 - 1) (by omega) (by omega) (by omega) (by omega)
        rw [show t.2.2.1 - 1 - (719162 - aheadY t.1) = t.2.2.1 - 1 + aheadY t.1 - 719162 by omega] at e
        refine Ev.step (e.congr fun k => ?_)
        rw [F19_L1, decide_eq_false (by omega), iteB_f]
    refine main.congr fun k => ?_
    rw [F19, tm_eta, rRight_eq, bind_some', decide_eq_true hr, hw]; rfl
  · rw [if_neg hr]
    refine Ev.pure.congr fun k => ?_
    rw [F19, tm_eta, rRight_eq, bind_some', decide_eq_false hr]; rfl
theorem tdm7 (x : Int) (h : -9000000 ≤ x ∧ x ≤ 9000000) : (if x.tmod 7 < 0 then IntKind.wrap .i64 (x.tmod 7 + 7) else x.tmod 7) = x % 7 := by
  by_cases hx : 0 ≤ x
  · rw [tmod_nn 7 hx, if_neg (by omega)]
  · have e2 : Int.tmod x 7 = -((-x) % 7) := by rw [← tmod_nn 7 (show 0 ≤ -x by omega), Int.neg_tmod, Int.neg_neg]
    rw [e2]
    split
    · rw [w64 (by omega)]; omega
    · omega
theorem ev_rWeekday (t : Tm) : Ev (fun k => F20 k t) (weekT t) := by
  unfold weekT
  obtain ⟨N, hN⟩ := ev_rSeconds t
  refine ⟨N, fun n hn => ?_⟩
  have hS : F19 n t = some (secR t) := hN n hn
  show F20 n t = _
  rw [F20, tm_eta, hS, bind_some']
  unfold secR
  by_cases hr : rT t
  · rw [if_pos hr, if_pos hr]
    obtain ⟨h1, h2, h3, h4, h5, h6⟩ := rT_bd hr
    have key : ∀ x : Int, -9000000 ≤ x ∧ x ≤ 9000000 → F20_J1 n (x.tmod 7) = some (x % 7) := by
      intro x hx
      rw [← tdm7 x hx, F20_J1]
      by_cases h : x.tmod 7 < 0
      · rw [decide_eq_true h, iteB_t, if_pos h]
      · rw [decide_eq_false h, iteB_f, if_neg h]
    show iteB (!true) _ _ = _
    rw [Bool.not_true, iteB_f]
    dsimp only
    have hs : secT t / 86400 = dayN t.1 t.2.1 t.2.2.1 - 719162 := by unfold secT; omega
    have hsb : -62135596800 ≤ secT t ∧ secT t ≤ 253402300799 := by unfold secT; omega
    rcases tdm (secT t) with ⟨k1, k2, k3⟩ | ⟨k1, k2, k3⟩
    · rw [decide_eq_true k1, iteB_t, w64 (n := Int.tdiv (secT t) 86400) (by omega), w64 (n := Int.tdiv (secT t) 86400 + 3) (by omega), key _ (by omega)]
      congr 1; omega
    · rw [decide_eq_false (by omega), iteB_f, w64 (n := Int.tdiv (secT t) 86400) (by omega), w64 (n := Int.tdiv (secT t) 86400 + 4) (by omega), key _ (by omega)]
      congr 1; omega
  · rw [if_neg hr, if_neg hr]; rfl
end Go.Proofs.YtdfghdppbfabfaaX

/- hex.Decimal: what it answers. -/
set_option linter.unusedVariables false
set_option linter.unusedSimpArgs false
namespace Go.Proofs.YtdfghdppbfabfaaX
open Go

/-- The digits of a number, the last one first. -/
def dgR (n : Nat) : List Int := if n < 10 then [48 + (n : Int)] else (48 + ((n % 10 : Nat) : Int)) :: dgR (n / 10)
theorem dgR_lt {n : Nat} (h : n < 10) : dgR n = [48 + (n : Int)] := by rw [dgR, if_pos h]
theorem dgR_ge {n : Nat} (h : ¬ n < 10) : dgR n = (48 + ((n % 10 : Nat) : Int)) :: dgR (n / 10) := by rw [dgR, if_neg h]
theorem dgR_len : ∀ (k n : Nat), n < 10 ^ (k + 1) → (dgR n).length ≤ k + 1
  | 0, n, h => by rw [dgR_lt (by omega)]; simp
  | k + 1, n, h => by
    by_cases h1 : n < 10
    · rw [dgR_lt h1]; simp
    · rw [dgR_ge h1, List.length_cons]
      have := dgR_len k (n / 10) (by rw [Nat.pow_succ] at h; omega)
      omega
theorem dgR_pos (n : Nat) : 0 < (dgR n).length := by
  by_cases h : n < 10
  · rw [dgR_lt h]; simp
  · rw [dgR_ge h]; simp
/-- A number's text. -/
def decI (n : Int) : List Int := (if n < 0 then dgR n.natAbs ++ [45] else dgR n.natAbs).reverse
def decT (n : Int) : List UInt8 := (decI n).map toB

def rvI (l0 : List Int) (i : Nat) (l : List Int) : Prop := l.length = l0.length ∧ ∀ k, k < l0.length → l.getD k 0 = if k < i ∨ l0.length - i ≤ k then l0.getD (l0.length - 1 - k) 0 else l0.getD k 0
theorem rv_end {l0 l : List Int} {i : Nat} (h : rvI l0 i l) (hi : l0.length ≤ 2 * i + 1) : l = l0.reverse := by
  obtain ⟨h1, h2⟩ := h
  apply List.ext_getElem
  · rw [h1, List.length_reverse]
  · intro k hk1 hk2
    have hk : k < l0.length := by omega
    have h3 := h2 k hk
    rw [List.getD_eq_getElem?_getD, List.getElem?_eq_getElem hk1] at h3
    rw [List.getElem_reverse]
    rw [show l[k] = (some l[k]).getD 0 from rfl, h3]
    split
    · rw [List.getD_eq_getElem?_getD, List.getElem?_eq_getElem (by omega)]; rfl
    · have e : l0.length - 1 - k = k := by omega
      rw [List.getD_eq_getElem?_getD, List.getElem?_eq_getElem (by omega)]
      simp only [e]; rfl
theorem rv_step {l0 l : List Int} {i j : Nat} (h : rvI l0 i l) (hj : i + j + 1 = l0.length) (hij : i < j) : rvI l0 (i + 1) ((l.set i (l.getD j 0)).set j (l.getD i 0)) := by
  obtain ⟨h1, h2⟩ := h
  refine ⟨by simp [h1], fun k hk => ?_⟩
  have gi := h2 i (by omega)
  have gj := h2 j (by omega)
  rw [if_neg (by omega)] at gi gj
  rw [List.getD_eq_getElem?_getD, List.getElem?_set]
  by_cases hkj : j = k
  · subst hkj
    rw [if_pos rfl, List.length_set, if_pos (by omega), Option.getD_some, gi, if_pos (by omega), show l0.length - 1 - j = i by omega]
  · rw [if_neg hkj, List.getElem?_set]
    by_cases hki : i = k
    · subst hki
      rw [if_pos rfl, if_pos (by omega), Option.getD_some, gj, if_pos (by omega), show l0.length - 1 - i = j by omega]
    · rw [if_neg hki, ← List.getD_eq_getElem?_getD, h2 k hk]
      by_cases hc : k < i ∨ l0.length - i ≤ k
      · rw [if_pos hc, if_pos (by omega)]
      · rw [if_neg hc, if_neg (by omega)]
theorem ev_rev (l0 : List Int) (hl : l0.length ≤ 1000) : ∀ (d i : Nat) (l : List Int), l0.length ≤ 2 * i + d → i ≤ l0.length → rvI l0 i l →
    Ev (fun n => F67_L4 n (i : Int) ((l0.length : Int) - 1 - i) l) (l0.reverse.map toB) := by
  intro d
  induction d with
  | zero =>
    intro i l hd hi h
    refine Ev.step (Ev.pure.congr fun n => ?_)
    have d1 : decide ((i : Int) < (l0.length : Int) - 1 - i) = false := decide_eq_false (by omega)
    simp only [F67_L4, d1, iteB_f]
    rw [rv_end h (by omega)]
  | succ d ih =>
    intro i l hd hi h
    refine Ev.step ?_
    by_cases hlt : (i : Int) < (l0.length : Int) - 1 - i
    · obtain ⟨j, hj⟩ : ∃ j : Nat, (l0.length : Int) - 1 - i = j := ⟨((l0.length : Int) - 1 - i).toNat, by omega⟩
      have d1 : decide ((i : Int) < (j : Int)) = true := decide_eq_true (by omega)
      have hll := h.1
      have w1 : IntKind.wrap .i64 ((i : Int) + 1) = ((i + 1 : Nat) : Int) := by rw [w64 (by omega)]; omega
      have w2 : IntKind.wrap .i64 ((j : Int) - 1) = (l0.length : Int) - 1 - ((i + 1 : Nat) : Int) := by rw [w64 (by omega)]; omega
      have e := ih (i + 1) _ (by omega) (by omega) (rv_step (j := j) h (by omega) (by omega))
      rw [hj]
      refine e.congr fun n => ?_
      simp only [F67_L4, d1, iteB_t, toNat_nat, w1, w2]
      have g1 : (0 ≤ (j : Int) ∧ (j : Int) < (l.length : Int)) := by omega
      have g2 : (0 ≤ (i : Int) ∧ (i : Int) < (l.length : Int)) := by omega
      have g3 : j < l.length := by omega
      have g4 : i < l.length := by omega
      rw [grd_t _ g1, grd_t _ g3, grd_t _ g2, grd_t _ g4, grd_t _ g2, grd_t _ g4, grd_t _ g1, grd_t _ g3]
      rfl
    · refine Ev.pure.congr fun n => ?_
      have d1 : decide ((i : Int) < (l0.length : Int) - 1 - i) = false := decide_eq_false hlt
      simp only [F67_L4, d1, iteB_f]
      rw [rv_end h (by omega)]
theorem ev_J3 (l : List Int) (h0 : 0 < l.length) (hl : l.length ≤ 1000) : Ev (fun n => F67_J3 n l) (l.reverse.map toB) := by
  have w1 : IntKind.wrap .i64 ((l.length : Int) - 1) = (l.length : Int) - 1 - ((0 : Nat) : Int) := by rw [w64 (by omega)]; omega
  refine (ev_rev l hl l.length 0 l (by omega) (by omega) ⟨rfl, fun k hk => by rw [if_neg (by omega)]⟩).congr fun n => ?_
  simp only [F67_J3, w1]; rfl
theorem digitAt (r : Nat) (h : r < 10) : ((([48, 49, 50, 51, 52, 53, 54, 55, 56, 57, 97, 98, 99, 100, 101, 102] : List UInt8).getD r 0).toNat : Int) = 48 + r := by
  have : ∀ r : Fin 10, ((([48, 49, 50, 51, 52, 53, 54, 55, 56, 57, 97, 98, 99, 100, 101, 102] : List UInt8).getD r.val 0).toNat : Int) = 48 + r.val := by decide
  exact this ⟨r, h⟩
theorem ev_digs (a : Int) : ∀ (k m : Nat) (l : List Int), m < 10 ^ (k + 1) → m < 10000000000000000000 → l.length + k ≤ 100 → Ev (fun n => F67_L2 n a (m : Int) l) ((if a < 0 then l ++ dgR m ++ [45] else l ++ dgR m).reverse.map toB) := by
  intro k
  induction k with
  | zero =>
    intro m l hm hb hl
    have hm' : m < 10 := by omega
    refine Ev.step ?_
    have e1 : (m : Int).tmod 10 = m := by rw [Int.tmod_eq_emod_of_nonneg (by omega)]; omega
    have e2 : (m : Int).tdiv 10 = 0 := by rw [Int.tdiv_eq_ediv_of_nonneg (by omega)]; omega
    have e3 : (IntKind.wrap .u64 0 == (0 : Int)) = true := by rw [wu64 (by omega)]; rfl
    rw [dgR_lt hm']
    by_cases ha : a < 0
    · rw [if_pos ha]
      refine (ev_J3 (l ++ [48 + (m : Int)] ++ [45]) (by simp) (by simp; omega)).congr fun n => ?_
      simp only [F67_L2, e1, e2, e3, toNat_nat, digitAt m hm', decide_eq_true ha, iteB_t]
      rw [grd_t _ (by omega), grd_t _ (by omega), grd_t _ (by omega)]
    · rw [if_neg ha]
      refine (ev_J3 (l ++ [48 + (m : Int)]) (by simp) (by simp; omega)).congr fun n => ?_
      simp only [F67_L2, e1, e2, e3, toNat_nat, digitAt m hm', decide_eq_false ha, iteB_t, iteB_f]
      rw [grd_t _ (by omega), grd_t _ (by omega)]
  | succ k ih =>
    intro m l hm hb hl
    by_cases hm' : m < 10
    · have := ih m l (by have : 10 ^ 1 ≤ 10 ^ (k + 1) := Nat.pow_le_pow_right (by omega) (by omega); omega) hb (by omega)
      exact this
    refine Ev.step ?_
    have e1 : (m : Int).tmod 10 = ((m % 10 : Nat) : Int) := by rw [Int.tmod_eq_emod_of_nonneg (by omega)]; omega
    have e2 : (m : Int).tdiv 10 = ((m / 10 : Nat) : Int) := by rw [Int.tdiv_eq_ediv_of_nonneg (by omega)]; omega
    have e4 : IntKind.wrap .u64 ((m / 10 : Nat) : Int) = ((m / 10 : Nat) : Int) := wu64 (by omega)
    have e3 : (((m / 10 : Nat) : Int) == (0 : Int)) = false := by rw [beq_eq_false_iff_ne]; omega
    have := ih (m / 10) (l ++ [48 + ((m % 10 : Nat) : Int)]) (by rw [Nat.pow_succ] at hm; omega) (by omega) (by simp; omega)
    rw [dgR_ge hm']
    rw [show (if a < 0 then l ++ (48 + ((m % 10 : Nat) : Int)) :: dgR (m / 10) ++ [45] else l ++ (48 + ((m % 10 : Nat) : Int)) :: dgR (m / 10)) = (if a < 0 then l ++ [48 + ((m % 10 : Nat) : Int)] ++ dgR (m / 10) ++ [45] else l ++ [48 + ((m % 10 : Nat) : Int)] ++ dgR (m / 10)) by simp]
    refine this.congr fun n => ?_
    simp only [F67_L2, e1, e2, e4, e3, toNat_nat, digitAt (m % 10) (by omega), iteB_f]
    rw [grd_t _ (by omega), grd_t _ (by omega)]
theorem ev_Decimal (a : Int) (h : -9223372036854775808 ≤ a ∧ a ≤ 9223372036854775807) : Ev (fun n => F67 n a) (decT a) := by
  have hd := ev_digs a 19 a.natAbs [] (by omega) (by omega) (by simp)
  simp only [List.nil_append] at hd
  unfold decT decI
  refine hd.congr fun n => ?_
  have hw : ∀ x : Int, IntKind.wrap .u64 x = x % 18446744073709551616 := fun x => rfl
  by_cases ha : a < 0
  · have e : IntKind.wrap .u64 (0 - IntKind.wrap .u64 a) = (a.natAbs : Int) := by rw [hw, hw]; omega
    simp only [F67, F67_J1, decide_eq_true ha, iteB_t, e]
  · have e : IntKind.wrap .u64 a = (a.natAbs : Int) := by rw [hw]; omega
    simp only [F67, F67_J1, decide_eq_false ha, iteB_f, e]
end Go.Proofs.YtdfghdppbfabfaaX

/- The calendar: its texts. -/
set_option linter.unusedVariables false
set_option linter.unusedSimpArgs false
namespace Go.Proofs.YtdfghdppbfabfaaX
open Go

def numL : Nat → Nat → List UInt8
  | 0, _ => []
  | k + 1, n => numL k (n / 10) ++ [toB (48 + ((n % 10 : Nat) : Int))]
theorem numL_len : ∀ (k n : Nat), (numL k n).length = k
  | 0, n => rfl
  | k + 1, n => by rw [numL, List.length_append, numL_len k]; rfl
theorem numL_zero : ∀ k : Nat, numL k 0 = List.replicate k 48
  | 0 => rfl
  | k + 1 => by rw [numL, Nat.zero_div, numL_zero k, List.replicate_succ']; rfl
theorem numL_dec : ∀ (k n : Nat), n < 10 ^ k → 1 ≤ k → numL k n = List.replicate (k - (dgR n).length) 48 ++ (dgR n).reverse.map toB
  | 0, n, h, h1 => by omega
  | k + 1, n, h, h1 => by
    by_cases hn : n < 10
    · rw [numL, show n / 10 = 0 by omega, show n % 10 = n by omega, numL_zero, dgR_lt hn]; rfl
    · have hk : 1 ≤ k := by
        rcases Nat.eq_zero_or_pos k with rfl | hk
        · omega
        · exact hk
      have ih := numL_dec k (n / 10) (by rw [Nat.pow_succ] at h; omega) hk
      rw [numL, ih, dgR_ge hn, List.reverse_cons, List.map_append, List.length_cons, Nat.add_sub_add_right, List.append_assoc]; rfl
theorem dig10 (r : Nat) (h : r < 10) : ((([48, 49, 50, 51, 52, 53, 54, 55, 56, 57] : List UInt8).take (r + 1)).drop r) = [toB (48 + (r : Int))] := by
  have : ∀ r : Fin 10, ((([48, 49, 50, 51, 52, 53, 54, 55, 56, 57] : List UInt8).take (r.val + 1)).drop r.val) = [toB (48 + (r.val : Int))] := by decide
  exact this ⟨r, h⟩
theorem ev_number_l (w : Nat) (hw : w ≤ 100) : ∀ (d i n : Nat) (s : List UInt8), i + d = w → n < 1000000 → s.length ≤ i → Ev (fun k => F53_L1 k (w : Int) (n : Int) s (i : Int)) (numL d n ++ s) := by
  intro d
  induction d with
  | zero =>
    intro i n s hi hn hs
    refine Ev.step (Ev.pure.congr fun k => ?_)
    rw [F53_L1, decide_eq_false (by omega), iteB_f]; rfl
  | succ d ih =>
    intro i n s hi hn hs
    have e1 : ((n : Int)).tmod 10 = ((n % 10 : Nat) : Int) := by rw [tmod_nn 10 (by omega)]; omega
    have e2 : ((n : Int)).tdiv 10 = ((n / 10 : Nat) : Int) := by rw [tdiv_nn 10 (by omega)]; omega
    have e3 : IntKind.wrap .i64 (((n % 10 : Nat) : Int) + 1) = ((n % 10 + 1 : Nat) : Int) := by rw [w64 (by omega)]; omega
    have e4 : IntKind.wrap .i64 ((n / 10 : Nat) : Int) = ((n / 10 : Nat) : Int) := w64 (by omega)
    have e5 : IntKind.wrap .i64 ((i : Int) + 1) = ((i + 1 : Nat) : Int) := by rw [w64 (by omega)]; omega
    have e := ih (i + 1) (n / 10) (toB (48 + ((n % 10 : Nat) : Int)) :: s) (by omega) (by omega) (by rw [List.length_cons]; omega)
    rw [numL, List.append_assoc]
    refine Ev.step (e.congr fun k => ?_)
    rw [F53_L1, decide_eq_true (by omega), iteB_t, e1, e2, e3, e4, e5, toNat_nat, toNat_nat, grd_t _ (by omega), dig10 _ (by omega), grd_t _ (by rw [List.length_cons]; simp only [List.length_nil]; omega)]
    rfl
theorem ev_number (a : Int) (w : Nat) (hw : w ≤ 100) (ha : 0 ≤ a ∧ a < 1000000) : Ev (fun k => F53 k a (w : Int)) (numL w a.toNat) := by
  have e := ev_number_l w hw w 0 a.toNat [] (by omega) (by omega) (by simp)
  rw [List.append_nil, show ((a.toNat : Nat) : Int) = a by omega] at e
  exact e.congr fun k => rfl
theorem ev_pad (w : Nat) (hw : w ≤ 100) : ∀ (d : Nat) (s : List UInt8), s.length + d = w → Ev (fun k => F50_L1 k (w : Int) s) (List.replicate d 48 ++ s) := by
  intro d
  induction d with
  | zero =>
    intro s hs
    refine Ev.step (Ev.pure.congr fun k => ?_)
    rw [F50_L1, decide_eq_false (by omega), iteB_f]; rfl
  | succ d ih =>
    intro s hs
    have e := ih (48 :: s) (by rw [List.length_cons]; omega)
    rw [List.replicate_succ', List.append_assoc]
    refine Ev.step (e.congr fun k => ?_)
    rw [F50_L1, decide_eq_true (by omega), iteB_t, grd_t _ (by omega)]; rfl
theorem ev_digits (a : Int) (w : Nat) (hw : 1 ≤ w ∧ w ≤ 6) (h0 : 0 ≤ a) (h1 : a.toNat < 10 ^ w) : Ev (fun k => F50 k a (w : Int)) (numL w a.toNat) := by
  have hp : 10 ^ w ≤ 10 ^ 6 := Nat.pow_le_pow_right (by omega) hw.2
  have e1 : decT a = (dgR a.toNat).reverse.map toB := by
    unfold decT decI
    rw [if_neg (by omega), show a.natAbs = a.toNat by omega]
  have hl : (decT a).length ≤ w := by
    rw [e1, List.length_map, List.length_reverse]
    obtain ⟨k, rfl⟩ : ∃ k, w = k + 1 := ⟨w - 1, by omega⟩
    exact dgR_len k _ h1
  have e2 := ev_pad w (by omega) (w - (decT a).length) (decT a) (by omega)
  have e3 : List.replicate (w - (decT a).length) 48 ++ decT a = numL w a.toNat := by
    rw [numL_dec w _ h1 hw.1, e1, List.length_map, List.length_reverse]
  rw [e3] at e2
  exact (Ev.bind (g := fun k v => F50_L1 k (w : Int) v) (ev_Decimal a (by omega)) e2).congr fun k => rfl
def nmI (s : List UInt8) (v : Int) : List UInt8 := (s.take (3 * v + 3).toNat).drop (3 * v).toNat
theorem nmI_len (s : List UInt8) (v : Int) (h : 0 ≤ v) : (nmI s v).length ≤ 3 := by
  unfold nmI
  rw [List.length_drop, List.length_take]; omega
theorem name_eq (n : Nat) (s : List UInt8) (v : Int) (h : 0 ≤ v ∧ v ≤ 100) (hs : 3 * v + 3 ≤ s.length) : F49 n s v = some (nmI s v) := by
  unfold nmI
  rw [F49, w64 (n := v + 1) (by omega), w64 (n := 3 * v) (by omega), w64 (n := 3 * (v + 1)) (by omega), show 3 * (v + 1) = 3 * v + 3 by omega, grd_t _ (by omega)]

def dateT (t : Tm) (a : List UInt8) : List UInt8 := numL 4 t.1.toNat ++ a ++ numL 2 t.2.1.toNat ++ a ++ numL 2 t.2.2.1.toNat
def timeT (t : Tm) (a : List UInt8) : List UInt8 := numL 2 t.2.2.2.1.toNat ++ a ++ numL 2 t.2.2.2.2.1.toNat ++ a ++ numL 2 t.2.2.2.2.2.toNat
def fits (t : Tm) : Prop := (1 ≤ t.1 ∧ t.1 ≤ 9999) ∧ (1 ≤ t.2.1 ∧ t.2.1 ≤ 12) ∧ (1 ≤ t.2.2.1 ∧ t.2.2.1 ≤ 31) ∧ (0 ≤ t.2.2.2.1 ∧ t.2.2.2.1 ≤ 23) ∧ (0 ≤ t.2.2.2.2.1 ∧ t.2.2.2.2.1 ≤ 59) ∧ (0 ≤ t.2.2.2.2.2 ∧ t.2.2.2.2.2 ≤ 59)
theorem rT_fits {t : Tm} (hr : rT t) : fits t := by
  have h1 := rT_bd hr
  have h2 := right_month' hr
  exact ⟨h1.1, h2, h1.2.1, h1.2.2.1, h1.2.2.2.1, h1.2.2.2.2.1⟩
theorem ev_digs6 {t : Tm} (h : fits t) : ∃ N, ∀ n, N ≤ n → F50 n t.1 4 = some (numL 4 t.1.toNat) ∧ F50 n t.2.1 2 = some (numL 2 t.2.1.toNat) ∧ F50 n t.2.2.1 2 = some (numL 2 t.2.2.1.toNat) ∧ F50 n t.2.2.2.1 2 = some (numL 2 t.2.2.2.1.toNat) ∧ F50 n t.2.2.2.2.1 2 = some (numL 2 t.2.2.2.2.1.toNat) ∧ F50 n t.2.2.2.2.2 2 = some (numL 2 t.2.2.2.2.2.toNat) := by
  obtain ⟨h1, h2, h3, h4, h5, h6⟩ := h
  obtain ⟨N1, k1⟩ := ev_digits t.1 4 (by omega) (by omega) (by omega)
  obtain ⟨N2, k2⟩ := ev_digits t.2.1 2 (by omega) (by omega) (by omega)
  obtain ⟨N3, k3⟩ := ev_digits t.2.2.1 2 (by omega) (by omega) (by omega)
  obtain ⟨N4, k4⟩ := ev_digits t.2.2.2.1 2 (by omega) (by omega) (by omega)
  obtain ⟨N5, k5⟩ := ev_digits t.2.2.2.2.1 2 (by omega) (by omega) (by omega)
  obtain ⟨N6, k6⟩ := ev_digits t.2.2.2.2.2 2 (by omega) (by omega) (by omega)
  exact ⟨N1 + N2 + N3 + N4 + N5 + N6, fun n hn => ⟨k1 n (by omega), k2 n (by omega), k3 n (by omega), k4 n (by omega), k5 n (by omega), k6 n (by omega)⟩⟩
theorem ev_nums6 {t : Tm} (h : fits t) : ∃ N, ∀ n, N ≤ n → F53 n t.1 4 = some (numL 4 t.1.toNat) ∧ F53 n t.2.1 2 = some (numL 2 t.2.1.toNat) ∧ F53 n t.2.2.1 2 = some (numL 2 t.2.2.1.toNat) ∧ F53 n t.2.2.2.1 2 = some (numL 2 t.2.2.2.1.toNat) ∧ F53 n t.2.2.2.2.1 2 = some (numL 2 t.2.2.2.2.1.toNat) ∧ F53 n t.2.2.2.2.2 2 = some (numL 2 t.2.2.2.2.2.toNat) := by
  obtain ⟨h1, h2, h3, h4, h5, h6⟩ := h
  obtain ⟨N1, k1⟩ := ev_number t.1 4 (by omega) (by omega)
  obtain ⟨N2, k2⟩ := ev_number t.2.1 2 (by omega) (by omega)
  obtain ⟨N3, k3⟩ := ev_number t.2.2.1 2 (by omega) (by omega)
  obtain ⟨N4, k4⟩ := ev_number t.2.2.2.1 2 (by omega) (by omega)
  obtain ⟨N5, k5⟩ := ev_number t.2.2.2.2.1 2 (by omega) (by omega)
  obtain ⟨N6, k6⟩ := ev_number t.2.2.2.2.2 2 (by omega) (by omega)
  exact ⟨N1 + N2 + N3 + N4 + N5 + N6, fun n hn => ⟨k1 n (by omega), k2 n (by omega), k3 n (by omega), k4 n (by omega), k5 n (by omega), k6 n (by omega)⟩⟩
theorem ev_part {t : Tm} (h : fits t) (a b : List UInt8) (ha : a.length ≤ 1) (hb : b.length ≤ 1) : Ev (fun k => F48 k t a b) (dateT t a, timeT t b) := by
  obtain ⟨N, hN⟩ := ev_digs6 h
  refine ⟨N, fun n hn => ?_⟩
  obtain ⟨k1, k2, k3, k4, k5, k6⟩ := hN n hn
  show F48 n t a b = _
  rw [F48, k1, k2, k3, k4, k5, k6]
  repeat (first | rw [bind_some'] | rw [grd_t _ (by first | omega | (simp only [numL_len]; omega))])
  rfl
def isoT (t : Tm) : List UInt8 := dateT t [45] ++ [84] ++ timeT t [58] ++ [46, 48, 48, 48, 90]
def shortT (t : Tm) : List UInt8 := dateT t [] ++ [84] ++ timeT t [] ++ [90]
def sunL : List UInt8 := [83, 117, 110, 77, 111, 110, 84, 117, 101, 87, 101, 100, 84, 104, 117, 70, 114, 105, 83, 97, 116]
def janL : List UInt8 := 74 :: 97 :: 110 :: 70 :: 101 :: 98 :: 77 :: 97 :: 114 :: 65 :: 112 :: 114 :: 77 :: 97 :: 121 :: 74 :: 117 :: 110 :: 74 :: 117 :: 108 :: 65 :: 117 :: 103 :: 83 :: 101 :: 112 :: 79 :: 99 :: 116 :: 78 :: 111 :: 118 :: 68 :: 101 :: 99 :: ([] : List UInt8)
def webT (t : Tm) : List UInt8 := nmI sunL (weekT t) ++ [44, 32] ++ numL 2 t.2.2.1.toNat ++ [32] ++ nmI janL (t.2.1 - 1) ++ [32] ++ numL 4 t.1.toNat ++ [32] ++ timeT t [58] ++ [32, 71, 77, 84]
theorem dateT_len (t : Tm) (a : List UInt8) (h : a.length ≤ 1) : (dateT t a).length ≤ 10 := by unfold dateT; simp only [List.length_append, numL_len]; omega
theorem timeT_len (t : Tm) (a : List UInt8) (h : a.length ≤ 1) : (timeT t a).length ≤ 8 := by unfold timeT; simp only [List.length_append, numL_len]; omega
def orE (p : Prop) [Decidable p] (l : List UInt8) : List UInt8 := if p then l else []
instance (t : Tm) : Decidable (rT t) := by unfold rT rightT; infer_instance
theorem ev_Iso (t : Tm) : Ev (fun k => F15 k t) (orE (rT t) (isoT t)) := by
  unfold orE
  by_cases hr : rT t
  · rw [if_pos hr]
    obtain ⟨N, hN⟩ := ev_part (rT_fits hr) [45] [58] (by simp) (by simp)
    refine ⟨N, fun n hn => ?_⟩
    have e : F48 n t [45] [58] = some (dateT t [45], timeT t [58]) := hN n hn
    have l1 := dateT_len t [45] (by simp)
    have l2 := timeT_len t [58] (by simp)
    show F15 n t = _
    rw [F15, tm_eta, right_eq, bind_some', decide_eq_true hr, e]
    show iteB (!true) _ _ = _
    rw [Bool.not_true, iteB_f, bind_some', grd_t _ (by dsimp only; omega), grd_t _ (by dsimp only; omega), grd_t _ (by dsimp only; omega)]; rfl
  · rw [if_neg hr]
    refine Ev.pure.congr fun k => ?_
    rw [F15, tm_eta, right_eq, bind_some', decide_eq_false hr]; rfl
theorem ev_Short (t : Tm) : Ev (fun k => F23 k t) (orE (rT t) (shortT t)) := by
  unfold orE
  by_cases hr : rT t
  · rw [if_pos hr]
    obtain ⟨N, hN⟩ := ev_part (rT_fits hr) [] [] (by simp) (by simp)
    refine ⟨N, fun n hn => ?_⟩
    have e : F48 n t [] [] = some (dateT t [], timeT t []) := hN n hn
    have l1 := dateT_len t [] (by simp)
    have l2 := timeT_len t [] (by simp)
    show F23 n t = _
    rw [F23, tm_eta, right_eq, bind_some', decide_eq_true hr, e]
    show iteB (!true) _ _ = _
    rw [Bool.not_true, iteB_f, bind_some', grd_t _ (by dsimp only; omega), grd_t _ (by dsimp only; omega), grd_t _ (by dsimp only; omega)]; rfl
  · rw [if_neg hr]
    refine Ev.pure.congr fun k => ?_
    rw [F23, tm_eta, right_eq, bind_some', decide_eq_false hr]; rfl
theorem weekT_bd {t : Tm} (hr : rT t) : 0 ≤ weekT t ∧ weekT t ≤ 6 := by
  unfold weekT
  rw [if_pos hr]; omega
theorem ev_Web (t : Tm) : Ev (fun k => F16 k t) (orE (rT t) (webT t)) := by
  unfold orE
  by_cases hr : rT t
  · rw [if_pos hr]
    have hf := rT_fits hr
    obtain ⟨N, hN⟩ := ev_part hf [] [58] (by simp) (by simp)
    obtain ⟨N2, hN2⟩ := ev_digs6 hf
    obtain ⟨N3, hN3⟩ := ev_Weekday t
    refine ⟨N + N2 + N3, fun n hn => ?_⟩
    have e : F48 n t [] [58] = some (dateT t [], timeT t [58]) := hN n (by omega)
    have e3 : F14 n t = some (weekT t) := hN3 n (by omega)
    obtain ⟨k1, k2, k3, k4, k5, k6⟩ := hN2 n (by omega)
    have l2 := timeT_len t [58] (by simp)
    have hb := weekT_bd hr
    obtain ⟨f1, f2, f3, f4, f5, f6⟩ := hf
    have n1 := name_eq n sunL (weekT t) (by omega) (by show _ ≤ (21 : Int); omega)
    have n2 := name_eq n janL (t.2.1 - 1) (by omega) (by show _ ≤ (36 : Int); omega)
    have m1 := nmI_len sunL (weekT t) (by omega)
    have m2 := nmI_len janL (t.2.1 - 1) (by omega)
    unfold sunL at n1 m1
    unfold janL at n2 m2
    show F16 n t = _
    rw [F16, tm_eta, right_eq, bind_some', decide_eq_true hr, e]
    show iteB (!true) _ _ = _
    rw [Bool.not_true, iteB_f, bind_some', e3, bind_some', n1, bind_some', k3, k1, w64 (n := t.2.1 - 1) (by omega), n2]
    have q : webT t = nmI [83, 117, 110, 77, 111, 110, 84, 117, 101, 87, 101, 100, 84, 104, 117, 70, 114, 105, 83, 97, 116] (weekT t) ++ [44, 32] ++ numL 2 t.2.2.1.toNat ++ [32] ++ nmI (74 :: 97 :: 110 :: 70 :: 101 :: 98 :: 77 :: 97 :: 114 :: 65 :: 112 :: 114 :: 77 :: 97 :: 121 :: 74 :: 117 :: 110 :: 74 :: 117 :: 108 :: 65 :: 117 :: 103 :: 83 :: 101 :: 112 :: 79 :: 99 :: 116 :: 78 :: 111 :: 118 :: 68 :: 101 :: 99 :: ([] : List UInt8)) (t.2.1 - 1) ++ [32] ++ numL 4 t.1.toNat ++ [32] ++ timeT t [58] ++ [32, 71, 77, 84] := rfl
    rw [q]
    clear q n1 n2 e e3
    generalize nmI [83, 117, 110, 77, 111, 110, 84, 117, 101, 87, 101, 100, 84, 104, 117, 70, 114, 105, 83, 97, 116] (weekT t) = A at *
    generalize nmI (74 :: 97 :: 110 :: 70 :: 101 :: 98 :: 77 :: 97 :: 114 :: 65 :: 112 :: 114 :: 77 :: 97 :: 121 :: 74 :: 117 :: 110 :: 74 :: 117 :: 108 :: 65 :: 117 :: 103 :: 83 :: 101 :: 112 :: 79 :: 99 :: 116 :: 78 :: 111 :: 118 :: 68 :: 101 :: 99 :: ([] : List UInt8)) (t.2.1 - 1) = B at *
    repeat (first | rw [bind_some'] | rw [grd_t _ (by first | omega | (simp only [numL_len]; omega))])
  · rw [if_neg hr]
    refine Ev.pure.congr fun k => ?_
    rw [F16, tm_eta, right_eq, bind_some', decide_eq_false hr]; rfl
theorem ev_rIso (t : Tm) : Ev (fun k => F22 k t) (orE (rT t) (isoT t)) := by
  unfold orE
  by_cases hr : rT t
  · rw [if_pos hr]
    obtain ⟨N, hN⟩ := ev_nums6 (rT_fits hr)
    refine ⟨N, fun n hn => ?_⟩
    obtain ⟨k1, k2, k3, k4, k5, k6⟩ := hN n hn
    show F22 n t = _
    rw [F22, tm_eta, rRight_eq, bind_some', decide_eq_true hr, k1, k2, k3, k4, k5, k6]
    show iteB (!true) _ _ = _
    rw [Bool.not_true, iteB_f]
    repeat (first | rw [bind_some'] | rw [grd_t _ (by first | omega | (simp only [numL_len]; omega))])
    unfold isoT dateT timeT
    simp only [List.append_assoc]
  · rw [if_neg hr]
    refine Ev.pure.congr fun k => ?_
    rw [F22, tm_eta, rRight_eq, bind_some', decide_eq_false hr]; rfl
theorem ev_rShort (t : Tm) : Ev (fun k => F24 k t) (orE (rT t) (shortT t)) := by
  unfold orE
  by_cases hr : rT t
  · rw [if_pos hr]
    obtain ⟨N, hN⟩ := ev_nums6 (rT_fits hr)
    refine ⟨N, fun n hn => ?_⟩
    obtain ⟨k1, k2, k3, k4, k5, k6⟩ := hN n hn
    show F24 n t = _
    rw [F24, tm_eta, rRight_eq, bind_some', decide_eq_true hr, k1, k2, k3, k4, k5, k6]
    show iteB (!true) _ _ = _
    rw [Bool.not_true, iteB_f]
    repeat (first | rw [bind_some'] | rw [grd_t _ (by first | omega | (simp only [numL_len]; omega))])
    unfold shortT dateT timeT
    simp only [List.append_assoc, List.append_nil, List.nil_append]
  · rw [if_neg hr]
    refine Ev.pure.congr fun k => ?_
    rw [F24, tm_eta, rRight_eq, bind_some', decide_eq_false hr]; rfl
theorem ev_rWeb (t : Tm) : Ev (fun k => F21 k t) (orE (rT t) (webT t)) := by
  unfold orE
  by_cases hr : rT t
  · rw [if_pos hr]
    have hf := rT_fits hr
    obtain ⟨N2, hN2⟩ := ev_nums6 hf
    obtain ⟨N3, hN3⟩ := ev_rWeekday t
    refine ⟨N2 + N3, fun n hn => ?_⟩
    have e3 : F20 n t = some (weekT t) := hN3 n (by omega)
    obtain ⟨k1, k2, k3, k4, k5, k6⟩ := hN2 n (by omega)
    have hb := weekT_bd hr
    obtain ⟨f1, f2, f3, f4, f5, f6⟩ := hf
    have m1 := nmI_len sunL (weekT t) (by omega)
    have m2 := nmI_len janL (t.2.1 - 1) (by omega)
    have q1 : ∀ v : Int, ([83, 117, 110, 77, 111, 110, 84, 117, 101, 87, 101, 100, 84, 104, 117, 70, 114, 105, 83, 97, 116] : List UInt8) = sunL := fun _ => rfl
    have q2 : (74 :: 97 :: 110 :: 70 :: 101 :: 98 :: 77 :: 97 :: 114 :: 65 :: 112 :: 114 :: 77 :: 97 :: 121 :: 74 :: 117 :: 110 :: 74 :: 117 :: 108 :: 65 :: 117 :: 103 :: 83 :: 101 :: 112 :: 79 :: 99 :: 116 :: 78 :: 111 :: 118 :: 68 :: 101 :: 99 :: ([] : List UInt8)) = janL := rfl
    have p1 : (sunL.take (3 * weekT t + 3).toNat).drop (3 * weekT t).toNat = nmI sunL (weekT t) := rfl
    have p2 : (janL.take (3 * t.2.1).toNat).drop (3 * t.2.1 - 3).toNat = nmI janL (t.2.1 - 1) := by
      unfold nmI
      rw [show 3 * (t.2.1 - 1) + 3 = 3 * t.2.1 by omega, show 3 * (t.2.1 - 1) = 3 * t.2.1 - 3 by omega]
    show F21 n t = _
    rw [F21, tm_eta, rRight_eq, bind_some', decide_eq_true hr, e3]
    show iteB (!true) _ _ = _
    rw [Bool.not_true, iteB_f, bind_some']
    rw [w64 (n := 3 * weekT t) (by omega), w64 (n := 3 * weekT t + 3) (by omega), w64 (n := 3 * t.2.1) (by omega), w64 (n := 3 * t.2.1 - 3) (by omega), q1 0, q2, p1, p2, k1, k3, k4, k5, k6]
    have q : webT t = nmI sunL (weekT t) ++ [44, 32] ++ numL 2 t.2.2.1.toNat ++ [32] ++ nmI janL (t.2.1 - 1) ++ [32] ++ numL 4 t.1.toNat ++ [32] ++ timeT t [58] ++ [32, 71, 77, 84] := rfl
    rw [q]
    clear q
    have g1 : (0 : Int) ≤ 3 * weekT t ∧ 3 * weekT t ≤ 3 * weekT t + 3 ∧ 3 * weekT t + 3 ≤ 21 := by omega
    have g2 : (0 : Int) ≤ 3 * t.2.1 - 3 ∧ 3 * t.2.1 - 3 ≤ 3 * t.2.1 ∧ 3 * t.2.1 ≤ 36 := by omega
    generalize nmI sunL (weekT t) = A at *
    generalize nmI janL (t.2.1 - 1) = B at *
    rw [grd_t _ g1, grd_t _ g2]
    repeat (first | rw [bind_some'] | rw [grd_t _ (by first | omega | (simp only [numL_len]; omega))])
    unfold timeT
    simp only [List.append_assoc]
  · rw [if_neg hr]
    refine Ev.pure.congr fun k => ?_
    rw [F21, tm_eta, rRight_eq, bind_some', decide_eq_false hr]; rfl
end Go.Proofs.YtdfghdppbfabfaaX

/- The calendar: times that are read, and the law. -/
set_option linter.unusedVariables false
set_option linter.unusedSimpArgs false
namespace Go.Proofs.YtdfghdppbfabfaaX
open Go

theorem toB_dig (r : Nat) (h : r < 10) : ((toB (48 + (r : Int))).toNat : Int) = 48 + r := by
  have : ∀ r : Fin 10, ((toB (48 + (r.val : Int))).toNat : Int) = 48 + r.val := by decide
  exact this ⟨r, h⟩
def decP : List UInt8 → Int → Int × Bool
  | [], n => (n, true)
  | c :: l, n => if kindOf (c.toNat : Int) = 1 then decP l (n * 10 + ((c.toNat : Int) - 48)) else (0, false)
def decR : List UInt8 → Int → Int
  | [], n => n
  | c :: l, n => decR l (n * 10 + (c.toNat : Int) - 48)
theorem kind_dig {c : Int} (h : 48 ≤ c ∧ c ≤ 57) : kindOf c = 1 := by unfold kindOf; rw [if_pos h]
theorem kind_one {c : Int} (h : kindOf c = 1) : 48 ≤ c ∧ c ≤ 57 := by
  unfold kindOf at h
  split at h
  · assumption
  · split at h
    · omega
    · split at h
      · omega
      · split at h <;> omega
theorem decP_num : ∀ (w n : Nat) (rest : List UInt8), n < 10 ^ w → decP (numL w n ++ rest) 0 = decP rest n
  | 0, n, rest, h => by rw [show n = 0 by omega]; rfl
  | w + 1, n, rest, h => by
    have hd : n % 10 < 10 := by omega
    rw [numL, List.append_assoc, decP_num w (n / 10) _ (by rw [Nat.pow_succ] at h; omega), List.cons_append, List.nil_append, decP, toB_dig _ hd, if_pos (kind_dig (by omega))]
    congr 1; omega
theorem decR_num : ∀ (w n : Nat) (rest : List UInt8), n < 10 ^ w → decR (numL w n ++ rest) 0 = decR rest n
  | 0, n, rest, h => by rw [show n = 0 by omega]; rfl
  | w + 1, n, rest, h => by
    have hd : n % 10 < 10 := by omega
    rw [numL, List.append_assoc, decR_num w (n / 10) _ (by rw [Nat.pow_succ] at h; omega), List.cons_append, List.nil_append, decR, toB_dig _ hd]
    congr 1; omega
theorem pow1000 (i : Nat) (h : i ≤ 5) : 1 ≤ (1000 : Int) ^ i ∧ (1000 : Int) ^ i ≤ 1000000000000000 ∧ (1000 : Int) ^ (i + 1) = 1000 ^ i * 1000 := by
  have : i = 0 ∨ i = 1 ∨ i = 2 ∨ i = 3 ∨ i = 4 ∨ i = 5 := by omega
  rcases this with rfl | rfl | rfl | rfl | rfl | rfl <;> decide
theorem ev_dec_l (l : List UInt8) (hl : l.length ≤ 5) : ∀ (d i : Nat) (x : Int), i + d = l.length → -(1000 : Int) ^ i ≤ x ∧ x ≤ (1000 : Int) ^ i → Ev (fun k => F69_L1 k l x (i : Int)) (decP (l.drop i) x) := by
  intro d
  induction d with
  | zero =>
    intro i x hi hx
    rw [List.drop_of_length_le (by omega)]
    refine Ev.step (Ev.pure.congr fun k => ?_)
    rw [F69_L1, decide_eq_false (by omega), iteB_f]; rfl
  | succ d ih =>
    intro i x hi hx
    rw [drop_cons l i 0 (by omega), decP]
    obtain ⟨p1, p2, p3⟩ := pow1000 i (by omega)
    have hb := u8_lt (l.getD i 0)
    have w1 : IntKind.wrap .i64 ((i : Int) + 1) = ((i + 1 : Nat) : Int) := by rw [w64 (by omega)]; omega
    generalize hc : l.getD i 0 = c at *
    by_cases hk : kindOf (c.toNat : Int) = 1
    · rw [if_pos hk]
      have hk' := kind_one hk
      have e := ih (i + 1) (x * 10 + ((c.toNat : Int) - 48)) (by omega) (by rw [p3]; omega)
      refine Ev.step (e.congr fun k => ?_)
      rw [F69_L1, decide_eq_true (by omega), iteB_t, grd_t _ (by omega), toNat_nat, hc, F44, bind_some', hk]
      show iteB false _ _ = _
      rw [iteB_f, grd_t _ (by omega), wu8 (by omega), w64 (n := (c.toNat : Int) - 48) (by omega), w64 (n := x * 10) (by omega), w64 (n := x * 10 + _) (by omega), w1]
    · rw [if_neg hk]
      refine Ev.step (Ev.pure.congr fun k => ?_)
      rw [F69_L1, decide_eq_true (by omega), iteB_t, grd_t _ (by omega), toNat_nat, hc, F44, bind_some', show (kindOf (c.toNat : Int) != 1) = true by rw [bne_iff_ne]; exact hk, iteB_t]
theorem ev_ReadDecimal (l : List UInt8) (h1 : 1 ≤ l.length) (hl : l.length ≤ 5) : Ev (fun k => F69 k l) (decP l 0) := by
  have e := ev_dec_l l hl l.length 0 0 (by omega) (by decide)
  refine e.congr fun k => ?_
  rw [F69, show (l == []) = false by (cases l with | nil => simp at h1 | cons a b => rfl), iteB_f, decide_eq_false (by omega), iteB_f]; rfl
theorem ev_val_l (l : List UInt8) (hl : l.length ≤ 5) : ∀ (d i : Nat) (x : Int), i + d = l.length → -(1000 : Int) ^ i ≤ x ∧ x ≤ (1000 : Int) ^ i → Ev (fun k => F57_L1 k l x (i : Int)) (decR (l.drop i) x) := by
  intro d
  induction d with
  | zero =>
    intro i x hi hx
    rw [List.drop_of_length_le (by omega)]
    refine Ev.step (Ev.pure.congr fun k => ?_)
    rw [F57_L1, decide_eq_false (by omega), iteB_f]; rfl
  | succ d ih =>
    intro i x hi hx
    rw [drop_cons l i 0 (by omega), decR]
    obtain ⟨p1, p2, p3⟩ := pow1000 i (by omega)
    have hb := u8_lt (l.getD i 0)
    have w1 : IntKind.wrap .i64 ((i : Int) + 1) = ((i + 1 : Nat) : Int) := by rw [w64 (by omega)]; omega
    generalize hc : l.getD i 0 = c at *
    have e := ih (i + 1) (x * 10 + (c.toNat : Int) - 48) (by omega) (by rw [p3]; omega)
    refine Ev.step (e.congr fun k => ?_)
    rw [F57_L1, decide_eq_true (by omega), iteB_t, grd_t _ (by omega), toNat_nat, hc, w64 (n := (c.toNat : Int)) (by omega), w64 (n := x * 10) (by omega), w64 (n := x * 10 + _) (by omega), w64 (by omega), w1]
theorem ev_value (l : List UInt8) (hl : l.length ≤ 5) : Ev (fun k => F57 k l) (decR l 0) := by
  have e := ev_val_l l hl l.length 0 0 (by omega) (by decide)
  exact e.congr fun k => rfl
def valP (l : List UInt8) : Int := if (decP l 0).2 = true then (decP l 0).1 else -1
theorem valP_num (w n : Nat) (h : n < 10 ^ w) : valP (numL w n) = n := by
  have e := decP_num w n [] h
  rw [List.append_nil] at e
  unfold valP
  rw [e]; rfl
theorem valR_num (w n : Nat) (h : n < 10 ^ w) : decR (numL w n) 0 = n := by
  have e := decR_num w n [] h
  rw [List.append_nil] at e
  exact e
def cut (s : List UInt8) (a b : Nat) : List UInt8 := (s.take b).drop a
theorem cut_len (s : List UInt8) (a b : Nat) (h : b ≤ s.length) : (cut s a b).length = b - a := by
  unfold cut; rw [List.length_drop, List.length_take]; omega
theorem ev_field (s : List UInt8) (a b : Nat) (h0 : a < b) (h1 : b ≤ a + 5) (h2 : b ≤ s.length) : Ev (fun k => F55 k s (a : Int) (b : Int)) (valP (cut s a b)) := by
  have hl := cut_len s a b h2
  obtain ⟨N, hN⟩ := ev_ReadDecimal (cut s a b) (by omega) (by omega)
  refine ⟨N, fun n hn => ?_⟩
  have e : F69 n (cut s a b) = some (decP (cut s a b) 0) := hN n hn
  show F55 n s (a : Int) (b : Int) = _
  rw [F55, grd_t _ (by omega), toNat_nat, toNat_nat, show (s.take b).drop a = cut s a b from rfl, e, bind_some']
  unfold valP
  cases (decP (cut s a b) 0).2 <;> rfl
def zeroT : Tm × Bool := ((0, 0, 0, 0, 0, 0), false)
theorem kept_eq (n : Nat) (t : Tm) (l s : List UInt8) (hl : l ≠ []) : F56 n t (orE (rT t) l) s = some (if rT t ∧ l = s then (t, true) else zeroT) := by
  unfold orE
  by_cases hr : rT t
  · rw [if_pos hr]
    have e1 : (l == []) = false := by cases l with | nil => exact absurd rfl hl | cons a b => rfl
    by_cases he : l = s
    · rw [if_pos ⟨hr, he⟩, F56, e1, iteB_f, show (l == s) = true by rw [he]; exact beq_self_eq_true s]; rfl
    · rw [if_neg (fun h => he h.2), F56, e1, iteB_f, show (l == s) = false by rw [beq_eq_false_iff_ne]; exact he]; rfl
  · rw [if_neg hr, if_neg (fun h => hr h.1)]; rfl
/-- What the text stands for. -/
def isR (told : Tm → List UInt8) (s : List UInt8) (r : Tm × Bool) : Prop := (∃ t, rT t ∧ told t = s ∧ r = (t, true)) ∨ ((¬ ∃ t, rT t ∧ told t = s) ∧ r = zeroT)
theorem isR_one {told : Tm → List UInt8} {s : List UInt8} (inj : ∀ t u, rT t → rT u → told t = told u → t = u) {a b : Tm × Bool} (ha : isR told s a) (hb : isR told s b) : a = b := by
  rcases ha with ⟨t, h1, h2, rfl⟩ | ⟨h1, rfl⟩
  · rcases hb with ⟨u, k1, k2, rfl⟩ | ⟨k1, rfl⟩
    · rw [inj t u h1 k1 (h2.trans k2.symm)]
    · exact absurd ⟨t, h1, h2⟩ k1
  · rcases hb with ⟨u, k1, k2, rfl⟩ | ⟨k1, rfl⟩
    · exact absurd ⟨u, k1, k2⟩ h1
    · rfl
theorem tm_ext {t u : Tm} (h1 : t.1 = u.1) (h2 : t.2.1 = u.2.1) (h3 : t.2.2.1 = u.2.2.1) (h4 : t.2.2.2.1 = u.2.2.2.1) (h5 : t.2.2.2.2.1 = u.2.2.2.2.1) (h6 : t.2.2.2.2.2 = u.2.2.2.2.2) : t = u := by
  obtain ⟨a, b, c, d, e, f⟩ := t
  obtain ⟨a', b', c', d', e', f'⟩ := u
  dsimp only at *
  rw [h1, h2, h3, h4, h5, h6]
theorem val_eq {s : List UInt8} {w : Nat} {n : Int} {a b : Nat} (h : cut s a b = numL w n.toNat) (h0 : 0 ≤ n) (h1 : n.toNat < 10 ^ w) : valP (cut s a b) = n ∧ decR (cut s a b) 0 = n := by
  rw [h, valP_num w _ h1, valR_num w _ h1]; omega
def tmOf (v : List UInt8 → Int) (s : List UInt8) (a0 b0 a1 b1 a2 b2 a3 b3 a4 b4 a5 b5 : Nat) : Tm := (v (cut s a0 b0), v (cut s a1 b1), v (cut s a2 b2), v (cut s a3 b3), v (cut s a4 b4), v (cut s a5 b5))
def valQ (l : List UInt8) : Int := decR l 0
theorem len2 {l : List UInt8} (h : l.length = 2) : ∃ a b, l = [a, b] := by
  match l, h with
  | [a, b], _ => exact ⟨a, b, rfl⟩
theorem len3 {l : List UInt8} (h : l.length = 3) : ∃ a b c, l = [a, b, c] := by
  match l, h with
  | [a, b, c], _ => exact ⟨a, b, c, rfl⟩
theorem len4 {l : List UInt8} (h : l.length = 4) : ∃ a b c d, l = [a, b, c, d] := by
  match l, h with
  | [a, b, c, d], _ => exact ⟨a, b, c, d, rfl⟩
theorem iso_cuts (t : Tm) : cut (isoT t) 0 4 = numL 4 t.1.toNat ∧ cut (isoT t) 5 7 = numL 2 t.2.1.toNat ∧ cut (isoT t) 8 10 = numL 2 t.2.2.1.toNat ∧ cut (isoT t) 11 13 = numL 2 t.2.2.2.1.toNat ∧ cut (isoT t) 14 16 = numL 2 t.2.2.2.2.1.toNat ∧ cut (isoT t) 17 19 = numL 2 t.2.2.2.2.2.toNat := by
  unfold isoT dateT timeT cut
  obtain ⟨a, b, c, d, e1⟩ := len4 (numL_len 4 t.1.toNat)
  obtain ⟨x1, y1, e2⟩ := len2 (numL_len 2 t.2.1.toNat)
  obtain ⟨x2, y2, e3⟩ := len2 (numL_len 2 t.2.2.1.toNat)
  obtain ⟨x3, y3, e4⟩ := len2 (numL_len 2 t.2.2.2.1.toNat)
  obtain ⟨x4, y4, e5⟩ := len2 (numL_len 2 t.2.2.2.2.1.toNat)
  obtain ⟨x5, y5, e6⟩ := len2 (numL_len 2 t.2.2.2.2.2.toNat)
  rw [e1, e2, e3, e4, e5, e6]
  exact ⟨rfl, rfl, rfl, rfl, rfl, rfl⟩
theorem iso_val {t : Tm} (h : fits t) : tmOf valP (isoT t) 0 4 5 7 8 10 11 13 14 16 17 19 = t ∧ tmOf valQ (isoT t) 0 4 5 7 8 10 11 13 14 16 17 19 = t := by
  obtain ⟨f1, f2, f3, f4, f5, f6⟩ := h
  obtain ⟨c1, c2, c3, c4, c5, c6⟩ := iso_cuts t
  have e1 := val_eq c1 (by omega) (by omega)
  have e2 := val_eq c2 (by omega) (by omega)
  have e3 := val_eq c3 (by omega) (by omega)
  have e4 := val_eq c4 (by omega) (by omega)
  have e5 := val_eq c5 (by omega) (by omega)
  have e6 := val_eq c6 (by omega) (by omega)
  constructor
  · unfold tmOf
    rw [e1.1, e2.1, e3.1, e4.1, e5.1, e6.1]
  · unfold tmOf valQ
    rw [e1.2, e2.2, e3.2, e4.2, e5.2, e6.2]
theorem short_cuts (t : Tm) : cut (shortT t) 0 4 = numL 4 t.1.toNat ∧ cut (shortT t) 4 6 = numL 2 t.2.1.toNat ∧ cut (shortT t) 6 8 = numL 2 t.2.2.1.toNat ∧ cut (shortT t) 9 11 = numL 2 t.2.2.2.1.toNat ∧ cut (shortT t) 11 13 = numL 2 t.2.2.2.2.1.toNat ∧ cut (shortT t) 13 15 = numL 2 t.2.2.2.2.2.toNat := by
  unfold shortT dateT timeT cut
  obtain ⟨a, b, c, d, e1⟩ := len4 (numL_len 4 t.1.toNat)
  obtain ⟨x1, y1, e2⟩ := len2 (numL_len 2 t.2.1.toNat)
  obtain ⟨x2, y2, e3⟩ := len2 (numL_len 2 t.2.2.1.toNat)
  obtain ⟨x3, y3, e4⟩ := len2 (numL_len 2 t.2.2.2.1.toNat)
  obtain ⟨x4, y4, e5⟩ := len2 (numL_len 2 t.2.2.2.2.1.toNat)
  obtain ⟨x5, y5, e6⟩ := len2 (numL_len 2 t.2.2.2.2.2.toNat)
  rw [e1, e2, e3, e4, e5, e6]
  exact ⟨rfl, rfl, rfl, rfl, rfl, rfl⟩
theorem short_val {t : Tm} (h : fits t) : tmOf valP (shortT t) 0 4 4 6 6 8 9 11 11 13 13 15 = t ∧ tmOf valQ (shortT t) 0 4 4 6 6 8 9 11 11 13 13 15 = t := by
  obtain ⟨f1, f2, f3, f4, f5, f6⟩ := h
  obtain ⟨c1, c2, c3, c4, c5, c6⟩ := short_cuts t
  have e1 := val_eq c1 (by omega) (by omega)
  have e2 := val_eq c2 (by omega) (by omega)
  have e3 := val_eq c3 (by omega) (by omega)
  have e4 := val_eq c4 (by omega) (by omega)
  have e5 := val_eq c5 (by omega) (by omega)
  have e6 := val_eq c6 (by omega) (by omega)
  constructor
  · unfold tmOf
    rw [e1.1, e2.1, e3.1, e4.1, e5.1, e6.1]
  · unfold tmOf valQ
    rw [e1.2, e2.2, e3.2, e4.2, e5.2, e6.2]
theorem iso_len (t : Tm) : (isoT t).length = 24 := by unfold isoT dateT timeT; simp only [List.length_append, numL_len]; rfl
theorem short_len (t : Tm) : (shortT t).length = 16 := by unfold shortT dateT timeT; simp only [List.length_append, numL_len]; rfl
theorem isR_of {told : Tm → List UInt8} {s : List UInt8} {u : Tm} (hu : ∀ t, rT t → told t = s → u = t) : isR told s (if rT u ∧ told u = s then (u, true) else zeroT) := by
  by_cases h : rT u ∧ told u = s
  · rw [if_pos h]; exact Or.inl ⟨u, h.1, h.2, rfl⟩
  · rw [if_neg h]
    exact Or.inr ⟨fun ⟨t, h1, h2⟩ => h (by rw [hu t h1 h2]; exact ⟨h1, h2⟩), rfl⟩
theorem ev_fields (s : List UInt8) (a0 b0 a1 b1 a2 b2 a3 b3 a4 b4 a5 b5 : Nat) (h : a0 < b0 ∧ b0 ≤ a0 + 5 ∧ b0 ≤ s.length ∧ a1 < b1 ∧ b1 ≤ a1 + 5 ∧ b1 ≤ s.length ∧ a2 < b2 ∧ b2 ≤ a2 + 5 ∧ b2 ≤ s.length ∧ a3 < b3 ∧ b3 ≤ a3 + 5 ∧ b3 ≤ s.length ∧ a4 < b4 ∧ b4 ≤ a4 + 5 ∧ b4 ≤ s.length ∧ a5 < b5 ∧ b5 ≤ a5 + 5 ∧ b5 ≤ s.length) :
    ∃ N, ∀ n, N ≤ n → F55 n s (a0 : Int) (b0 : Int) = some (valP (cut s a0 b0)) ∧ F55 n s (a1 : Int) (b1 : Int) = some (valP (cut s a1 b1)) ∧ F55 n s (a2 : Int) (b2 : Int) = some (valP (cut s a2 b2)) ∧ F55 n s (a3 : Int) (b3 : Int) = some (valP (cut s a3 b3)) ∧ F55 n s (a4 : Int) (b4 : Int) = some (valP (cut s a4 b4)) ∧ F55 n s (a5 : Int) (b5 : Int) = some (valP (cut s a5 b5)) := by
  obtain ⟨N1, k1⟩ := ev_field s a0 b0 (by omega) (by omega) (by omega)
  obtain ⟨N2, k2⟩ := ev_field s a1 b1 (by omega) (by omega) (by omega)
  obtain ⟨N3, k3⟩ := ev_field s a2 b2 (by omega) (by omega) (by omega)
  obtain ⟨N4, k4⟩ := ev_field s a3 b3 (by omega) (by omega) (by omega)
  obtain ⟨N5, k5⟩ := ev_field s a4 b4 (by omega) (by omega) (by omega)
  obtain ⟨N6, k6⟩ := ev_field s a5 b5 (by omega) (by omega) (by omega)
  exact ⟨N1 + N2 + N3 + N4 + N5 + N6, fun n hn => ⟨k1 n (by omega), k2 n (by omega), k3 n (by omega), k4 n (by omega), k5 n (by omega), k6 n (by omega)⟩⟩
theorem ev_values (s : List UInt8) (a0 b0 a1 b1 a2 b2 a3 b3 a4 b4 a5 b5 : Nat) (h : b0 ≤ a0 + 5 ∧ b0 ≤ s.length ∧ b1 ≤ a1 + 5 ∧ b1 ≤ s.length ∧ b2 ≤ a2 + 5 ∧ b2 ≤ s.length ∧ b3 ≤ a3 + 5 ∧ b3 ≤ s.length ∧ b4 ≤ a4 + 5 ∧ b4 ≤ s.length ∧ b5 ≤ a5 + 5 ∧ b5 ≤ s.length) :
    ∃ N, ∀ n, N ≤ n → F57 n ((s.take b0).drop a0) = some (valQ (cut s a0 b0)) ∧ F57 n ((s.take b1).drop a1) = some (valQ (cut s a1 b1)) ∧ F57 n ((s.take b2).drop a2) = some (valQ (cut s a2 b2)) ∧ F57 n ((s.take b3).drop a3) = some (valQ (cut s a3 b3)) ∧ F57 n ((s.take b4).drop a4) = some (valQ (cut s a4 b4)) ∧ F57 n ((s.take b5).drop a5) = some (valQ (cut s a5 b5)) := by
  have c0 := cut_len s a0 b0 (by omega)
  have c1 := cut_len s a1 b1 (by omega)
  have c2 := cut_len s a2 b2 (by omega)
  have c3 := cut_len s a3 b3 (by omega)
  have c4 := cut_len s a4 b4 (by omega)
  have c5 := cut_len s a5 b5 (by omega)
  obtain ⟨N1, k1⟩ := ev_value (cut s a0 b0) (by omega)
  obtain ⟨N2, k2⟩ := ev_value (cut s a1 b1) (by omega)
  obtain ⟨N3, k3⟩ := ev_value (cut s a2 b2) (by omega)
  obtain ⟨N4, k4⟩ := ev_value (cut s a3 b3) (by omega)
  obtain ⟨N5, k5⟩ := ev_value (cut s a4 b4) (by omega)
  obtain ⟨N6, k6⟩ := ev_value (cut s a5 b5) (by omega)
  exact ⟨N1 + N2 + N3 + N4 + N5 + N6, fun n hn => ⟨k1 n (by omega), k2 n (by omega), k3 n (by omega), k4 n (by omega), k5 n (by omega), k6 n (by omega)⟩⟩
theorem len_no {told : Tm → List UInt8} {s : List UInt8} (m : Nat) (ht : ∀ t, rT t → (told t).length = m) (hs : s.length ≠ m) : isR told s zeroT := Or.inr ⟨fun ⟨t, hr, e⟩ => hs (by rw [← e]; exact ht t hr), rfl⟩
theorem ne_nil {l : List UInt8} {n : Nat} (h : l.length = n + 1) : l ≠ [] := by intro e; rw [e] at h; simp at h
theorem ev_ReadIso (s : List UInt8) : ∃ r, isR isoT s r ∧ Ev (fun k => F31 k s) r := by
  by_cases hs : s.length = 24
  · refine ⟨_, isR_of (u := tmOf valP s 0 4 5 7 8 10 11 13 14 16 17 19) (fun t hr e => by rw [← e]; exact (iso_val (rT_fits hr)).1), ?_⟩
    obtain ⟨N, hN⟩ := ev_fields s 0 4 5 7 8 10 11 13 14 16 17 19 (by omega)
    obtain ⟨M, hM⟩ := ev_Iso (tmOf valP s 0 4 5 7 8 10 11 13 14 16 17 19)
    refine ⟨N + M, fun n hn => ?_⟩
    obtain ⟨k1, k2, k3, k4, k5, k6⟩ := hN n (by omega)
    have k7 := hM n (by omega)
    have k8 := kept_eq n (tmOf valP s 0 4 5 7 8 10 11 13 14 16 17 19) (isoT (tmOf valP s 0 4 5 7 8 10 11 13 14 16 17 19)) s (ne_nil (iso_len _))
    generalize hu : orE (rT (tmOf valP s 0 4 5 7 8 10 11 13 14 16 17 19)) (isoT (tmOf valP s 0 4 5 7 8 10 11 13 14 16 17 19)) = u at *
    generalize hv : (if rT (tmOf valP s 0 4 5 7 8 10 11 13 14 16 17 19) ∧ isoT (tmOf valP s 0 4 5 7 8 10 11 13 14 16 17 19) = s then (tmOf valP s 0 4 5 7 8 10 11 13 14 16 17 19, true) else zeroT) = v at *
    unfold tmOf at k7 k8
    dsimp only at k7
    show F31 n s = _
    have kk1 : F55 n s 0 4 = some (valP (cut s 0 4)) := k1
    have kk2 : F55 n s 5 7 = some (valP (cut s 5 7)) := k2
    have kk3 : F55 n s 8 10 = some (valP (cut s 8 10)) := k3
    have kk4 : F55 n s 11 13 = some (valP (cut s 11 13)) := k4
    have kk5 : F55 n s 14 16 = some (valP (cut s 14 16)) := k5
    have kk6 : F55 n s 17 19 = some (valP (cut s 17 19)) := k6
    rw [F31, show ((s.length : Int) != 24) = false by rw [hs]; rfl, iteB_f, kk1, bind_some', kk2, bind_some', kk3, bind_some', kk4, bind_some', kk5, bind_some', kk6, bind_some', k7, bind_some', k8, bind_some']
  · refine ⟨zeroT, len_no 24 (fun t _ => iso_len t) hs, Ev.pure.congr fun k => ?_⟩
    rw [F31, show ((s.length : Int) != 24) = true by rw [bne_iff_ne]; omega, iteB_t]; rfl
theorem ev_ReadShort (s : List UInt8) : ∃ r, isR shortT s r ∧ Ev (fun k => F33 k s) r := by
  by_cases hs : s.length = 16
  · refine ⟨_, isR_of (u := tmOf valP s 0 4 4 6 6 8 9 11 11 13 13 15) (fun t hr e => by rw [← e]; exact (short_val (rT_fits hr)).1), ?_⟩
    obtain ⟨N, hN⟩ := ev_fields s 0 4 4 6 6 8 9 11 11 13 13 15 (by omega)
    obtain ⟨M, hM⟩ := ev_Short (tmOf valP s 0 4 4 6 6 8 9 11 11 13 13 15)
    refine ⟨N + M, fun n hn => ?_⟩
    obtain ⟨k1, k2, k3, k4, k5, k6⟩ := hN n (by omega)
    have k7 := hM n (by omega)
    have k8 := kept_eq n (tmOf valP s 0 4 4 6 6 8 9 11 11 13 13 15) (shortT (tmOf valP s 0 4 4 6 6 8 9 11 11 13 13 15)) s (ne_nil (short_len _))
    generalize hu : orE (rT (tmOf valP s 0 4 4 6 6 8 9 11 11 13 13 15)) (shortT (tmOf valP s 0 4 4 6 6 8 9 11 11 13 13 15)) = u at *
    generalize hv : (if rT (tmOf valP s 0 4 4 6 6 8 9 11 11 13 13 15) ∧ shortT (tmOf valP s 0 4 4 6 6 8 9 11 11 13 13 15) = s then (tmOf valP s 0 4 4 6 6 8 9 11 11 13 13 15, true) else zeroT) = v at *
    unfold tmOf at k7 k8
    dsimp only at k7
    show F33 n s = _
    have kk1 : F55 n s 0 4 = some (valP (cut s 0 4)) := k1
    have kk2 : F55 n s 4 6 = some (valP (cut s 4 6)) := k2
    have kk3 : F55 n s 6 8 = some (valP (cut s 6 8)) := k3
    have kk4 : F55 n s 9 11 = some (valP (cut s 9 11)) := k4
    have kk5 : F55 n s 11 13 = some (valP (cut s 11 13)) := k5
    have kk6 : F55 n s 13 15 = some (valP (cut s 13 15)) := k6
    rw [F33, show ((s.length : Int) != 16) = false by rw [hs]; rfl, iteB_f, kk1, bind_some', kk2, bind_some', kk3, bind_some', kk4, bind_some', kk5, bind_some', kk6, bind_some', k7, bind_some', k8, bind_some']
  · refine ⟨zeroT, len_no 16 (fun t _ => short_len t) hs, Ev.pure.congr fun k => ?_⟩
    rw [F33, show ((s.length : Int) != 16) = true by rw [bne_iff_ne]; omega, iteB_t]; rfl
theorem told_eq {t : Tm} {l s : List UInt8} {n : Nat} (hs : s.length = n + 1) (x : Tm × Bool) (y : Tm × Bool) : iteB (!(orE (rT t) l == s)) (some x) (some y) = some (if rT t ∧ l = s then y else x) := by
  unfold orE
  by_cases hr : rT t
  · rw [if_pos hr]
    by_cases he : l = s
    · rw [if_pos ⟨hr, he⟩, he, beq_self_eq_true]; rfl
    · rw [if_neg (fun h => he h.2), show (l == s) = false by rw [beq_eq_false_iff_ne]; exact he]; rfl
  · rw [if_neg hr, if_neg (fun h => hr h.1), show (([] : List UInt8) == s) = false by rw [beq_eq_false_iff_ne]; exact fun e => ne_nil hs e.symm]; rfl
theorem ev_rReadIso (s : List UInt8) : ∃ r, isR isoT s r ∧ Ev (fun k => F32 k s) r := by
  by_cases hs : s.length = 24
  · refine ⟨_, isR_of (u := tmOf valQ s 0 4 5 7 8 10 11 13 14 16 17 19) (fun t hr e => by rw [← e]; exact (iso_val (rT_fits hr)).2), ?_⟩
    obtain ⟨N, hN⟩ := ev_values s 0 4 5 7 8 10 11 13 14 16 17 19 (by omega)
    obtain ⟨M, hM⟩ := ev_rIso (tmOf valQ s 0 4 5 7 8 10 11 13 14 16 17 19)
    refine ⟨N + M, fun n hn => ?_⟩
    obtain ⟨k1, k2, k3, k4, k5, k6⟩ := hN n (by omega)
    have k7 := hM n (by omega)
    have k8 := told_eq (t := tmOf valQ s 0 4 5 7 8 10 11 13 14 16 17 19) (l := isoT (tmOf valQ s 0 4 5 7 8 10 11 13 14 16 17 19)) (s := s) hs zeroT (tmOf valQ s 0 4 5 7 8 10 11 13 14 16 17 19, true)
    generalize hu : orE (rT (tmOf valQ s 0 4 5 7 8 10 11 13 14 16 17 19)) (isoT (tmOf valQ s 0 4 5 7 8 10 11 13 14 16 17 19)) = u at *
    generalize hv : (if rT (tmOf valQ s 0 4 5 7 8 10 11 13 14 16 17 19) ∧ isoT (tmOf valQ s 0 4 5 7 8 10 11 13 14 16 17 19) = s then (tmOf valQ s 0 4 5 7 8 10 11 13 14 16 17 19, true) else zeroT) = v at *
    unfold tmOf at k7 k8
    dsimp only at k7
    show F32 n s = _
    rw [F32, show ((s.length : Int) != 24) = false by rw [hs]; rfl, iteB_f, k1, k2, k3, k4, k5, k6]
    repeat (first | rw [bind_some'] | rw [grd_t _ (by omega)])
    rw [k7, bind_some']
    exact k8
  · refine ⟨zeroT, len_no 24 (fun t _ => iso_len t) hs, Ev.pure.congr fun k => ?_⟩
    rw [F32, show ((s.length : Int) != 24) = true by rw [bne_iff_ne]; omega, iteB_t]; rfl
theorem ev_rReadShort (s : List UInt8) : ∃ r, isR shortT s r ∧ Ev (fun k => F34 k s) r := by
  by_cases hs : s.length = 16
  · refine ⟨_, isR_of (u := tmOf valQ s 0 4 4 6 6 8 9 11 11 13 13 15) (fun t hr e => by rw [← e]; exact (short_val (rT_fits hr)).2), ?_⟩
    obtain ⟨N, hN⟩ := ev_values s 0 4 4 6 6 8 9 11 11 13 13 15 (by omega)
    obtain ⟨M, hM⟩ := ev_rShort (tmOf valQ s 0 4 4 6 6 8 9 11 11 13 13 15)
    refine ⟨N + M, fun n hn => ?_⟩
    obtain ⟨k1, k2, k3, k4, k5, k6⟩ := hN n (by omega)
    have k7 := hM n (by omega)
    have k8 := told_eq (t := tmOf valQ s 0 4 4 6 6 8 9 11 11 13 13 15) (l := shortT (tmOf valQ s 0 4 4 6 6 8 9 11 11 13 13 15)) (s := s) hs zeroT (tmOf valQ s 0 4 4 6 6 8 9 11 11 13 13 15, true)
    generalize hu : orE (rT (tmOf valQ s 0 4 4 6 6 8 9 11 11 13 13 15)) (shortT (tmOf valQ s 0 4 4 6 6 8 9 11 11 13 13 15)) = u at *
    generalize hv : (if rT (tmOf valQ s 0 4 4 6 6 8 9 11 11 13 13 15) ∧ shortT (tmOf valQ s 0 4 4 6 6 8 9 11 11 13 13 15) = s then (tmOf valQ s 0 4 4 6 6 8 9 11 11 13 13 15, true) else zeroT) = v at *
    unfold tmOf at k7 k8
    dsimp only at k7
    show F34 n s = _
    rw [F34, show ((s.length : Int) != 16) = false by rw [hs]; rfl, iteB_f, k1, k2, k3, k4, k5, k6]
    repeat (first | rw [bind_some'] | rw [grd_t _ (by omega)])
    rw [k7, bind_some']
    exact k8
  · refine ⟨zeroT, len_no 16 (fun t _ => short_len t) hs, Ev.pure.congr fun k => ?_⟩
    rw [F34, show ((s.length : Int) != 16) = true by rw [bne_iff_ne]; omega, iteB_t]; rfl
end Go.Proofs.YtdfghdppbfabfaaX
