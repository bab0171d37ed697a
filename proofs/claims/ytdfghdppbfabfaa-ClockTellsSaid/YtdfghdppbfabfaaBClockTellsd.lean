/- Part of the proof of ClockTells: walks and plain words, merged. -/
import Derived.Test.YtdfghdppbfabfaaBClockTellsb
import Derived.Test.YtdfghdppbfabfaaBClockTellsc
set_option linter.unusedVariables false
set_option linter.unusedSimpArgs false

set_option linter.unusedVariables false
set_option linter.unusedSimpArgs false
namespace Go.Proofs.YtdfghdppbfabfaaX
open Go Go.RowKit Go.Proofs
set_option maxRecDepth 100000
/-! ### shadowboxref15.Of -/
def F17_S4 (x25 : Int) (x26 : Int) (x27 : Int) (x28 : Int) (x29 : Int) (x30 : Int) (x31 : Int) : St := ⟨[.junk, .junk, .ref 0 0 0 0, .junk, .imm (.int .i64 x25), .junk, .ref 1 0 0 0, .junk, .junk, .junk, .junk, .junk, .junk, .junk, .junk, .junk, .junk, .junk, .junk, .junk, .junk, .junk, .junk, .junk, .junk, .junk, .junk, .junk, .junk, .junk, .junk, .junk, .junk, .junk, .junk, .junk, .junk, .junk, .junk, .junk, .junk, .junk, .junk, .junk, .junk, .junk, .junk, .junk, .junk, .junk, .junk, .junk, .junk, .junk, .junk, .junk, .junk, .junk, .junk, .junk, .junk, .junk, .junk, .junk, .junk, .junk, .junk, .junk, .junk, .junk, .junk, .junk, .junk, .junk, .junk, .junk, .junk, .junk, .junk], [some (.box 34 (.agg [.imm (.int .i64 (0 : Int)), .imm (.int .i64 (0 : Int)), .imm (.int .i64 (0 : Int)), .imm (.int .i64 (0 : Int)), .imm (.int .i64 (0 : Int)), .imm (.int .i64 (0 : Int))]) false), some (.box 34 (.agg [.imm (.int .i64 x26), .imm (.int .i64 x27), .imm (.int .i64 x28), .imm (.int .i64 x29), .imm (.int .i64 x30), .imm (.int .i64 x31)]) false)]⟩
def F17_S3 (x15 : Int) (x16 : Int) (x17 : Int) (x18 : Int) (x19 : Int) (x20 : Int) (x21 : Int) : St := ⟨[.junk, .junk, .ref 0 0 0 0, .junk, .imm (.int .i64 x15), .junk, .ref 1 0 0 0, .junk, .junk, .junk, .junk, .junk, .junk, .junk, .junk, .junk, .junk, .junk, .junk, .junk, .junk, .junk, .junk, .junk, .junk, .junk, .junk, .junk, .junk, .junk, .junk, .junk, .junk, .junk, .junk, .junk, .junk, .junk, .junk, .junk, .junk, .junk, .junk, .junk, .junk, .junk, .junk, .junk, .junk, .junk, .junk, .junk, .junk, .junk, .junk, .junk, .junk, .junk, .junk, .junk, .junk, .junk, .junk, .junk, .junk, .junk, .junk, .junk, .junk, .junk, .junk, .junk, .junk, .junk, .junk, .junk, .junk, .junk, .junk], [some (.box 34 (.agg [.imm (.int .i64 (0 : Int)), .imm (.int .i64 (0 : Int)), .imm (.int .i64 (0 : Int)), .imm (.int .i64 (0 : Int)), .imm (.int .i64 (0 : Int)), .imm (.int .i64 (0 : Int))]) false), some (.box 34 (.agg [.imm (.int .i64 x16), .imm (.int .i64 x17), .imm (.int .i64 x18), .imm (.int .i64 x19), .imm (.int .i64 x20), .imm (.int .i64 x21)]) false)]⟩
def F17_S2 (x6 : Int) (x7 : Int) (x8 : Int) (x9 : Int) (x10 : Int) (x11 : Int) (x12 : Int) : St := ⟨[.junk, .junk, .ref 0 0 0 0, .junk, .imm (.int .i64 x6), .junk, .ref 1 0 0 0, .junk, .junk, .junk, .junk, .junk, .junk, .junk, .junk, .junk, .junk, .junk, .junk, .junk, .junk, .junk, .junk, .junk, .junk, .junk, .junk, .junk, .junk, .junk, .junk, .junk, .junk, .junk, .junk, .junk, .junk, .junk, .junk, .junk, .junk, .junk, .junk, .junk, .junk, .junk, .junk, .junk, .junk, .junk, .junk, .junk, .junk, .junk, .junk, .junk, .junk, .junk, .junk, .junk, .junk, .junk, .junk, .junk, .junk, .junk, .junk, .junk, .junk, .junk, .junk, .junk, .junk, .junk, .junk, .junk, .junk, .junk, .junk], [some (.box 34 (.agg [.imm (.int .i64 (0 : Int)), .imm (.int .i64 (0 : Int)), .imm (.int .i64 (0 : Int)), .imm (.int .i64 (0 : Int)), .imm (.int .i64 (0 : Int)), .imm (.int .i64 (0 : Int))]) false), some (.box 34 (.agg [.imm (.int .i64 x7), .imm (.int .i64 x8), .imm (.int .i64 x9), .imm (.int .i64 x10), .imm (.int .i64 x11), .imm (.int .i64 x12)]) false)]⟩
def F17_S1 (x4 : Int) (x5 : Int) : St := ⟨[.junk, .junk, .ref 0 0 0 0, .junk, .imm (.int .i64 x4), .imm (.int .i64 x5), .junk, .junk, .junk, .junk, .junk, .junk, .junk, .junk, .junk, .junk, .junk, .junk, .junk, .junk, .junk, .junk, .junk, .junk, .junk, .junk, .junk, .junk, .junk, .junk, .junk, .junk, .junk, .junk, .junk, .junk, .junk, .junk, .junk, .junk, .junk, .junk, .junk, .junk, .junk, .junk, .junk, .junk, .junk, .junk, .junk, .junk, .junk, .junk, .junk, .junk, .junk, .junk, .junk, .junk, .junk, .junk, .junk, .junk, .junk, .junk, .junk, .junk, .junk, .junk, .junk, .junk, .junk, .junk, .junk, .junk, .junk, .junk, .junk], [some (.box 34 (.agg [.imm (.int .i64 (0 : Int)), .imm (.int .i64 (0 : Int)), .imm (.int .i64 (0 : Int)), .imm (.int .i64 (0 : Int)), .imm (.int .i64 (0 : Int)), .imm (.int .i64 (0 : Int))]) false)]⟩
mutual
def F17_L4 : Nat → (Int) → (Int) → (Int) → (Int) → (Int) → (Int) → (Int) → Option (((Int) × (Int) × (Int) × (Int) × (Int) × (Int)) × (Bool))
  | 0, _, _, _, _, _, _, _ => none
  | m4 + 1, x25, x26, x27, x28, x29, x30, x31 => (F28 m4 x26 x27).bind fun v32 => iteB (decide (v32 ≤ x25)) ((F28 m4 x26 x27).bind fun v34 => F17_L4 m4 (IntKind.wrap .i64 (x25 - v34)) x26 (IntKind.wrap .i64 (x27 + (1 : Int))) x28 x29 x30 x31) (some ((x26, x27, (IntKind.wrap .i64 (x25 + (1 : Int))), x29, x30, x31), true))
def F17_L3 : Nat → (Int) → (Int) → (Int) → (Int) → (Int) → (Int) → (Int) → Option (((Int) × (Int) × (Int) × (Int) × (Int) × (Int)) × (Bool))
  | 0, _, _, _, _, _, _, _ => none
  | m3 + 1, x15, x16, x17, x18, x19, x20, x21 => (F51 m3 x16).bind fun v22 => iteB (decide (v22 ≤ x15)) ((F51 m3 x16).bind fun v24 => F17_L3 m3 (IntKind.wrap .i64 (x15 - v24)) (IntKind.wrap .i64 (x16 + (1 : Int))) x17 x18 x19 x20 x21) (F17_L4 m3 x15 x16 x17 x18 x19 x20 x21)
def F17_L2 : Nat → (Int) → (Int) → (Int) → (Int) → (Int) → (Int) → (Int) → Option (((Int) × (Int) × (Int) × (Int) × (Int) × (Int)) × (Bool))
  | 0, _, _, _, _, _, _, _ => none
  | m2 + 1, x6, x7, x8, x9, x10, x11, x12 => iteB (decide (x6 < (0 : Int))) ((F51 m2 (IntKind.wrap .i64 (x7 - (1 : Int)))).bind fun v14 => F17_L2 m2 (IntKind.wrap .i64 (x6 + v14)) (IntKind.wrap .i64 (x7 - (1 : Int))) x8 x9 x10 x11 x12) (F17_L3 m2 x6 x7 x8 x9 x10 x11 x12)
def F17_J1 (n : Nat) (x4 : Int) (x5 : Int) : Option (((Int) × (Int) × (Int) × (Int) × (Int) × (Int)) × (Bool)) := F17_L2 n x4 (1970 : Int) (1 : Int) (1 : Int) (IntKind.wrap .i64 (x5.tdiv (3600 : Int))) ((IntKind.wrap .i64 (x5.tdiv (60 : Int))).tmod (60 : Int)) (x5.tmod (60 : Int))
end
def F17 (n : Nat) (a0 : Int) : Option (((Int) × (Int) × (Int) × (Int) × (Int) × (Int)) × (Bool)) := iteB (decide (a0 < (-62135596800 : Int))) (some (((0 : Int), (0 : Int), (0 : Int), (0 : Int), (0 : Int), (0 : Int)), false)) (iteB (decide ((253402300799 : Int) < a0)) (some (((0 : Int), (0 : Int), (0 : Int), (0 : Int), (0 : Int), (0 : Int)), false)) (iteB (decide ((a0.tmod (86400 : Int)) < (0 : Int))) (F17_J1 n (IntKind.wrap .i64 ((IntKind.wrap .i64 (a0.tdiv (86400 : Int))) - (1 : Int))) (IntKind.wrap .i64 ((a0.tmod (86400 : Int)) + (86400 : Int)))) (F17_J1 n (IntKind.wrap .i64 (a0.tdiv (86400 : Int))) (a0.tmod (86400 : Int)))))
set_option maxHeartbeats 4000000 in
theorem F17_ok : ∀ (n : Nat) (a0 : Int) (r : ((Int) × (Int) × (Int) × (Int) × (Int) × (Int)) × (Bool)), F17 n a0 = some r → FnC Try.prog 17 [.imm (.int .i64 a0)] (.tup [.agg [.imm (.int .i64 r.1.1), .imm (.int .i64 r.1.2.1), .imm (.int .i64 r.1.2.2.1), .imm (.int .i64 r.1.2.2.2.1), .imm (.int .i64 r.1.2.2.2.2.1), .imm (.int .i64 r.1.2.2.2.2.2)], .imm (.bool r.2)])
  | n, a0, r, h => by
    unfold F17 at h
    refine FnC.goX mixed Try.func17 (by kernel_rfl) rfl ?_
    simp only [Try.ntmps17, List.length_cons, List.length_nil, List.replicate, List.cons_append, List.nil_append, Nat.reduceAdd, Nat.reduceSub]
    refine runX_seq ?_
    refine runX_regionC fun C hC => ?_
    try simp -implicitDefEqProofs (maxSteps := 4000000) (disch := first | omega | decide | (simp only [go_sem]; omega)) only [go_sem, ↓reduceIte, String.reduceEq, String.reduceNe, reduceCtorEq, Int.reduceEq, Nat.reduceAdd, Nat.reduceSub, Nat.reduceMul, Nat.reduceLT, Nat.reduceLeDiff, Nat.reduceEqDiff, Nat.reduceBEq, Int.reduceToNat, Int.reduceLT, Int.reduceLE, Int.reduceGT, Int.reduceGE, Int.reduceAdd, Int.reduceSub, Int.reduceMul, Int.reduceNeg, Int.reduceBEq, Int.reduceBNe, Int.reducePow, Int.reduceDiv, Int.reduceMod, Int.reduceTDiv, Int.reduceTMod, Int.reduceNatCast]
    repeat (with_reducible refine And.intro (by first | assumption | omega | (simp; done) | (simp; omega)) ?_)
    refine toEnd hC ?_
    refine endX_seq ?_
    refine runX_seq ?_
    refine runX_seq ?_
    refine runX_regionC fun C hC => ?_
    try simp -implicitDefEqProofs (maxSteps := 4000000) (disch := first | omega | decide | (simp only [go_sem]; omega)) only [go_sem, ↓reduceIte, String.reduceEq, String.reduceNe, reduceCtorEq, Int.reduceEq, Nat.reduceAdd, Nat.reduceSub, Nat.reduceMul, Nat.reduceLT, Nat.reduceLeDiff, Nat.reduceEqDiff, Nat.reduceBEq, Int.reduceToNat, Int.reduceLT, Int.reduceLE, Int.reduceGT, Int.reduceGE, Int.reduceAdd, Int.reduceSub, Int.reduceMul, Int.reduceNeg, Int.reduceBEq, Int.reduceBNe, Int.reducePow, Int.reduceDiv, Int.reduceMod, Int.reduceTDiv, Int.reduceTMod, Int.reduceNatCast]
    repeat (with_reducible refine And.intro (by first | assumption | omega | (simp; done) | (simp; omega)) ?_)
    rcases iteB_some h with ⟨c1, h⟩ | ⟨c1, h⟩
    · refine guardK_F c1 ?_
      try simp -implicitDefEqProofs (maxSteps := 4000000) (disch := first | omega | decide | (simp only [go_sem]; omega)) only [go_sem, ↓reduceIte, String.reduceEq, String.reduceNe, reduceCtorEq, Int.reduceEq, Nat.reduceAdd, Nat.reduceSub, Nat.reduceMul, Nat.reduceLT, Nat.reduceLeDiff, Nat.reduceEqDiff, Nat.reduceBEq, Int.reduceToNat, Int.reduceLT, Int.reduceLE, Int.reduceGT, Int.reduceGE, Int.reduceAdd, Int.reduceSub, Int.reduceMul, Int.reduceNeg, Int.reduceBEq, Int.reduceBNe, Int.reducePow, Int.reduceDiv, Int.reduceMod, Int.reduceTDiv, Int.reduceTMod, Int.reduceNatCast]
      repeat (with_reducible refine And.intro (by first | assumption | omega | (simp; done) | (simp; omega)) ?_)
      refine toEnd hC ?_
      refine endX_seq ?_
      refine runX_condT rfl rfl ?_
      refine runX_seq ?_
      refine runX_regionC fun C hC => ?_
      try simp -implicitDefEqProofs (maxSteps := 4000000) (disch := first | omega | decide | (simp only [go_sem]; omega)) only [go_sem, ↓reduceIte, String.reduceEq, String.reduceNe, reduceCtorEq, Int.reduceEq, Nat.reduceAdd, Nat.reduceSub, Nat.reduceMul, Nat.reduceLT, Nat.reduceLeDiff, Nat.reduceEqDiff, Nat.reduceBEq, Int.reduceToNat, Int.reduceLT, Int.reduceLE, Int.reduceGT, Int.reduceGE, Int.reduceAdd, Int.reduceSub, Int.reduceMul, Int.reduceNeg, Int.reduceBEq, Int.reduceBNe, Int.reducePow, Int.reduceDiv, Int.reduceMod, Int.reduceTDiv, Int.reduceTMod, Int.reduceNatCast]
      repeat (with_reducible refine And.intro (by first | assumption | omega | (simp; done) | (simp; omega)) ?_)
      refine buildW_of [.imm (.int .i64 (0 : Int)), .imm (.int .i64 (0 : Int)), .imm (.int .i64 (0 : Int)), .imm (.int .i64 (0 : Int)), .imm (.int .i64 (0 : Int)), .imm (.int .i64 (0 : Int))] (by kernel_rfl) ?_
      try simp -implicitDefEqProofs (maxSteps := 4000000) (disch := first | omega | decide | (simp only [go_sem]; omega)) only [go_sem, ↓reduceIte, String.reduceEq, String.reduceNe, reduceCtorEq, Int.reduceEq, Nat.reduceAdd, Nat.reduceSub, Nat.reduceMul, Nat.reduceLT, Nat.reduceLeDiff, Nat.reduceEqDiff, Nat.reduceBEq, Int.reduceToNat, Int.reduceLT, Int.reduceLE, Int.reduceGT, Int.reduceGE, Int.reduceAdd, Int.reduceSub, Int.reduceMul, Int.reduceNeg, Int.reduceBEq, Int.reduceBNe, Int.reducePow, Int.reduceDiv, Int.reduceMod, Int.reduceTDiv, Int.reduceTMod, Int.reduceNatCast]
      repeat (with_reducible refine And.intro (by first | assumption | omega | (simp; done) | (simp; omega)) ?_)
      refine toEnd hC ?_
      refine endX_seq ?_
      refine runX_ret ?_
      refine endX_seqR ?_
      refine endX_q ?_
      obtain rfl := Option.some.inj h
      show RetW _ _ _ _ _
      simp only [RetW]
      (try simp -implicitDefEqProofs (maxSteps := 4000000) (disch := first | omega | decide | (simp only [go_sem]; omega)) only [go_sem, ↓reduceIte, String.reduceEq, String.reduceNe, reduceCtorEq, Int.reduceEq, Nat.reduceAdd, Nat.reduceSub, Nat.reduceMul, Nat.reduceLT, Nat.reduceLeDiff, Nat.reduceEqDiff, Nat.reduceBEq, Int.reduceToNat, Int.reduceLT, Int.reduceLE, Int.reduceGT, Int.reduceGE, Int.reduceAdd, Int.reduceSub, Int.reduceMul, Int.reduceNeg, Int.reduceBEq, Int.reduceBNe, Int.reducePow, Int.reduceDiv, Int.reduceMod, Int.reduceTDiv, Int.reduceTMod, Int.reduceNatCast])
      first | exact leT_refl _ | (refine ⟨rfl, ?_⟩; first | exact leT_refl _ | exact leT_sl | exact leT_sln | exact leT_nil | (refine leT_tup (by repeat (first | exact leL_refl _ | refine leL_cons (by first | exact leT_refl _ | exact leT_virt | exact leT_junk _ | exact leT_sl | exact leT_sln | exact leT_nil) ?_))) | (refine leT_agg (by repeat (first | exact leL_refl _ | refine leL_cons (by first | exact leT_refl _ | exact leT_virt | exact leT_junk _ | exact leT_sl | exact leT_sln | exact leT_nil) ?_)))) | (first | exact leT_refl _ | exact leT_sl | exact leT_sln | exact leT_nil | (refine leT_tup (by repeat (first | exact leL_refl _ | refine leL_cons (by first | exact leT_refl _ | exact leT_virt | exact leT_junk _ | exact leT_sl | exact leT_sln | exact leT_nil) ?_))) | (refine leT_agg (by repeat (first | exact leL_refl _ | refine leL_cons (by first | exact leT_refl _ | exact leT_virt | exact leT_junk _ | exact leT_sl | exact leT_sln | exact leT_nil) ?_))))
    · refine guardK_T c1 ?_
      try simp -implicitDefEqProofs (maxSteps := 4000000) (disch := first | omega | decide | (simp only [go_sem]; omega)) only [go_sem, ↓reduceIte, String.reduceEq, String.reduceNe, reduceCtorEq, Int.reduceEq, Nat.reduceAdd, Nat.reduceSub, Nat.reduceMul, Nat.reduceLT, Nat.reduceLeDiff, Nat.reduceEqDiff, Nat.reduceBEq, Int.reduceToNat, Int.reduceLT, Int.reduceLE, Int.reduceGT, Int.reduceGE, Int.reduceAdd, Int.reduceSub, Int.reduceMul, Int.reduceNeg, Int.reduceBEq, Int.reduceBNe, Int.reducePow, Int.reduceDiv, Int.reduceMod, Int.reduceTDiv, Int.reduceTMod, Int.reduceNatCast]
      repeat (with_reducible refine And.intro (by first | assumption | omega | (simp; done) | (simp; omega)) ?_)
      refine toEnd hC ?_
      refine endX_seq ?_
      rcases iteB_some h with ⟨c2, h⟩ | ⟨c2, h⟩
      · refine runX_condT rfl c2 ?_
        refine runX_seq ?_
        refine runX_regionC fun C hC => ?_
        try simp -implicitDefEqProofs (maxSteps := 4000000) (disch := first | omega | decide | (simp only [go_sem]; omega)) only [go_sem, ↓reduceIte, String.reduceEq, String.reduceNe, reduceCtorEq, Int.reduceEq, Nat.reduceAdd, Nat.reduceSub, Nat.reduceMul, Nat.reduceLT, Nat.reduceLeDiff, Nat.reduceEqDiff, Nat.reduceBEq, Int.reduceToNat, Int.reduceLT, Int.reduceLE, Int.reduceGT, Int.reduceGE, Int.reduceAdd, Int.reduceSub, Int.reduceMul, Int.reduceNeg, Int.reduceBEq, Int.reduceBNe, Int.reducePow, Int.reduceDiv, Int.reduceMod, Int.reduceTDiv, Int.reduceTMod, Int.reduceNatCast]
        repeat (with_reducible refine And.intro (by first | assumption | omega | (simp; done) | (simp; omega)) ?_)
        refine buildW_of [.imm (.int .i64 (0 : Int)), .imm (.int .i64 (0 : Int)), .imm (.int .i64 (0 : Int)), .imm (.int .i64 (0 : Int)), .imm (.int .i64 (0 : Int)), .imm (.int .i64 (0 : Int))] (by kernel_rfl) ?_
        try simp -implicitDefEqProofs (maxSteps := 4000000) (disch := first | omega | decide | (simp only [go_sem]; omega)) only [go_sem, ↓reduceIte, String.reduceEq, String.reduceNe, reduceCtorEq, Int.reduceEq, Nat.reduceAdd, Nat.reduceSub, Nat.reduceMul, Nat.reduceLT, Nat.reduceLeDiff, Nat.reduceEqDiff, Nat.reduceBEq, Int.reduceToNat, Int.reduceLT, Int.reduceLE, Int.reduceGT, Int.reduceGE, Int.reduceAdd, Int.reduceSub, Int.reduceMul, Int.reduceNeg, Int.reduceBEq, Int.reduceBNe, Int.reducePow, Int.reduceDiv, Int.reduceMod, Int.reduceTDiv, Int.reduceTMod, Int.reduceNatCast]
        repeat (with_reducible refine And.intro (by first | assumption | omega | (simp; done) | (simp; omega)) ?_)
        refine toEnd hC ?_
        refine endX_seq ?_
        refine runX_ret ?_
        refine endX_seqR ?_
        refine endX_q ?_
        obtain rfl := Option.some.inj h
        show RetW _ _ _ _ _
        simp only [RetW]
        (try simp -implicitDefEqProofs (maxSteps := 4000000) (disch := first | omega | decide | (simp only [go_sem]; omega)) only [go_sem, ↓reduceIte, String.reduceEq, String.reduceNe, reduceCtorEq, Int.reduceEq, Nat.reduceAdd, Nat.reduceSub, Nat.reduceMul, Nat.reduceLT, Nat.reduceLeDiff, Nat.reduceEqDiff, Nat.reduceBEq, Int.reduceToNat, Int.reduceLT, Int.reduceLE, Int.reduceGT, Int.reduceGE, Int.reduceAdd, Int.reduceSub, Int.reduceMul, Int.reduceNeg, Int.reduceBEq, Int.reduceBNe, Int.reducePow, Int.reduceDiv, Int.reduceMod, Int.reduceTDiv, Int.reduceTMod, Int.reduceNatCast])
        first | exact leT_refl _ | (refine ⟨rfl, ?_⟩; first | exact leT_refl _ | exact leT_sl | exact leT_sln | exact leT_nil | (refine leT_tup (by repeat (first | exact leL_refl _ | refine leL_cons (by first | exact leT_refl _ | exact leT_virt | exact leT_junk _ | exact leT_sl | exact leT_sln | exact leT_nil) ?_))) | (refine leT_agg (by repeat (first | exact leL_refl _ | refine leL_cons (by first | exact leT_refl _ | exact leT_virt | exact leT_junk _ | exact leT_sl | exact leT_sln | exact leT_nil) ?_)))) | (first | exact leT_refl _ | exact leT_sl | exact leT_sln | exact leT_nil | (refine leT_tup (by repeat (first | exact leL_refl _ | refine leL_cons (by first | exact leT_refl _ | exact leT_virt | exact leT_junk _ | exact leT_sl | exact leT_sln | exact leT_nil) ?_))) | (refine leT_agg (by repeat (first | exact leL_refl _ | refine leL_cons (by first | exact leT_refl _ | exact leT_virt | exact leT_junk _ | exact leT_sl | exact leT_sln | exact leT_nil) ?_))))
      · refine runX_condF rfl c2 ?_
        refine runX_skip ?_
        refine endX_seq ?_
        refine runX_seq ?_
        refine runX_regionC fun C hC => ?_
        try simp -implicitDefEqProofs (maxSteps := 4000000) (disch := first | omega | decide | (simp only [go_sem]; omega)) only [go_sem, ↓reduceIte, String.reduceEq, String.reduceNe, reduceCtorEq, Int.reduceEq, Nat.reduceAdd, Nat.reduceSub, Nat.reduceMul, Nat.reduceLT, Nat.reduceLeDiff, Nat.reduceEqDiff, Nat.reduceBEq, Int.reduceToNat, Int.reduceLT, Int.reduceLE, Int.reduceGT, Int.reduceGE, Int.reduceAdd, Int.reduceSub, Int.reduceMul, Int.reduceNeg, Int.reduceBEq, Int.reduceBNe, Int.reducePow, Int.reduceDiv, Int.reduceMod, Int.reduceTDiv, Int.reduceTMod, Int.reduceNatCast]
        repeat (with_reducible refine And.intro (by first | assumption | omega | (simp; done) | (simp; omega)) ?_)
        refine toEnd hC ?_
        refine endX_seq ?_
        refine runX_seq ?_
        refine runX_regionC fun C hC => ?_
        try simp -implicitDefEqProofs (maxSteps := 4000000) (disch := first | omega | decide | (simp only [go_sem]; omega)) only [go_sem, ↓reduceIte, String.reduceEq, String.reduceNe, reduceCtorEq, Int.reduceEq, Nat.reduceAdd, Nat.reduceSub, Nat.reduceMul, Nat.reduceLT, Nat.reduceLeDiff, Nat.reduceEqDiff, Nat.reduceBEq, Int.reduceToNat, Int.reduceLT, Int.reduceLE, Int.reduceGT, Int.reduceGE, Int.reduceAdd, Int.reduceSub, Int.reduceMul, Int.reduceNeg, Int.reduceBEq, Int.reduceBNe, Int.reducePow, Int.reduceDiv, Int.reduceMod, Int.reduceTDiv, Int.reduceTMod, Int.reduceNatCast]
        repeat (with_reducible refine And.intro (by first | assumption | omega | (simp; done) | (simp; omega)) ?_)
        refine toEnd hC ?_
        refine endX_seq ?_
        refine runX_meet [2, 4, 5] (fun S => ∃ (x4 : Int) (x5 : Int), S = F17_S1 x4 x5 ∧ F17_J1 n x4 x5 = some r) ?_ ?_
        · refine runX_seq ?_
          refine runX_regionC fun C hC => ?_
          try simp -implicitDefEqProofs (maxSteps := 4000000) (disch := first | omega | decide | (simp only [go_sem]; omega)) only [go_sem, ↓reduceIte, String.reduceEq, String.reduceNe, reduceCtorEq, Int.reduceEq, Nat.reduceAdd, Nat.reduceSub, Nat.reduceMul, Nat.reduceLT, Nat.reduceLeDiff, Nat.reduceEqDiff, Nat.reduceBEq, Int.reduceToNat, Int.reduceLT, Int.reduceLE, Int.reduceGT, Int.reduceGE, Int.reduceAdd, Int.reduceSub, Int.reduceMul, Int.reduceNeg, Int.reduceBEq, Int.reduceBNe, Int.reducePow, Int.reduceDiv, Int.reduceMod, Int.reduceTDiv, Int.reduceTMod, Int.reduceNatCast]
          repeat (with_reducible refine And.intro (by first | assumption | omega | (simp; done) | (simp; omega)) ?_)
          refine toEnd hC ?_
          refine endX_seq ?_
          rcases iteB_some h with ⟨c3, h⟩ | ⟨c3, h⟩
          · refine runX_condT rfl c3 ?_
            refine runX_seq ?_
            refine runX_regionC fun C hC => ?_
            try simp -implicitDefEqProofs (maxSteps := 4000000) (disch := first | omega | decide | (simp only [go_sem]; omega)) only [go_sem, ↓reduceIte, String.reduceEq, String.reduceNe, reduceCtorEq, Int.reduceEq, Nat.reduceAdd, Nat.reduceSub, Nat.reduceMul, Nat.reduceLT, Nat.reduceLeDiff, Nat.reduceEqDiff, Nat.reduceBEq, Int.reduceToNat, Int.reduceLT, Int.reduceLE, Int.reduceGT, Int.reduceGE, Int.reduceAdd, Int.reduceSub, Int.reduceMul, Int.reduceNeg, Int.reduceBEq, Int.reduceBNe, Int.reducePow, Int.reduceDiv, Int.reduceMod, Int.reduceTDiv, Int.reduceTMod, Int.reduceNatCast]
            repeat (with_reducible refine And.intro (by first | assumption | omega | (simp; done) | (simp; omega)) ?_)
            refine toEnd hC ?_
            refine endX_seq ?_
            refine runX_regionC fun C hC => ?_
            try simp -implicitDefEqProofs (maxSteps := 4000000) (disch := first | omega | decide | (simp only [go_sem]; omega)) only [go_sem, ↓reduceIte, String.reduceEq, String.reduceNe, reduceCtorEq, Int.reduceEq, Nat.reduceAdd, Nat.reduceSub, Nat.reduceMul, Nat.reduceLT, Nat.reduceLeDiff, Nat.reduceEqDiff, Nat.reduceBEq, Int.reduceToNat, Int.reduceLT, Int.reduceLE, Int.reduceGT, Int.reduceGE, Int.reduceAdd, Int.reduceSub, Int.reduceMul, Int.reduceNeg, Int.reduceBEq, Int.reduceBNe, Int.reducePow, Int.reduceDiv, Int.reduceMod, Int.reduceTDiv, Int.reduceTMod, Int.reduceNatCast]
            repeat (with_reducible refine And.intro (by first | assumption | omega | (simp; done) | (simp; omega)) ?_)
            refine toEnd hC ?_
            refine endX_q (meetQ_normal ⟨F17_S1 (IntKind.wrap .i64 ((IntKind.wrap .i64 (a0.tdiv (86400 : Int))) - (1 : Int))) (IntKind.wrap .i64 ((a0.tmod (86400 : Int)) + (86400 : Int))), ?_, (IntKind.wrap .i64 ((IntKind.wrap .i64 (a0.tdiv (86400 : Int))) - (1 : Int))), (IntKind.wrap .i64 ((a0.tmod (86400 : Int)) + (86400 : Int))), rfl, h⟩)
            simp only [F17_S1]
            (try simp -implicitDefEqProofs (maxSteps := 4000000) (disch := first | omega | decide | (simp only [go_sem]; omega)) only [go_sem, ↓reduceIte, String.reduceEq, String.reduceNe, reduceCtorEq, Int.reduceEq, Nat.reduceAdd, Nat.reduceSub, Nat.reduceMul, Nat.reduceLT, Nat.reduceLeDiff, Nat.reduceEqDiff, Nat.reduceBEq, Int.reduceToNat, Int.reduceLT, Int.reduceLE, Int.reduceGT, Int.reduceGE, Int.reduceAdd, Int.reduceSub, Int.reduceMul, Int.reduceNeg, Int.reduceBEq, Int.reduceBNe, Int.reducePow, Int.reduceDiv, Int.reduceMod, Int.reduceTDiv, Int.reduceTMod, Int.reduceNatCast])
            first | exact leS_refl _ | (refine leS_le ?_ ?_ <;> first | exact leL_refl _ | exact leOs_refl _ | (repeat (first | exact leL_refl _ | refine leL_cons (by first | exact leT_refl _ | exact leT_virt | exact leT_junk _ | exact leT_sl | exact leT_sln | exact leT_nil) ?_)))
          · refine runX_condF rfl c3 ?_
            refine runX_skip ?_
            refine endX_q (meetQ_normal ⟨F17_S1 (IntKind.wrap .i64 (a0.tdiv (86400 : Int))) (a0.tmod (86400 : Int)), ?_, (IntKind.wrap .i64 (a0.tdiv (86400 : Int))), (a0.tmod (86400 : Int)), rfl, h⟩)
            simp only [F17_S1]
            (try simp -implicitDefEqProofs (maxSteps := 4000000) (disch := first | omega | decide | (simp only [go_sem]; omega)) only [go_sem, ↓reduceIte, String.reduceEq, String.reduceNe, reduceCtorEq, Int.reduceEq, Nat.reduceAdd, Nat.reduceSub, Nat.reduceMul, Nat.reduceLT, Nat.reduceLeDiff, Nat.reduceEqDiff, Nat.reduceBEq, Int.reduceToNat, Int.reduceLT, Int.reduceLE, Int.reduceGT, Int.reduceGE, Int.reduceAdd, Int.reduceSub, Int.reduceMul, Int.reduceNeg, Int.reduceBEq, Int.reduceBNe, Int.reducePow, Int.reduceDiv, Int.reduceMod, Int.reduceTDiv, Int.reduceTMod, Int.reduceNatCast])
            first | exact leS_refl _ | (refine leS_le ?_ ?_ <;> first | exact leL_refl _ | exact leOs_refl _ | (repeat (first | exact leL_refl _ | refine leL_cons (by first | exact leT_refl _ | exact leT_virt | exact leT_junk _ | exact leT_sl | exact leT_sln | exact leT_nil) ?_)))
        · clear h
          rintro S ⟨x4, x5, rfl, h⟩
          rw [F17_J1] at h
          simp only [F17_S1]
          refine runX_seq ?_
          refine runX_regionC fun C hC => ?_
          try simp -implicitDefEqProofs (maxSteps := 4000000) (disch := first | omega | decide | (simp only [go_sem]; omega)) only [go_sem, ↓reduceIte, String.reduceEq, String.reduceNe, reduceCtorEq, Int.reduceEq, Nat.reduceAdd, Nat.reduceSub, Nat.reduceMul, Nat.reduceLT, Nat.reduceLeDiff, Nat.reduceEqDiff, Nat.reduceBEq, Int.reduceToNat, Int.reduceLT, Int.reduceLE, Int.reduceGT, Int.reduceGE, Int.reduceAdd, Int.reduceSub, Int.reduceMul, Int.reduceNeg, Int.reduceBEq, Int.reduceBNe, Int.reducePow, Int.reduceDiv, Int.reduceMod, Int.reduceTDiv, Int.reduceTMod, Int.reduceNatCast]
          repeat (with_reducible refine And.intro (by first | assumption | omega | (simp; done) | (simp; omega)) ?_)
          refine buildW_of [.imm (.int .i64 (1970 : Int)), .imm (.int .i64 (1 : Int)), .imm (.int .i64 (1 : Int)), .imm (.int .i64 (IntKind.wrap .i64 (x5.tdiv (3600 : Int)))), .imm (.int .i64 ((IntKind.wrap .i64 (x5.tdiv (60 : Int))).tmod (60 : Int))), .imm (.int .i64 (x5.tmod (60 : Int)))] (by kernel_rfl) ?_
          try simp -implicitDefEqProofs (maxSteps := 4000000) (disch := first | omega | decide | (simp only [go_sem]; omega)) only [go_sem, ↓reduceIte, String.reduceEq, String.reduceNe, reduceCtorEq, Int.reduceEq, Nat.reduceAdd, Nat.reduceSub, Nat.reduceMul, Nat.reduceLT, Nat.reduceLeDiff, Nat.reduceEqDiff, Nat.reduceBEq, Int.reduceToNat, Int.reduceLT, Int.reduceLE, Int.reduceGT, Int.reduceGE, Int.reduceAdd, Int.reduceSub, Int.reduceMul, Int.reduceNeg, Int.reduceBEq, Int.reduceBNe, Int.reducePow, Int.reduceDiv, Int.reduceMod, Int.reduceTDiv, Int.reduceTMod, Int.reduceNatCast]
          repeat (with_reducible refine And.intro (by first | assumption | omega | (simp; done) | (simp; omega)) ?_)
          refine toEnd hC ?_
          refine endX_seq ?_
          refine runX_seq ?_
          refine runX_block ?_
          refine runX_loop [2, 4, 6] (fun m S => ∃ (x6 : Int) (x7 : Int) (x8 : Int) (x9 : Int) (x10 : Int) (x11 : Int) (x12 : Int), S = F17_S2 x6 x7 x8 x9 x10 x11 x12 ∧ m ≤ n ∧ F17_L2 m x6 x7 x8 x9 x10 x11 x12 = some r) n ⟨F17_S2 x4 (1970 : Int) (1 : Int) (1 : Int) (IntKind.wrap .i64 (x5.tdiv (3600 : Int))) ((IntKind.wrap .i64 (x5.tdiv (60 : Int))).tmod (60 : Int)) (x5.tmod (60 : Int)), ?_, x4, (1970 : Int), (1 : Int), (1 : Int), (IntKind.wrap .i64 (x5.tdiv (3600 : Int))), ((IntKind.wrap .i64 (x5.tdiv (60 : Int))).tmod (60 : Int)), (x5.tmod (60 : Int)), rfl, Nat.le_refl _, h⟩ ?_
          · simp only [F17_S2]
            (try simp -implicitDefEqProofs (maxSteps := 4000000) (disch := first | omega | decide | (simp only [go_sem]; omega)) only [go_sem, ↓reduceIte, String.reduceEq, String.reduceNe, reduceCtorEq, Int.reduceEq, Nat.reduceAdd, Nat.reduceSub, Nat.reduceMul, Nat.reduceLT, Nat.reduceLeDiff, Nat.reduceEqDiff, Nat.reduceBEq, Int.reduceToNat, Int.reduceLT, Int.reduceLE, Int.reduceGT, Int.reduceGE, Int.reduceAdd, Int.reduceSub, Int.reduceMul, Int.reduceNeg, Int.reduceBEq, Int.reduceBNe, Int.reducePow, Int.reduceDiv, Int.reduceMod, Int.reduceTDiv, Int.reduceTMod, Int.reduceNatCast])
            first | exact leS_refl _ | (refine leS_le ?_ ?_ <;> first | exact leL_refl _ | exact leOs_refl _ | (repeat (first | exact leL_refl _ | refine leL_cons (by first | exact leT_refl _ | exact leT_virt | exact leT_junk _ | exact leT_sl | exact leT_sln | exact leT_nil) ?_)))
          · clear h
            rintro m2 S ⟨x6, x7, x8, x9, x10, x11, x12, rfl, hm2, h⟩
            cases m2 with
            | zero => cases (show (none : Option _) = some _ from h)
            | succ m2 =>
              rw [F17_L2] at h
              simp only [F17_S2]
              refine runX_seq ?_
              refine runX_seq ?_
              refine runX_regionC fun C hC => ?_
              try simp -implicitDefEqProofs (maxSteps := 4000000) (disch := first | omega | decide | (simp only [go_sem]; omega)) only [go_sem, ↓reduceIte, String.reduceEq, String.reduceNe, reduceCtorEq, Int.reduceEq, Nat.reduceAdd, Nat.reduceSub, Nat.reduceMul, Nat.reduceLT, Nat.reduceLeDiff, Nat.reduceEqDiff, Nat.reduceBEq, Int.reduceToNat, Int.reduceLT, Int.reduceLE, Int.reduceGT, Int.reduceGE, Int.reduceAdd, Int.reduceSub, Int.reduceMul, Int.reduceNeg, Int.reduceBEq, Int.reduceBNe, Int.reducePow, Int.reduceDiv, Int.reduceMod, Int.reduceTDiv, Int.reduceTMod, Int.reduceNatCast]
              repeat (with_reducible refine And.intro (by first | assumption | omega | (simp; done) | (simp; omega)) ?_)
              refine toEnd hC ?_
              refine endX_seq ?_
              rcases iteB_some h with ⟨c13, h⟩ | ⟨c13, h⟩
              · refine runX_condT rfl c13 ?_
                refine runX_skip ?_
                refine endX_seq ?_
                refine runX_block ?_
                refine runX_seq ?_
                refine runX_regionC fun C hC => ?_
                try simp -implicitDefEqProofs (maxSteps := 4000000) (disch := first | omega | decide | (simp only [go_sem]; omega)) only [go_sem, ↓reduceIte, String.reduceEq, String.reduceNe, reduceCtorEq, Int.reduceEq, Nat.reduceAdd, Nat.reduceSub, Nat.reduceMul, Nat.reduceLT, Nat.reduceLeDiff, Nat.reduceEqDiff, Nat.reduceBEq, Int.reduceToNat, Int.reduceLT, Int.reduceLE, Int.reduceGT, Int.reduceGE, Int.reduceAdd, Int.reduceSub, Int.reduceMul, Int.reduceNeg, Int.reduceBEq, Int.reduceBNe, Int.reducePow, Int.reduceDiv, Int.reduceMod, Int.reduceTDiv, Int.reduceTMod, Int.reduceNatCast]
                repeat (with_reducible refine And.intro (by first | assumption | omega | (simp; done) | (simp; omega)) ?_)
                refine toEnd hC ?_
                refine endX_seq ?_
                refine runX_regionC fun C hC => ?_
                obtain ⟨v14, h14, h⟩ := bnd_some h
                try simp -implicitDefEqProofs (maxSteps := 4000000) (disch := first | omega | decide | (simp only [go_sem]; omega)) only [go_sem, ↓reduceIte, String.reduceEq, String.reduceNe, reduceCtorEq, Int.reduceEq, Nat.reduceAdd, Nat.reduceSub, Nat.reduceMul, Nat.reduceLT, Nat.reduceLeDiff, Nat.reduceEqDiff, Nat.reduceBEq, Int.reduceToNat, Int.reduceLT, Int.reduceLE, Int.reduceGT, Int.reduceGE, Int.reduceAdd, Int.reduceSub, Int.reduceMul, Int.reduceNeg, Int.reduceBEq, Int.reduceBNe, Int.reducePow, Int.reduceDiv, Int.reduceMod, Int.reduceTDiv, Int.reduceTMod, Int.reduceNatCast]
                repeat (with_reducible refine And.intro (by first | assumption | omega | (simp; done) | (simp; omega)) ?_)
                refine callG_X (F51_ok m2 (IntKind.wrap .i64 (x7 - (1 : Int))) _ h14) (by repeat (first | exact leL_refl _ | refine leL_cons (by first | exact leT_refl _ | exact leT_virt | exact leT_junk _ | exact leT_sl | exact leT_sln | exact leT_nil) ?_)) ?_
                try simp -implicitDefEqProofs (maxSteps := 4000000) (disch := first | omega | decide | (simp only [go_sem]; omega)) only [go_sem, ↓reduceIte, String.reduceEq, String.reduceNe, reduceCtorEq, Int.reduceEq, Nat.reduceAdd, Nat.reduceSub, Nat.reduceMul, Nat.reduceLT, Nat.reduceLeDiff, Nat.reduceEqDiff, Nat.reduceBEq, Int.reduceToNat, Int.reduceLT, Int.reduceLE, Int.reduceGT, Int.reduceGE, Int.reduceAdd, Int.reduceSub, Int.reduceMul, Int.reduceNeg, Int.reduceBEq, Int.reduceBNe, Int.reducePow, Int.reduceDiv, Int.reduceMod, Int.reduceTDiv, Int.reduceTMod, Int.reduceNatCast]
                repeat (with_reducible refine And.intro (by first | assumption | omega | (simp; done) | (simp; omega)) ?_)
                refine toEnd hC ?_
                refine endX_blk ?_
                refine endX_q (roundQ_normal ⟨m2, by omega, F17_S2 (IntKind.wrap .i64 (x6 + v14)) (IntKind.wrap .i64 (x7 - (1 : Int))) x8 x9 x10 x11 x12, ?_, (IntKind.wrap .i64 (x6 + v14)), (IntKind.wrap .i64 (x7 - (1 : Int))), x8, x9, x10, x11, x12, rfl, by omega, h⟩)
                simp only [F17_S2]
                (try simp -implicitDefEqProofs (maxSteps := 4000000) (disch := first | omega | decide | (simp only [go_sem]; omega)) only [go_sem, ↓reduceIte, String.reduceEq, String.reduceNe, reduceCtorEq, Int.reduceEq, Nat.reduceAdd, Nat.reduceSub, Nat.reduceMul, Nat.reduceLT, Nat.reduceLeDiff, Nat.reduceEqDiff, Nat.reduceBEq, Int.reduceToNat, Int.reduceLT, Int.reduceLE, Int.reduceGT, Int.reduceGE, Int.reduceAdd, Int.reduceSub, Int.reduceMul, Int.reduceNeg, Int.reduceBEq, Int.reduceBNe, Int.reducePow, Int.reduceDiv, Int.reduceMod, Int.reduceTDiv, Int.reduceTMod, Int.reduceNatCast])
                first | exact leS_refl _ | (refine leS_le ?_ ?_ <;> first | exact leL_refl _ | exact leOs_refl _ | (repeat (first | exact leL_refl _ | refine leL_cons (by first | exact leT_refl _ | exact leT_virt | exact leT_junk _ | exact leT_sl | exact leT_sln | exact leT_nil) ?_)))
              · refine runX_condF rfl c13 ?_
                refine runX_exit ?_
                refine endX_seqE ?_
                refine endX_q (roundQ_exit ?_)
                refine endX_blkE ?_
                refine endX_seq ?_
                refine runX_seq ?_
                refine runX_block ?_
                refine runX_loop [2, 4, 6] (fun m S => ∃ (x15 : Int) (x16 : Int) (x17 : Int) (x18 : Int) (x19 : Int) (x20 : Int) (x21 : Int), S = F17_S3 x15 x16 x17 x18 x19 x20 x21 ∧ m ≤ m2 ∧ F17_L3 m x15 x16 x17 x18 x19 x20 x21 = some r) m2 ⟨F17_S3 x6 x7 x8 x9 x10 x11 x12, ?_, x6, x7, x8, x9, x10, x11, x12, rfl, Nat.le_refl _, h⟩ ?_
                · simp only [F17_S3]
                  (try simp -implicitDefEqProofs (maxSteps := 4000000) (disch := first | omega | decide | (simp only [go_sem]; omega)) only [go_sem, ↓reduceIte, String.reduceEq, String.reduceNe, reduceCtorEq, Int.reduceEq, Nat.reduceAdd, Nat.reduceSub, Nat.reduceMul, Nat.reduceLT, Nat.reduceLeDiff, Nat.reduceEqDiff, Nat.reduceBEq, Int.reduceToNat, Int.reduceLT, Int.reduceLE, Int.reduceGT, Int.reduceGE, Int.reduceAdd, Int.reduceSub, Int.reduceMul, Int.reduceNeg, Int.reduceBEq, Int.reduceBNe, Int.reducePow, Int.reduceDiv, Int.reduceMod, Int.reduceTDiv, Int.reduceTMod, Int.reduceNatCast])
                  first | exact leS_refl _ | (refine leS_le ?_ ?_ <;> first | exact leL_refl _ | exact leOs_refl _ | (repeat (first | exact leL_refl _ | refine leL_cons (by first | exact leT_refl _ | exact leT_virt | exact leT_junk _ | exact leT_sl | exact leT_sln | exact leT_nil) ?_)))
                · clear h
                  rintro m3 S ⟨x15, x16, x17, x18, x19, x20, x21, rfl, hm3, h⟩
                  cases m3 with
                  | zero => cases (show (none : Option _) = some _ from h)
                  | succ m3 =>
                    rw [F17_L3] at h
                    simp only [F17_S3]
                    refine runX_seq ?_
                    refine runX_seq ?_
                    refine runX_regionC fun C hC => ?_
                    obtain ⟨v22, h22, h⟩ := bnd_some h
                    try simp -implicitDefEqProofs (maxSteps := 4000000) (disch := first | omega | decide | (simp only [go_sem]; omega)) only [go_sem, ↓reduceIte, String.reduceEq, String.reduceNe, reduceCtorEq, Int.reduceEq, Nat.reduceAdd, Nat.reduceSub, Nat.reduceMul, Nat.reduceLT, Nat.reduceLeDiff, Nat.reduceEqDiff, Nat.reduceBEq, Int.reduceToNat, Int.reduceLT, Int.reduceLE, Int.reduceGT, Int.reduceGE, Int.reduceAdd, Int.reduceSub, Int.reduceMul, Int.reduceNeg, Int.reduceBEq, Int.reduceBNe, Int.reducePow, Int.reduceDiv, Int.reduceMod, Int.reduceTDiv, Int.reduceTMod, Int.reduceNatCast]
                    repeat (with_reducible refine And.intro (by first | assumption | omega | (simp; done) | (simp; omega)) ?_)
                    refine callG_X (F51_ok m3 x16 _ h22) (by repeat (first | exact leL_refl _ | refine leL_cons (by first | exact leT_refl _ | exact leT_virt | exact leT_junk _ | exact leT_sl | exact leT_sln | exact leT_nil) ?_)) ?_
                    try simp -implicitDefEqProofs (maxSteps := 4000000) (disch := first | omega | decide | (simp only [go_sem]; omega)) only [go_sem, ↓reduceIte, String.reduceEq, String.reduceNe, reduceCtorEq, Int.reduceEq, Nat.reduceAdd, Nat.reduceSub, Nat.reduceMul, Nat.reduceLT, Nat.reduceLeDiff, Nat.reduceEqDiff, Nat.reduceBEq, Int.reduceToNat, Int.reduceLT, Int.reduceLE, Int.reduceGT, Int.reduceGE, Int.reduceAdd, Int.reduceSub, Int.reduceMul, Int.reduceNeg, Int.reduceBEq, Int.reduceBNe, Int.reducePow, Int.reduceDiv, Int.reduceMod, Int.reduceTDiv, Int.reduceTMod, Int.reduceNatCast]
                    repeat (with_reducible refine And.intro (by first | assumption | omega | (simp; done) | (simp; omega)) ?_)
                    refine toEnd hC ?_
                    refine endX_seq ?_
                    rcases iteB_some h with ⟨c23, h⟩ | ⟨c23, h⟩
                    · refine runX_condT rfl c23 ?_
                      refine runX_skip ?_
                      refine endX_seq ?_
                      refine runX_block ?_
                      refine runX_seq ?_
                      refine runX_regionC fun C hC => ?_
                      obtain ⟨v24, h24, h⟩ := bnd_some h
                      try simp -implicitDefEqProofs (maxSteps := 4000000) (disch := first | omega | decide | (simp only [go_sem]; omega)) only [go_sem, ↓reduceIte, String.reduceEq, String.reduceNe, reduceCtorEq, Int.reduceEq, Nat.reduceAdd, Nat.reduceSub, Nat.reduceMul, Nat.reduceLT, Nat.reduceLeDiff, Nat.reduceEqDiff, Nat.reduceBEq, Int.reduceToNat, Int.reduceLT, Int.reduceLE, Int.reduceGT, Int.reduceGE, Int.reduceAdd, Int.reduceSub, Int.reduceMul, Int.reduceNeg, Int.reduceBEq, Int.reduceBNe, Int.reducePow, Int.reduceDiv, Int.reduceMod, Int.reduceTDiv, Int.reduceTMod, Int.reduceNatCast]
                      repeat (with_reducible refine And.intro (by first | assumption | omega | (simp; done) | (simp; omega)) ?_)
                      refine callG_X (F51_ok m3 x16 _ h24) (by repeat (first | exact leL_refl _ | refine leL_cons (by first | exact leT_refl _ | exact leT_virt | exact leT_junk _ | exact leT_sl | exact leT_sln | exact leT_nil) ?_)) ?_
                      try simp -implicitDefEqProofs (maxSteps := 4000000) (disch := first | omega | decide | (simp only [go_sem]; omega)) only [go_sem, ↓reduceIte, String.reduceEq, String.reduceNe, reduceCtorEq, Int.reduceEq, Nat.reduceAdd, Nat.reduceSub, Nat.reduceMul, Nat.reduceLT, Nat.reduceLeDiff, Nat.reduceEqDiff, Nat.reduceBEq, Int.reduceToNat, Int.reduceLT, Int.reduceLE, Int.reduceGT, Int.reduceGE, Int.reduceAdd, Int.reduceSub, Int.reduceMul, Int.reduceNeg, Int.reduceBEq, Int.reduceBNe, Int.reducePow, Int.reduceDiv, Int.reduceMod, Int.reduceTDiv, Int.reduceTMod, Int.reduceNatCast]
                      repeat (with_reducible refine And.intro (by first | assumption | omega | (simp; done) | (simp; omega)) ?_)
                      refine toEnd hC ?_
                      refine endX_seq ?_
                      refine runX_regionC fun C hC => ?_
                      try simp -implicitDefEqProofs (maxSteps := 4000000) (disch := first | omega | decide | (simp only [go_sem]; omega)) only [go_sem, ↓reduceIte, String.reduceEq, String.reduceNe, reduceCtorEq, Int.reduceEq, Nat.reduceAdd, Nat.reduceSub, Nat.reduceMul, Nat.reduceLT, Nat.reduceLeDiff, Nat.reduceEqDiff, Nat.reduceBEq, Int.reduceToNat, Int.reduceLT, Int.reduceLE, Int.reduceGT, Int.reduceGE, Int.reduceAdd, Int.reduceSub, Int.reduceMul, Int.reduceNeg, Int.reduceBEq, Int.reduceBNe, Int.reducePow, Int.reduceDiv, Int.reduceMod, Int.reduceTDiv, Int.reduceTMod, Int.reduceNatCast]
                      repeat (with_reducible refine And.intro (by first | assumption | omega | (simp; done) | (simp; omega)) ?_)
                      refine toEnd hC ?_
                      refine endX_blk ?_
                      refine endX_q (roundQ_normal ⟨m3, by omega, F17_S3 (IntKind.wrap .i64 (x15 - v24)) (IntKind.wrap .i64 (x16 + (1 : Int))) x17 x18 x19 x20 x21, ?_, (IntKind.wrap .i64 (x15 - v24)), (IntKind.wrap .i64 (x16 + (1 : Int))), x17, x18, x19, x20, x21, rfl, by omega, h⟩)
                      simp only [F17_S3]
                      (try simp -implicitDefEqProofs (maxSteps := 4000000) (disch := first | omega | decide | (simp only [go_sem]; omega)) only [go_sem, ↓reduceIte, String.reduceEq, String.reduceNe, reduceCtorEq, Int.reduceEq, Nat.reduceAdd, Nat.reduceSub, Nat.reduceMul, Nat.reduceLT, Nat.reduceLeDiff, Nat.reduceEqDiff, Nat.reduceBEq, Int.reduceToNat, Int.reduceLT, Int.reduceLE, Int.reduceGT, Int.reduceGE, Int.reduceAdd, Int.reduceSub, Int.reduceMul, Int.reduceNeg, Int.reduceBEq, Int.reduceBNe, Int.reducePow, Int.reduceDiv, Int.reduceMod, Int.reduceTDiv, Int.reduceTMod, Int.reduceNatCast])
                      first | exact leS_refl _ | (refine leS_le ?_ ?_ <;> first | exact leL_refl _ | exact leOs_refl _ | (repeat (first | exact leL_refl _ | refine leL_cons (by first | exact leT_refl _ | exact leT_virt | exact leT_junk _ | exact leT_sl | exact leT_sln | exact leT_nil) ?_)))
                    · refine runX_condF rfl c23 ?_
                      refine runX_exit ?_
                      refine endX_seqE ?_
                      refine endX_q (roundQ_exit ?_)
                      refine endX_blkE ?_
                      refine endX_seq ?_
                      refine runX_seq ?_
                      refine runX_block ?_
                      refine runX_loop [2, 4, 6] (fun m S => ∃ (x25 : Int) (x26 : Int) (x27 : Int) (x28 : Int) (x29 : Int) (x30 : Int) (x31 : Int), S = F17_S4 x25 x26 x27 x28 x29 x30 x31 ∧ m ≤ m3 ∧ F17_L4 m x25 x26 x27 x28 x29 x30 x31 = some r) m3 ⟨F17_S4 x15 x16 x17 x18 x19 x20 x21, ?_, x15, x16, x17, x18, x19, x20, x21, rfl, Nat.le_refl _, h⟩ ?_
                      · simp only [F17_S4]
                        (try simp -implicitDefEqProofs (maxSteps := 4000000) (disch := first | omega | decide | (simp only [go_sem]; omega)) only [go_sem, ↓reduceIte, String.reduceEq, String.reduceNe, reduceCtorEq, Int.reduceEq, Nat.reduceAdd, Nat.reduceSub, Nat.reduceMul, Nat.reduceLT, Nat.reduceLeDiff, Nat.reduceEqDiff, Nat.reduceBEq, Int.reduceToNat, Int.reduceLT, Int.reduceLE, Int.reduceGT, Int.reduceGE, Int.reduceAdd, Int.reduceSub, Int.reduceMul, Int.reduceNeg, Int.reduceBEq, Int.reduceBNe, Int.reducePow, Int.reduceDiv, Int.reduceMod, Int.reduceTDiv, Int.reduceTMod, Int.reduceNatCast])
                        first | exact leS_refl _ | (refine leS_le ?_ ?_ <;> first | exact leL_refl _ | exact leOs_refl _ | (repeat (first | exact leL_refl _ | refine leL_cons (by first | exact leT_refl _ | exact leT_virt | exact leT_junk _ | exact leT_sl | exact leT_sln | exact leT_nil) ?_)))
                      · clear h
                        rintro m4 S ⟨x25, x26, x27, x28, x29, x30, x31, rfl, hm4, h⟩
                        cases m4 with
                        | zero => cases (show (none : Option _) = some _ from h)
                        | succ m4 =>
                          rw [F17_L4] at h
                          simp only [F17_S4]
                          refine runX_seq ?_
                          refine runX_seq ?_
                          refine runX_regionC fun C hC => ?_
                          obtain ⟨v32, h32, h⟩ := bnd_some h
                          try simp -implicitDefEqProofs (maxSteps := 4000000) (disch := first | omega | decide | (simp only [go_sem]; omega)) only [go_sem, ↓reduceIte, String.reduceEq, String.reduceNe, reduceCtorEq, Int.reduceEq, Nat.reduceAdd, Nat.reduceSub, Nat.reduceMul, Nat.reduceLT, Nat.reduceLeDiff, Nat.reduceEqDiff, Nat.reduceBEq, Int.reduceToNat, Int.reduceLT, Int.reduceLE, Int.reduceGT, Int.reduceGE, Int.reduceAdd, Int.reduceSub, Int.reduceMul, Int.reduceNeg, Int.reduceBEq, Int.reduceBNe, Int.reducePow, Int.reduceDiv, Int.reduceMod, Int.reduceTDiv, Int.reduceTMod, Int.reduceNatCast]
                          repeat (with_reducible refine And.intro (by first | assumption | omega | (simp; done) | (simp; omega)) ?_)
                          refine callG_X (F28_ok m4 x26 x27 _ h32) (by repeat (first | exact leL_refl _ | refine leL_cons (by first | exact leT_refl _ | exact leT_virt | exact leT_junk _ | exact leT_sl | exact leT_sln | exact leT_nil) ?_)) ?_
                          try simp -implicitDefEqProofs (maxSteps := 4000000) (disch := first | omega | decide | (simp only [go_sem]; omega)) only [go_sem, ↓reduceIte, String.reduceEq, String.reduceNe, reduceCtorEq, Int.reduceEq, Nat.reduceAdd, Nat.reduceSub, Nat.reduceMul, Nat.reduceLT, Nat.reduceLeDiff, Nat.reduceEqDiff, Nat.reduceBEq, Int.reduceToNat, Int.reduceLT, Int.reduceLE, Int.reduceGT, Int.reduceGE, Int.reduceAdd, Int.reduceSub, Int.reduceMul, Int.reduceNeg, Int.reduceBEq, Int.reduceBNe, Int.reducePow, Int.reduceDiv, Int.reduceMod, Int.reduceTDiv, Int.reduceTMod, Int.reduceNatCast]
                          repeat (with_reducible refine And.intro (by first | assumption | omega | (simp; done) | (simp; omega)) ?_)
                          refine toEnd hC ?_
                          refine endX_seq ?_
                          rcases iteB_some h with ⟨c33, h⟩ | ⟨c33, h⟩
                          · refine runX_condT rfl c33 ?_
                            refine runX_skip ?_
                            refine endX_seq ?_
                            refine runX_block ?_
                            refine runX_seq ?_
                            refine runX_regionC fun C hC => ?_
                            obtain ⟨v34, h34, h⟩ := bnd_some h
                            try simp -implicitDefEqProofs (maxSteps := 4000000) (disch := first | omega | decide | (simp only [go_sem]; omega)) only [go_sem, ↓reduceIte, String.reduceEq, String.reduceNe, reduceCtorEq, Int.reduceEq, Nat.reduceAdd, Nat.reduceSub, Nat.reduceMul, Nat.reduceLT, Nat.reduceLeDiff, Nat.reduceEqDiff, Nat.reduceBEq, Int.reduceToNat, Int.reduceLT, Int.reduceLE, Int.reduceGT, Int.reduceGE, Int.reduceAdd, Int.reduceSub, Int.reduceMul, Int.reduceNeg, Int.reduceBEq, Int.reduceBNe, Int.reducePow, Int.reduceDiv, Int.reduceMod, Int.reduceTDiv, Int.reduceTMod, Int.reduceNatCast]
                            repeat (with_reducible refine And.intro (by first | assumption | omega | (simp; done) | (simp; omega)) ?_)
                            refine callG_X (F28_ok m4 x26 x27 _ h34) (by repeat (first | exact leL_refl _ | refine leL_cons (by first | exact leT_refl _ | exact leT_virt | exact leT_junk _ | exact leT_sl | exact leT_sln | exact leT_nil) ?_)) ?_
                            try simp -implicitDefEqProofs (maxSteps := 4000000) (disch := first | omega | decide | (simp only [go_sem]; omega)) only [go_sem, ↓reduceIte, String.reduceEq, String.reduceNe, reduceCtorEq, Int.reduceEq, Nat.reduceAdd, Nat.reduceSub, Nat.reduceMul, Nat.reduceLT, Nat.reduceLeDiff, Nat.reduceEqDiff, Nat.reduceBEq, Int.reduceToNat, Int.reduceLT, Int.reduceLE, Int.reduceGT, Int.reduceGE, Int.reduceAdd, Int.reduceSub, Int.reduceMul, Int.reduceNeg, Int.reduceBEq, Int.reduceBNe, Int.reducePow, Int.reduceDiv, Int.reduceMod, Int.reduceTDiv, Int.reduceTMod, Int.reduceNatCast]
                            repeat (with_reducible refine And.intro (by first | assumption | omega | (simp; done) | (simp; omega)) ?_)
                            refine toEnd hC ?_
                            refine endX_seq ?_
                            refine runX_regionC fun C hC => ?_
                            try simp -implicitDefEqProofs (maxSteps := 4000000) (disch := first | omega | decide | (simp only [go_sem]; omega)) only [go_sem, ↓reduceIte, String.reduceEq, String.reduceNe, reduceCtorEq, Int.reduceEq, Nat.reduceAdd, Nat.reduceSub, Nat.reduceMul, Nat.reduceLT, Nat.reduceLeDiff, Nat.reduceEqDiff, Nat.reduceBEq, Int.reduceToNat, Int.reduceLT, Int.reduceLE, Int.reduceGT, Int.reduceGE, Int.reduceAdd, Int.reduceSub, Int.reduceMul, Int.reduceNeg, Int.reduceBEq, Int.reduceBNe, Int.reducePow, Int.reduceDiv, Int.reduceMod, Int.reduceTDiv, Int.reduceTMod, Int.reduceNatCast]
                            repeat (with_reducible refine And.intro (by first | assumption | omega | (simp; done) | (simp; omega)) ?_)
                            refine toEnd hC ?_
                            refine endX_blk ?_
                            refine endX_q (roundQ_normal ⟨m4, by omega, F17_S4 (IntKind.wrap .i64 (x25 - v34)) x26 (IntKind.wrap .i64 (x27 + (1 : Int))) x28 x29 x30 x31, ?_, (IntKind.wrap .i64 (x25 - v34)), x26, (IntKind.wrap .i64 (x27 + (1 : Int))), x28, x29, x30, x31, rfl, by omega, h⟩)
                            simp only [F17_S4]
                            (try simp -implicitDefEqProofs (maxSteps := 4000000) (disch := first | omega | decide | (simp only [go_sem]; omega)) only [go_sem, ↓reduceIte, String.reduceEq, String.reduceNe, reduceCtorEq, Int.reduceEq, Nat.reduceAdd, Nat.reduceSub, Nat.reduceMul, Nat.reduceLT, Nat.reduceLeDiff, Nat.reduceEqDiff, Nat.reduceBEq, Int.reduceToNat, Int.reduceLT, Int.reduceLE, Int.reduceGT, Int.reduceGE, Int.reduceAdd, Int.reduceSub, Int.reduceMul, Int.reduceNeg, Int.reduceBEq, Int.reduceBNe, Int.reducePow, Int.reduceDiv, Int.reduceMod, Int.reduceTDiv, Int.reduceTMod, Int.reduceNatCast])
                            first | exact leS_refl _ | (refine leS_le ?_ ?_ <;> first | exact leL_refl _ | exact leOs_refl _ | (repeat (first | exact leL_refl _ | refine leL_cons (by first | exact leT_refl _ | exact leT_virt | exact leT_junk _ | exact leT_sl | exact leT_sln | exact leT_nil) ?_)))
                          · refine runX_condF rfl c33 ?_
                            refine runX_exit ?_
                            refine endX_seqE ?_
                            refine endX_q (roundQ_exit ?_)
                            refine endX_blkE ?_
                            refine endX_seq ?_
                            refine runX_seq ?_
                            refine runX_regionC fun C hC => ?_
                            try simp -implicitDefEqProofs (maxSteps := 4000000) (disch := first | omega | decide | (simp only [go_sem]; omega)) only [go_sem, ↓reduceIte, String.reduceEq, String.reduceNe, reduceCtorEq, Int.reduceEq, Nat.reduceAdd, Nat.reduceSub, Nat.reduceMul, Nat.reduceLT, Nat.reduceLeDiff, Nat.reduceEqDiff, Nat.reduceBEq, Int.reduceToNat, Int.reduceLT, Int.reduceLE, Int.reduceGT, Int.reduceGE, Int.reduceAdd, Int.reduceSub, Int.reduceMul, Int.reduceNeg, Int.reduceBEq, Int.reduceBNe, Int.reducePow, Int.reduceDiv, Int.reduceMod, Int.reduceTDiv, Int.reduceTMod, Int.reduceNatCast]
                            repeat (with_reducible refine And.intro (by first | assumption | omega | (simp; done) | (simp; omega)) ?_)
                            refine toEnd hC ?_
                            refine endX_seq ?_
                            refine runX_seq ?_
                            refine runX_regionC fun C hC => ?_
                            try simp -implicitDefEqProofs (maxSteps := 4000000) (disch := first | omega | decide | (simp only [go_sem]; omega)) only [go_sem, ↓reduceIte, String.reduceEq, String.reduceNe, reduceCtorEq, Int.reduceEq, Nat.reduceAdd, Nat.reduceSub, Nat.reduceMul, Nat.reduceLT, Nat.reduceLeDiff, Nat.reduceEqDiff, Nat.reduceBEq, Int.reduceToNat, Int.reduceLT, Int.reduceLE, Int.reduceGT, Int.reduceGE, Int.reduceAdd, Int.reduceSub, Int.reduceMul, Int.reduceNeg, Int.reduceBEq, Int.reduceBNe, Int.reducePow, Int.reduceDiv, Int.reduceMod, Int.reduceTDiv, Int.reduceTMod, Int.reduceNatCast]
                            repeat (with_reducible refine And.intro (by first | assumption | omega | (simp; done) | (simp; omega)) ?_)
                            refine toEnd hC ?_
                            refine endX_seq ?_
                            refine runX_ret ?_
                            refine endX_q ?_
                            obtain rfl := Option.some.inj h
                            show RetW _ _ _ _ _
                            simp only [RetW]
                            (try simp -implicitDefEqProofs (maxSteps := 4000000) (disch := first | omega | decide | (simp only [go_sem]; omega)) only [go_sem, ↓reduceIte, String.reduceEq, String.reduceNe, reduceCtorEq, Int.reduceEq, Nat.reduceAdd, Nat.reduceSub, Nat.reduceMul, Nat.reduceLT, Nat.reduceLeDiff, Nat.reduceEqDiff, Nat.reduceBEq, Int.reduceToNat, Int.reduceLT, Int.reduceLE, Int.reduceGT, Int.reduceGE, Int.reduceAdd, Int.reduceSub, Int.reduceMul, Int.reduceNeg, Int.reduceBEq, Int.reduceBNe, Int.reducePow, Int.reduceDiv, Int.reduceMod, Int.reduceTDiv, Int.reduceTMod, Int.reduceNatCast])
                            first | exact leT_refl _ | (refine ⟨rfl, ?_⟩; first | exact leT_refl _ | exact leT_sl | exact leT_sln | exact leT_nil | (refine leT_tup (by repeat (first | exact leL_refl _ | refine leL_cons (by first | exact leT_refl _ | exact leT_virt | exact leT_junk _ | exact leT_sl | exact leT_sln | exact leT_nil) ?_))) | (refine leT_agg (by repeat (first | exact leL_refl _ | refine leL_cons (by first | exact leT_refl _ | exact leT_virt | exact leT_junk _ | exact leT_sl | exact leT_sln | exact leT_nil) ?_)))) | (first | exact leT_refl _ | exact leT_sl | exact leT_sln | exact leT_nil | (refine leT_tup (by repeat (first | exact leL_refl _ | refine leL_cons (by first | exact leT_refl _ | exact leT_virt | exact leT_junk _ | exact leT_sl | exact leT_sln | exact leT_nil) ?_))) | (refine leT_agg (by repeat (first | exact leL_refl _ | refine leL_cons (by first | exact leT_refl _ | exact leT_virt | exact leT_junk _ | exact leT_sl | exact leT_sln | exact leT_nil) ?_))))
end Go.Proofs.YtdfghdppbfabfaaX

set_option linter.unusedVariables false
set_option linter.unusedSimpArgs false
namespace Go.Proofs.YtdfghdppbfabfaaX
open Go Go.RowKit Go.Proofs
set_option maxRecDepth 100000
/-! ### clock.Seconds -/
def F18 (n : Nat) (a0 : (Int) × (Int) × (Int) × (Int) × (Int) × (Int)) : Option ((Int) × (Bool)) := (F46 n (a0.1, a0.2.1, a0.2.2.1, a0.2.2.2.1, a0.2.2.2.2.1, a0.2.2.2.2.2)).bind fun v1 => iteB (!v1) (some ((0 : Int), false)) ((F47 n (a0.1, a0.2.1, a0.2.2.1, a0.2.2.2.1, a0.2.2.2.2.1, a0.2.2.2.2.2)).bind fun v3 => some ((IntKind.wrap .i64 ((IntKind.wrap .i64 ((IntKind.wrap .i64 ((IntKind.wrap .i64 ((IntKind.wrap .i64 (v3 - (719162 : Int))) * (86400 : Int))) + (IntKind.wrap .i64 (a0.2.2.2.1 * (3600 : Int))))) + (IntKind.wrap .i64 (a0.2.2.2.2.1 * (60 : Int))))) + a0.2.2.2.2.2)), true))
set_option maxHeartbeats 4000000 in
theorem F18_ok : ∀ (n : Nat) (a0 : (Int) × (Int) × (Int) × (Int) × (Int) × (Int)) (r : (Int) × (Bool)), F18 n a0 = some r → FnC Try.prog 18 [.agg [.imm (.int .i64 a0.1), .imm (.int .i64 a0.2.1), .imm (.int .i64 a0.2.2.1), .imm (.int .i64 a0.2.2.2.1), .imm (.int .i64 a0.2.2.2.2.1), .imm (.int .i64 a0.2.2.2.2.2)]] (.tup [.imm (.int .i64 r.1), .imm (.bool r.2)])
  | n, a0, r, h => by
    unfold F18 at h
    refine FnC.goX mixed Try.func18 (by kernel_rfl) rfl ?_
    simp only [Try.ntmps18, List.length_cons, List.length_nil, List.replicate, List.cons_append, List.nil_append, Nat.reduceAdd, Nat.reduceSub]
    refine runX_seq ?_
    refine runX_regionC fun C hC => ?_
    try simp -implicitDefEqProofs (maxSteps := 4000000) (disch := first | omega | decide | (simp only [go_sem]; omega)) only [go_sem, ↓reduceIte, String.reduceEq, String.reduceNe, reduceCtorEq, Int.reduceEq, Nat.reduceAdd, Nat.reduceSub, Nat.reduceMul, Nat.reduceLT, Nat.reduceLeDiff, Nat.reduceEqDiff, Nat.reduceBEq, Int.reduceToNat, Int.reduceLT, Int.reduceLE, Int.reduceGT, Int.reduceGE, Int.reduceAdd, Int.reduceSub, Int.reduceMul, Int.reduceNeg, Int.reduceBEq, Int.reduceBNe, Int.reducePow, Int.reduceDiv, Int.reduceMod, Int.reduceTDiv, Int.reduceTMod, Int.reduceNatCast]
    repeat (with_reducible refine And.intro (by first | assumption | omega | (simp; done) | (simp; omega)) ?_)
    refine toEnd hC ?_
    refine endX_seq ?_
    refine runX_seq ?_
    refine runX_seq ?_
    refine runX_regionC fun C hC => ?_
    obtain ⟨v1, h1, h⟩ := bnd_some h
    try simp -implicitDefEqProofs (maxSteps := 4000000) (disch := first | omega | decide | (simp only [go_sem]; omega)) only [go_sem, ↓reduceIte, String.reduceEq, String.reduceNe, reduceCtorEq, Int.reduceEq, Nat.reduceAdd, Nat.reduceSub, Nat.reduceMul, Nat.reduceLT, Nat.reduceLeDiff, Nat.reduceEqDiff, Nat.reduceBEq, Int.reduceToNat, Int.reduceLT, Int.reduceLE, Int.reduceGT, Int.reduceGE, Int.reduceAdd, Int.reduceSub, Int.reduceMul, Int.reduceNeg, Int.reduceBEq, Int.reduceBNe, Int.reducePow, Int.reduceDiv, Int.reduceMod, Int.reduceTDiv, Int.reduceTMod, Int.reduceNatCast]
    repeat (with_reducible refine And.intro (by first | assumption | omega | (simp; done) | (simp; omega)) ?_)
    refine callG_X (F46_ok n (a0.1, a0.2.1, a0.2.2.1, a0.2.2.2.1, a0.2.2.2.2.1, a0.2.2.2.2.2) _ h1) (by repeat (first | exact leL_refl _ | refine leL_cons (by first | exact leT_refl _ | exact leT_virt | exact leT_junk _ | exact leT_sl | exact leT_sln | exact leT_nil) ?_)) ?_
    try simp -implicitDefEqProofs (maxSteps := 4000000) (disch := first | omega | decide | (simp only [go_sem]; omega)) only [go_sem, ↓reduceIte, String.reduceEq, String.reduceNe, reduceCtorEq, Int.reduceEq, Nat.reduceAdd, Nat.reduceSub, Nat.reduceMul, Nat.reduceLT, Nat.reduceLeDiff, Nat.reduceEqDiff, Nat.reduceBEq, Int.reduceToNat, Int.reduceLT, Int.reduceLE, Int.reduceGT, Int.reduceGE, Int.reduceAdd, Int.reduceSub, Int.reduceMul, Int.reduceNeg, Int.reduceBEq, Int.reduceBNe, Int.reducePow, Int.reduceDiv, Int.reduceMod, Int.reduceTDiv, Int.reduceTMod, Int.reduceNatCast]
    repeat (with_reducible refine And.intro (by first | assumption | omega | (simp; done) | (simp; omega)) ?_)
    refine toEnd hC ?_
    refine endX_seq ?_
    rcases iteB_some h with ⟨c2, h⟩ | ⟨c2, h⟩
    · refine runX_condT rfl c2 ?_
      refine runX_seq ?_
      refine runX_regionC fun C hC => ?_
      try simp -implicitDefEqProofs (maxSteps := 4000000) (disch := first | omega | decide | (simp only [go_sem]; omega)) only [go_sem, ↓reduceIte, String.reduceEq, String.reduceNe, reduceCtorEq, Int.reduceEq, Nat.reduceAdd, Nat.reduceSub, Nat.reduceMul, Nat.reduceLT, Nat.reduceLeDiff, Nat.reduceEqDiff, Nat.reduceBEq, Int.reduceToNat, Int.reduceLT, Int.reduceLE, Int.reduceGT, Int.reduceGE, Int.reduceAdd, Int.reduceSub, Int.reduceMul, Int.reduceNeg, Int.reduceBEq, Int.reduceBNe, Int.reducePow, Int.reduceDiv, Int.reduceMod, Int.reduceTDiv, Int.reduceTMod, Int.reduceNatCast]
      repeat (with_reducible refine And.intro (by first | assumption | omega | (simp; done) | (simp; omega)) ?_)
      refine toEnd hC ?_
      refine endX_seq ?_
      refine runX_ret ?_
      refine endX_seqR ?_
      refine endX_q ?_
      obtain rfl := Option.some.inj h
      show RetW _ _ _ _ _
      simp only [RetW]
      (try simp -implicitDefEqProofs (maxSteps := 4000000) (disch := first | omega | decide | (simp only [go_sem]; omega)) only [go_sem, ↓reduceIte, String.reduceEq, String.reduceNe, reduceCtorEq, Int.reduceEq, Nat.reduceAdd, Nat.reduceSub, Nat.reduceMul, Nat.reduceLT, Nat.reduceLeDiff, Nat.reduceEqDiff, Nat.reduceBEq, Int.reduceToNat, Int.reduceLT, Int.reduceLE, Int.reduceGT, Int.reduceGE, Int.reduceAdd, Int.reduceSub, Int.reduceMul, Int.reduceNeg, Int.reduceBEq, Int.reduceBNe, Int.reducePow, Int.reduceDiv, Int.reduceMod, Int.reduceTDiv, Int.reduceTMod, Int.reduceNatCast])
      first | exact leT_refl _ | (refine ⟨rfl, ?_⟩; first | exact leT_refl _ | exact leT_sl | exact leT_sln | exact leT_nil | (refine leT_tup (by repeat (first | exact leL_refl _ | refine leL_cons (by first | exact leT_refl _ | exact leT_virt | exact leT_junk _ | exact leT_sl | exact leT_sln | exact leT_nil) ?_))) | (refine leT_agg (by repeat (first | exact leL_refl _ | refine leL_cons (by first | exact leT_refl _ | exact leT_virt | exact leT_junk _ | exact leT_sl | exact leT_sln | exact leT_nil) ?_)))) | (first | exact leT_refl _ | exact leT_sl | exact leT_sln | exact leT_nil | (refine leT_tup (by repeat (first | exact leL_refl _ | refine leL_cons (by first | exact leT_refl _ | exact leT_virt | exact leT_junk _ | exact leT_sl | exact leT_sln | exact leT_nil) ?_))) | (refine leT_agg (by repeat (first | exact leL_refl _ | refine leL_cons (by first | exact leT_refl _ | exact leT_virt | exact leT_junk _ | exact leT_sl | exact leT_sln | exact leT_nil) ?_))))
    · refine runX_condF rfl c2 ?_
      refine runX_skip ?_
      refine endX_seq ?_
      refine runX_seq ?_
      refine runX_drawC mixed (by kernel_rfl) fun C hC => ?_
      obtain ⟨v3, h3, h⟩ := bnd_some h
      try simp -implicitDefEqProofs (maxSteps := 4000000) (disch := first | omega | decide | (simp only [go_sem]; omega)) only [go_sem, ↓reduceIte, String.reduceEq, String.reduceNe, reduceCtorEq, Int.reduceEq, Nat.reduceAdd, Nat.reduceSub, Nat.reduceMul, Nat.reduceLT, Nat.reduceLeDiff, Nat.reduceEqDiff, Nat.reduceBEq, Int.reduceToNat, Int.reduceLT, Int.reduceLE, Int.reduceGT, Int.reduceGE, Int.reduceAdd, Int.reduceSub, Int.reduceMul, Int.reduceNeg, Int.reduceBEq, Int.reduceBNe, Int.reducePow, Int.reduceDiv, Int.reduceMod, Int.reduceTDiv, Int.reduceTMod, Int.reduceNatCast]
      repeat (with_reducible refine And.intro (by first | assumption | omega | (simp; done) | (simp; omega)) ?_)
      refine callD_X (F47_ok n (a0.1, a0.2.1, a0.2.2.1, a0.2.2.2.1, a0.2.2.2.2.1, a0.2.2.2.2.2) _ h3) (by repeat (first | exact leL_refl _ | refine leL_cons (by first | exact leT_refl _ | exact leT_virt | exact leT_junk _ | exact leT_sl | exact leT_sln | exact leT_nil) ?_)) ?_
      try simp -implicitDefEqProofs (maxSteps := 4000000) (disch := first | omega | decide | (simp only [go_sem]; omega)) only [go_sem, ↓reduceIte, String.reduceEq, String.reduceNe, reduceCtorEq, Int.reduceEq, Nat.reduceAdd, Nat.reduceSub, Nat.reduceMul, Nat.reduceLT, Nat.reduceLeDiff, Nat.reduceEqDiff, Nat.reduceBEq, Int.reduceToNat, Int.reduceLT, Int.reduceLE, Int.reduceGT, Int.reduceGE, Int.reduceAdd, Int.reduceSub, Int.reduceMul, Int.reduceNeg, Int.reduceBEq, Int.reduceBNe, Int.reducePow, Int.reduceDiv, Int.reduceMod, Int.reduceTDiv, Int.reduceTMod, Int.reduceNatCast]
      repeat (with_reducible refine And.intro (by first | assumption | omega | (simp; done) | (simp; omega)) ?_)
      refine toEnd hC ?_
      refine endX_seq ?_
      refine runX_ret ?_
      refine endX_q ?_
      obtain rfl := Option.some.inj h
      show RetW _ _ _ _ _
      simp only [RetW]
      (try simp -implicitDefEqProofs (maxSteps := 4000000) (disch := first | omega | decide | (simp only [go_sem]; omega)) only [go_sem, ↓reduceIte, String.reduceEq, String.reduceNe, reduceCtorEq, Int.reduceEq, Nat.reduceAdd, Nat.reduceSub, Nat.reduceMul, Nat.reduceLT, Nat.reduceLeDiff, Nat.reduceEqDiff, Nat.reduceBEq, Int.reduceToNat, Int.reduceLT, Int.reduceLE, Int.reduceGT, Int.reduceGE, Int.reduceAdd, Int.reduceSub, Int.reduceMul, Int.reduceNeg, Int.reduceBEq, Int.reduceBNe, Int.reducePow, Int.reduceDiv, Int.reduceMod, Int.reduceTDiv, Int.reduceTMod, Int.reduceNatCast])
      first | exact leT_refl _ | (refine ⟨rfl, ?_⟩; first | exact leT_refl _ | exact leT_sl | exact leT_sln | exact leT_nil | (refine leT_tup (by repeat (first | exact leL_refl _ | refine leL_cons (by first | exact leT_refl _ | exact leT_virt | exact leT_junk _ | exact leT_sl | exact leT_sln | exact leT_nil) ?_))) | (refine leT_agg (by repeat (first | exact leL_refl _ | refine leL_cons (by first | exact leT_refl _ | exact leT_virt | exact leT_junk _ | exact leT_sl | exact leT_sln | exact leT_nil) ?_)))) | (first | exact leT_refl _ | exact leT_sl | exact leT_sln | exact leT_nil | (refine leT_tup (by repeat (first | exact leL_refl _ | refine leL_cons (by first | exact leT_refl _ | exact leT_virt | exact leT_junk _ | exact leT_sl | exact leT_sln | exact leT_nil) ?_))) | (refine leT_agg (by repeat (first | exact leL_refl _ | refine leL_cons (by first | exact leT_refl _ | exact leT_virt | exact leT_junk _ | exact leT_sl | exact leT_sln | exact leT_nil) ?_))))
end Go.Proofs.YtdfghdppbfabfaaX

set_option linter.unusedVariables false
set_option linter.unusedSimpArgs false
namespace Go.Proofs.YtdfghdppbfabfaaX
open Go Go.RowKit Go.Proofs
set_option maxRecDepth 100000
/-! ### shadowboxref15.in -/
def F68 (n : Nat) (a0 : Int) (a1 : Int) (a2 : Int) : Option (Bool) := iteB (decide (a1 ≤ a0)) (some (decide (a0 ≤ a2))) (some false)
set_option maxHeartbeats 4000000 in
theorem F68_ok : ∀ (n : Nat) (a0 : Int) (a1 : Int) (a2 : Int) (r : Bool), F68 n a0 a1 a2 = some r → FnC Try.prog 68 [.imm (.int .i64 a0), .imm (.int .i64 a1), .imm (.int .i64 a2)] (.imm (.bool r))
  | n, a0, a1, a2, r, h => by
    unfold F68 at h
    refine FnC.goX mixed Try.func68 (by kernel_rfl) rfl ?_
    simp only [Try.ntmps68, List.length_cons, List.length_nil, List.replicate, List.cons_append, List.nil_append, Nat.reduceAdd, Nat.reduceSub]
    refine runX_seq ?_
    refine runX_regionC fun C hC => ?_
    try simp -implicitDefEqProofs (maxSteps := 4000000) (disch := first | omega | decide | (simp only [go_sem]; omega)) only [go_sem, ↓reduceIte, String.reduceEq, String.reduceNe, reduceCtorEq, Int.reduceEq, Nat.reduceAdd, Nat.reduceSub, Nat.reduceMul, Nat.reduceLT, Nat.reduceLeDiff, Nat.reduceEqDiff, Nat.reduceBEq, Int.reduceToNat, Int.reduceLT, Int.reduceLE, Int.reduceGT, Int.reduceGE, Int.reduceAdd, Int.reduceSub, Int.reduceMul, Int.reduceNeg, Int.reduceBEq, Int.reduceBNe, Int.reducePow, Int.reduceDiv, Int.reduceMod, Int.reduceTDiv, Int.reduceTMod, Int.reduceNatCast]
    repeat (with_reducible refine And.intro (by first | assumption | omega | (simp; done) | (simp; omega)) ?_)
    refine toEnd hC ?_
    refine endX_seq ?_
    refine runX_seq ?_
    refine runX_regionC fun C hC => ?_
    try simp -implicitDefEqProofs (maxSteps := 4000000) (disch := first | omega | decide | (simp only [go_sem]; omega)) only [go_sem, ↓reduceIte, String.reduceEq, String.reduceNe, reduceCtorEq, Int.reduceEq, Nat.reduceAdd, Nat.reduceSub, Nat.reduceMul, Nat.reduceLT, Nat.reduceLeDiff, Nat.reduceEqDiff, Nat.reduceBEq, Int.reduceToNat, Int.reduceLT, Int.reduceLE, Int.reduceGT, Int.reduceGE, Int.reduceAdd, Int.reduceSub, Int.reduceMul, Int.reduceNeg, Int.reduceBEq, Int.reduceBNe, Int.reducePow, Int.reduceDiv, Int.reduceMod, Int.reduceTDiv, Int.reduceTMod, Int.reduceNatCast]
    repeat (with_reducible refine And.intro (by first | assumption | omega | (simp; done) | (simp; omega)) ?_)
    rcases iteB_some h with ⟨c1, h⟩ | ⟨c1, h⟩
    · refine guardK_T c1 ?_
      try simp -implicitDefEqProofs (maxSteps := 4000000) (disch := first | omega | decide | (simp only [go_sem]; omega)) only [go_sem, ↓reduceIte, String.reduceEq, String.reduceNe, reduceCtorEq, Int.reduceEq, Nat.reduceAdd, Nat.reduceSub, Nat.reduceMul, Nat.reduceLT, Nat.reduceLeDiff, Nat.reduceEqDiff, Nat.reduceBEq, Int.reduceToNat, Int.reduceLT, Int.reduceLE, Int.reduceGT, Int.reduceGE, Int.reduceAdd, Int.reduceSub, Int.reduceMul, Int.reduceNeg, Int.reduceBEq, Int.reduceBNe, Int.reducePow, Int.reduceDiv, Int.reduceMod, Int.reduceTDiv, Int.reduceTMod, Int.reduceNatCast]
      repeat (with_reducible refine And.intro (by first | assumption | omega | (simp; done) | (simp; omega)) ?_)
      refine toEnd hC ?_
      refine endX_seq ?_
      refine runX_ret ?_
      refine endX_q ?_
      obtain rfl := Option.some.inj h
      show RetW _ _ _ _ _
      simp only [RetW]
      (try simp -implicitDefEqProofs (maxSteps := 4000000) (disch := first | omega | decide | (simp only [go_sem]; omega)) only [go_sem, ↓reduceIte, String.reduceEq, String.reduceNe, reduceCtorEq, Int.reduceEq, Nat.reduceAdd, Nat.reduceSub, Nat.reduceMul, Nat.reduceLT, Nat.reduceLeDiff, Nat.reduceEqDiff, Nat.reduceBEq, Int.reduceToNat, Int.reduceLT, Int.reduceLE, Int.reduceGT, Int.reduceGE, Int.reduceAdd, Int.reduceSub, Int.reduceMul, Int.reduceNeg, Int.reduceBEq, Int.reduceBNe, Int.reducePow, Int.reduceDiv, Int.reduceMod, Int.reduceTDiv, Int.reduceTMod, Int.reduceNatCast])
      first | exact leT_refl _ | (refine ⟨rfl, ?_⟩; first | exact leT_refl _ | exact leT_sl | exact leT_sln | exact leT_nil | (refine leT_tup (by repeat (first | exact leL_refl _ | refine leL_cons (by first | exact leT_refl _ | exact leT_virt | exact leT_junk _ | exact leT_sl | exact leT_sln | exact leT_nil) ?_))) | (refine leT_agg (by repeat (first | exact leL_refl _ | refine leL_cons (by first | exact leT_refl _ | exact leT_virt | exact leT_junk _ | exact leT_sl | exact leT_sln | exact leT_nil) ?_)))) | (first | exact leT_refl _ | exact leT_sl | exact leT_sln | exact leT_nil | (refine leT_tup (by repeat (first | exact leL_refl _ | refine leL_cons (by first | exact leT_refl _ | exact leT_virt | exact leT_junk _ | exact leT_sl | exact leT_sln | exact leT_nil) ?_))) | (refine leT_agg (by repeat (first | exact leL_refl _ | refine leL_cons (by first | exact leT_refl _ | exact leT_virt | exact leT_junk _ | exact leT_sl | exact leT_sln | exact leT_nil) ?_))))
    · refine guardK_F c1 ?_
      try simp -implicitDefEqProofs (maxSteps := 4000000) (disch := first | omega | decide | (simp only [go_sem]; omega)) only [go_sem, ↓reduceIte, String.reduceEq, String.reduceNe, reduceCtorEq, Int.reduceEq, Nat.reduceAdd, Nat.reduceSub, Nat.reduceMul, Nat.reduceLT, Nat.reduceLeDiff, Nat.reduceEqDiff, Nat.reduceBEq, Int.reduceToNat, Int.reduceLT, Int.reduceLE, Int.reduceGT, Int.reduceGE, Int.reduceAdd, Int.reduceSub, Int.reduceMul, Int.reduceNeg, Int.reduceBEq, Int.reduceBNe, Int.reducePow, Int.reduceDiv, Int.reduceMod, Int.reduceTDiv, Int.reduceTMod, Int.reduceNatCast]
      repeat (with_reducible refine And.intro (by first | assumption | omega | (simp; done) | (simp; omega)) ?_)
      refine toEnd hC ?_
      refine endX_seq ?_
      refine runX_ret ?_
      refine endX_q ?_
      obtain rfl := Option.some.inj h
      show RetW _ _ _ _ _
      simp only [RetW]
      (try simp -implicitDefEqProofs (maxSteps := 4000000) (disch := first | omega | decide | (simp only [go_sem]; omega)) only [go_sem, ↓reduceIte, String.reduceEq, String.reduceNe, reduceCtorEq, Int.reduceEq, Nat.reduceAdd, Nat.reduceSub, Nat.reduceMul, Nat.reduceLT, Nat.reduceLeDiff, Nat.reduceEqDiff, Nat.reduceBEq, Int.reduceToNat, Int.reduceLT, Int.reduceLE, Int.reduceGT, Int.reduceGE, Int.reduceAdd, Int.reduceSub, Int.reduceMul, Int.reduceNeg, Int.reduceBEq, Int.reduceBNe, Int.reducePow, Int.reduceDiv, Int.reduceMod, Int.reduceTDiv, Int.reduceTMod, Int.reduceNatCast])
      first | exact leT_refl _ | (refine ⟨rfl, ?_⟩; first | exact leT_refl _ | exact leT_sl | exact leT_sln | exact leT_nil | (refine leT_tup (by repeat (first | exact leL_refl _ | refine leL_cons (by first | exact leT_refl _ | exact leT_virt | exact leT_junk _ | exact leT_sl | exact leT_sln | exact leT_nil) ?_))) | (refine leT_agg (by repeat (first | exact leL_refl _ | refine leL_cons (by first | exact leT_refl _ | exact leT_virt | exact leT_junk _ | exact leT_sl | exact leT_sln | exact leT_nil) ?_)))) | (first | exact leT_refl _ | exact leT_sl | exact leT_sln | exact leT_nil | (refine leT_tup (by repeat (first | exact leL_refl _ | refine leL_cons (by first | exact leT_refl _ | exact leT_virt | exact leT_junk _ | exact leT_sl | exact leT_sln | exact leT_nil) ?_))) | (refine leT_agg (by repeat (first | exact leL_refl _ | refine leL_cons (by first | exact leT_refl _ | exact leT_virt | exact leT_junk _ | exact leT_sl | exact leT_sln | exact leT_nil) ?_))))
end Go.Proofs.YtdfghdppbfabfaaX

set_option linter.unusedVariables false
set_option linter.unusedSimpArgs false
namespace Go.Proofs.YtdfghdppbfabfaaX
open Go Go.RowKit Go.Proofs
set_option maxRecDepth 100000
/-! ### shadowboxref15.Right -/
def F52 (n : Nat) (a0 : (Int) × (Int) × (Int) × (Int) × (Int) × (Int)) : Option (Bool) := (F68 n a0.1 (1 : Int) (9999 : Int)).bind fun v1 => iteB v1 ((F68 n a0.2.1 (1 : Int) (12 : Int)).bind fun v3 => iteB v3 ((F28 n a0.1 a0.2.1).bind fun v5 => (F68 n a0.2.2.1 (1 : Int) v5).bind fun v6 => iteB v6 ((F68 n a0.2.2.2.1 (0 : Int) (23 : Int)).bind fun v8 => iteB v8 ((F68 n a0.2.2.2.2.1 (0 : Int) (59 : Int)).bind fun v10 => iteB v10 ((F68 n a0.2.2.2.2.2 (0 : Int) (59 : Int)).bind fun v12 => some v12) (some false)) (some false)) (some false)) (some false)) (some false)
set_option maxHeartbeats 4000000 in
theorem F52_ok : ∀ (n : Nat) (a0 : (Int) × (Int) × (Int) × (Int) × (Int) × (Int)) (r : Bool), F52 n a0 = some r → FnC Try.prog 52 [.agg [.imm (.int .i64 a0.1), .imm (.int .i64 a0.2.1), .imm (.int .i64 a0.2.2.1), .imm (.int .i64 a0.2.2.2.1), .imm (.int .i64 a0.2.2.2.2.1), .imm (.int .i64 a0.2.2.2.2.2)]] (.imm (.bool r))
  | n, a0, r, h => by
    unfold F52 at h
    refine FnC.goX mixed Try.func52 (by kernel_rfl) rfl ?_
    simp only [Try.ntmps52, List.length_cons, List.length_nil, List.replicate, List.cons_append, List.nil_append, Nat.reduceAdd, Nat.reduceSub]
    refine runX_seq ?_
    refine runX_regionC fun C hC => ?_
    try simp -implicitDefEqProofs (maxSteps := 4000000) (disch := first | omega | decide | (simp only [go_sem]; omega)) only [go_sem, ↓reduceIte, String.reduceEq, String.reduceNe, reduceCtorEq, Int.reduceEq, Nat.reduceAdd, Nat.reduceSub, Nat.reduceMul, Nat.reduceLT, Nat.reduceLeDiff, Nat.reduceEqDiff, Nat.reduceBEq, Int.reduceToNat, Int.reduceLT, Int.reduceLE, Int.reduceGT, Int.reduceGE, Int.reduceAdd, Int.reduceSub, Int.reduceMul, Int.reduceNeg, Int.reduceBEq, Int.reduceBNe, Int.reducePow, Int.reduceDiv, Int.reduceMod, Int.reduceTDiv, Int.reduceTMod, Int.reduceNatCast]
    repeat (with_reducible refine And.intro (by first | assumption | omega | (simp; done) | (simp; omega)) ?_)
    refine toEnd hC ?_
    refine endX_seq ?_
    refine runX_seq ?_
    refine runX_drawC mixed (by kernel_rfl) fun C hC => ?_
    obtain ⟨v1, h1, h⟩ := bnd_some h
    try simp -implicitDefEqProofs (maxSteps := 4000000) (disch := first | omega | decide | (simp only [go_sem]; omega)) only [go_sem, ↓reduceIte, String.reduceEq, String.reduceNe, reduceCtorEq, Int.reduceEq, Nat.reduceAdd, Nat.reduceSub, Nat.reduceMul, Nat.reduceLT, Nat.reduceLeDiff, Nat.reduceEqDiff, Nat.reduceBEq, Int.reduceToNat, Int.reduceLT, Int.reduceLE, Int.reduceGT, Int.reduceGE, Int.reduceAdd, Int.reduceSub, Int.reduceMul, Int.reduceNeg, Int.reduceBEq, Int.reduceBNe, Int.reducePow, Int.reduceDiv, Int.reduceMod, Int.reduceTDiv, Int.reduceTMod, Int.reduceNatCast]
    repeat (with_reducible refine And.intro (by first | assumption | omega | (simp; done) | (simp; omega)) ?_)
    refine callD_X (F68_ok n a0.1 (1 : Int) (9999 : Int) _ h1) (by repeat (first | exact leL_refl _ | refine leL_cons (by first | exact leT_refl _ | exact leT_virt | exact leT_junk _ | exact leT_sl | exact leT_sln | exact leT_nil) ?_)) ?_
    try simp -implicitDefEqProofs (maxSteps := 4000000) (disch := first | omega | decide | (simp only [go_sem]; omega)) only [go_sem, ↓reduceIte, String.reduceEq, String.reduceNe, reduceCtorEq, Int.reduceEq, Nat.reduceAdd, Nat.reduceSub, Nat.reduceMul, Nat.reduceLT, Nat.reduceLeDiff, Nat.reduceEqDiff, Nat.reduceBEq, Int.reduceToNat, Int.reduceLT, Int.reduceLE, Int.reduceGT, Int.reduceGE, Int.reduceAdd, Int.reduceSub, Int.reduceMul, Int.reduceNeg, Int.reduceBEq, Int.reduceBNe, Int.reducePow, Int.reduceDiv, Int.reduceMod, Int.reduceTDiv, Int.reduceTMod, Int.reduceNatCast]
    repeat (with_reducible refine And.intro (by first | assumption | omega | (simp; done) | (simp; omega)) ?_)
    rcases iteB_some h with ⟨c2, h⟩ | ⟨c2, h⟩
    · refine guardD_T c2 ?_
      obtain ⟨v3, h3, h⟩ := bnd_some h
      try simp -implicitDefEqProofs (maxSteps := 4000000) (disch := first | omega | decide | (simp only [go_sem]; omega)) only [go_sem, ↓reduceIte, String.reduceEq, String.reduceNe, reduceCtorEq, Int.reduceEq, Nat.reduceAdd, Nat.reduceSub, Nat.reduceMul, Nat.reduceLT, Nat.reduceLeDiff, Nat.reduceEqDiff, Nat.reduceBEq, Int.reduceToNat, Int.reduceLT, Int.reduceLE, Int.reduceGT, Int.reduceGE, Int.reduceAdd, Int.reduceSub, Int.reduceMul, Int.reduceNeg, Int.reduceBEq, Int.reduceBNe, Int.reducePow, Int.reduceDiv, Int.reduceMod, Int.reduceTDiv, Int.reduceTMod, Int.reduceNatCast]
      repeat (with_reducible refine And.intro (by first | assumption | omega | (simp; done) | (simp; omega)) ?_)
      refine callD_X (F68_ok n a0.2.1 (1 : Int) (12 : Int) _ h3) (by repeat (first | exact leL_refl _ | refine leL_cons (by first | exact leT_refl _ | exact leT_virt | exact leT_junk _ | exact leT_sl | exact leT_sln | exact leT_nil) ?_)) ?_
      try simp -implicitDefEqProofs (maxSteps := 4000000) (disch := first | omega | decide | (simp only [go_sem]; omega)) only [go_sem, ↓reduceIte, String.reduceEq, String.reduceNe, reduceCtorEq, Int.reduceEq, Nat.reduceAdd, Nat.reduceSub, Nat.reduceMul, Nat.reduceLT, Nat.reduceLeDiff, Nat.reduceEqDiff, Nat.reduceBEq, Int.reduceToNat, Int.reduceLT, Int.reduceLE, Int.reduceGT, Int.reduceGE, Int.reduceAdd, Int.reduceSub, Int.reduceMul, Int.reduceNeg, Int.reduceBEq, Int.reduceBNe, Int.reducePow, Int.reduceDiv, Int.reduceMod, Int.reduceTDiv, Int.reduceTMod, Int.reduceNatCast]
      repeat (with_reducible refine And.intro (by first | assumption | omega | (simp; done) | (simp; omega)) ?_)
      rcases iteB_some h with ⟨c4, h⟩ | ⟨c4, h⟩
      · refine guardD_T c4 ?_
        obtain ⟨v5, h5, h⟩ := bnd_some h
        try simp -implicitDefEqProofs (maxSteps := 4000000) (disch := first | omega | decide | (simp only [go_sem]; omega)) only [go_sem, ↓reduceIte, String.reduceEq, String.reduceNe, reduceCtorEq, Int.reduceEq, Nat.reduceAdd, Nat.reduceSub, Nat.reduceMul, Nat.reduceLT, Nat.reduceLeDiff, Nat.reduceEqDiff, Nat.reduceBEq, Int.reduceToNat, Int.reduceLT, Int.reduceLE, Int.reduceGT, Int.reduceGE, Int.reduceAdd, Int.reduceSub, Int.reduceMul, Int.reduceNeg, Int.reduceBEq, Int.reduceBNe, Int.reducePow, Int.reduceDiv, Int.reduceMod, Int.reduceTDiv, Int.reduceTMod, Int.reduceNatCast]
        repeat (with_reducible refine And.intro (by first | assumption | omega | (simp; done) | (simp; omega)) ?_)
        refine callD_X (F28_ok n a0.1 a0.2.1 _ h5) (by repeat (first | exact leL_refl _ | refine leL_cons (by first | exact leT_refl _ | exact leT_virt | exact leT_junk _ | exact leT_sl | exact leT_sln | exact leT_nil) ?_)) ?_
        obtain ⟨v6, h6, h⟩ := bnd_some h
        try simp -implicitDefEqProofs (maxSteps := 4000000) (disch := first | omega | decide | (simp only [go_sem]; omega)) only [go_sem, ↓reduceIte, String.reduceEq, String.reduceNe, reduceCtorEq, Int.reduceEq, Nat.reduceAdd, Nat.reduceSub, Nat.reduceMul, Nat.reduceLT, Nat.reduceLeDiff, Nat.reduceEqDiff, Nat.reduceBEq, Int.reduceToNat, Int.reduceLT, Int.reduceLE, Int.reduceGT, Int.reduceGE, Int.reduceAdd, Int.reduceSub, Int.reduceMul, Int.reduceNeg, Int.reduceBEq, Int.reduceBNe, Int.reducePow, Int.reduceDiv, Int.reduceMod, Int.reduceTDiv, Int.reduceTMod, Int.reduceNatCast]
        repeat (with_reducible refine And.intro (by first | assumption | omega | (simp; done) | (simp; omega)) ?_)
        refine callD_X (F68_ok n a0.2.2.1 (1 : Int) v5 _ h6) (by repeat (first | exact leL_refl _ | refine leL_cons (by first | exact leT_refl _ | exact leT_virt | exact leT_junk _ | exact leT_sl | exact leT_sln | exact leT_nil) ?_)) ?_
        try simp -implicitDefEqProofs (maxSteps := 4000000) (disch := first | omega | decide | (simp only [go_sem]; omega)) only [go_sem, ↓reduceIte, String.reduceEq, String.reduceNe, reduceCtorEq, Int.reduceEq, Nat.reduceAdd, Nat.reduceSub, Nat.reduceMul, Nat.reduceLT, Nat.reduceLeDiff, Nat.reduceEqDiff, Nat.reduceBEq, Int.reduceToNat, Int.reduceLT, Int.reduceLE, Int.reduceGT, Int.reduceGE, Int.reduceAdd, Int.reduceSub, Int.reduceMul, Int.reduceNeg, Int.reduceBEq, Int.reduceBNe, Int.reducePow, Int.reduceDiv, Int.reduceMod, Int.reduceTDiv, Int.reduceTMod, Int.reduceNatCast]
        repeat (with_reducible refine And.intro (by first | assumption | omega | (simp; done) | (simp; omega)) ?_)
        rcases iteB_some h with ⟨c7, h⟩ | ⟨c7, h⟩
        · refine guardD_T c7 ?_
          obtain ⟨v8, h8, h⟩ := bnd_some h
          try simp -implicitDefEqProofs (maxSteps := 4000000) (disch := first | omega | decide | (simp only [go_sem]; omega)) only [go_sem, ↓reduceIte, String.reduceEq, String.reduceNe, reduceCtorEq, Int.reduceEq, Nat.reduceAdd, Nat.reduceSub, Nat.reduceMul, Nat.reduceLT, Nat.reduceLeDiff, Nat.reduceEqDiff, Nat.reduceBEq, Int.reduceToNat, Int.reduceLT, Int.reduceLE, Int.reduceGT, Int.reduceGE, Int.reduceAdd, Int.reduceSub, Int.reduceMul, Int.reduceNeg, Int.reduceBEq, Int.reduceBNe, Int.reducePow, Int.reduceDiv, Int.reduceMod, Int.reduceTDiv, Int.reduceTMod, Int.reduceNatCast]
          repeat (with_reducible refine And.intro (by first | assumption | omega | (simp; done) | (simp; omega)) ?_)
          refine callD_X (F68_ok n a0.2.2.2.1 (0 : Int) (23 : Int) _ h8) (by repeat (first | exact leL_refl _ | refine leL_cons (by first | exact leT_refl _ | exact leT_virt | exact leT_junk _ | exact leT_sl | exact leT_sln | exact leT_nil) ?_)) ?_
          try simp -implicitDefEqProofs (maxSteps := 4000000) (disch := first | omega | decide | (simp only [go_sem]; omega)) only [go_sem, ↓reduceIte, String.reduceEq, String.reduceNe, reduceCtorEq, Int.reduceEq, Nat.reduceAdd, Nat.reduceSub, Nat.reduceMul, Nat.reduceLT, Nat.reduceLeDiff, Nat.reduceEqDiff, Nat.reduceBEq, Int.reduceToNat, Int.reduceLT, Int.reduceLE, Int.reduceGT, Int.reduceGE, Int.reduceAdd, Int.reduceSub, Int.reduceMul, Int.reduceNeg, Int.reduceBEq, Int.reduceBNe, Int.reducePow, Int.reduceDiv, Int.reduceMod, Int.reduceTDiv, Int.reduceTMod, Int.reduceNatCast]
          repeat (with_reducible refine And.intro (by first | assumption | omega | (simp; done) | (simp; omega)) ?_)
          rcases iteB_some h with ⟨c9, h⟩ | ⟨c9, h⟩
          · refine guardD_T c9 ?_
            obtain ⟨v10, h10, h⟩ := bnd_some h
            try simp -implicitDefEqProofs (maxSteps := 4000000) (disch := first | omega | decide | (simp only [go_sem]; omega)) only [go_sem, ↓reduceIte, String.reduceEq, String.reduceNe, reduceCtorEq, Int.reduceEq, Nat.reduceAdd, Nat.reduceSub, Nat.reduceMul, Nat.reduceLT, Nat.reduceLeDiff, Nat.reduceEqDiff, Nat.reduceBEq, Int.reduceToNat, Int.reduceLT, Int.reduceLE, Int.reduceGT, Int.reduceGE, Int.reduceAdd, Int.reduceSub, Int.reduceMul, Int.reduceNeg, Int.reduceBEq, Int.reduceBNe, Int.reducePow, Int.reduceDiv, Int.reduceMod, Int.reduceTDiv, Int.reduceTMod, Int.reduceNatCast]
            repeat (with_reducible refine And.intro (by first | assumption | omega | (simp; done) | (simp; omega)) ?_)
            refine callD_X (F68_ok n a0.2.2.2.2.1 (0 : Int) (59 : Int) _ h10) (by repeat (first | exact leL_refl _ | refine leL_cons (by first | exact leT_refl _ | exact leT_virt | exact leT_junk _ | exact leT_sl | exact leT_sln | exact leT_nil) ?_)) ?_
            try simp -implicitDefEqProofs (maxSteps := 4000000) (disch := first | omega | decide | (simp only [go_sem]; omega)) only [go_sem, ↓reduceIte, String.reduceEq, String.reduceNe, reduceCtorEq, Int.reduceEq, Nat.reduceAdd, Nat.reduceSub, Nat.reduceMul, Nat.reduceLT, Nat.reduceLeDiff, Nat.reduceEqDiff, Nat.reduceBEq, Int.reduceToNat, Int.reduceLT, Int.reduceLE, Int.reduceGT, Int.reduceGE, Int.reduceAdd, Int.reduceSub, Int.reduceMul, Int.reduceNeg, Int.reduceBEq, Int.reduceBNe, Int.reducePow, Int.reduceDiv, Int.reduceMod, Int.reduceTDiv, Int.reduceTMod, Int.reduceNatCast]
            repeat (with_reducible refine And.intro (by first | assumption | omega | (simp; done) | (simp; omega)) ?_)
            rcases iteB_some h with ⟨c11, h⟩ | ⟨c11, h⟩
            · refine guardD_T c11 ?_
              obtain ⟨v12, h12, h⟩ := bnd_some h
              try simp -implicitDefEqProofs (maxSteps := 4000000) (disch := first | omega | decide | (simp only [go_sem]; omega)) only [go_sem, ↓reduceIte, String.reduceEq, String.reduceNe, reduceCtorEq, Int.reduceEq, Nat.reduceAdd, Nat.reduceSub, Nat.reduceMul, Nat.reduceLT, Nat.reduceLeDiff, Nat.reduceEqDiff, Nat.reduceBEq, Int.reduceToNat, Int.reduceLT, Int.reduceLE, Int.reduceGT, Int.reduceGE, Int.reduceAdd, Int.reduceSub, Int.reduceMul, Int.reduceNeg, Int.reduceBEq, Int.reduceBNe, Int.reducePow, Int.reduceDiv, Int.reduceMod, Int.reduceTDiv, Int.reduceTMod, Int.reduceNatCast]
              repeat (with_reducible refine And.intro (by first | assumption | omega | (simp; done) | (simp; omega)) ?_)
              refine callD_X (F68_ok n a0.2.2.2.2.2 (0 : Int) (59 : Int) _ h12) (by repeat (first | exact leL_refl _ | refine leL_cons (by first | exact leT_refl _ | exact leT_virt | exact leT_junk _ | exact leT_sl | exact leT_sln | exact leT_nil) ?_)) ?_
              try simp -implicitDefEqProofs (maxSteps := 4000000) (disch := first | omega | decide | (simp only [go_sem]; omega)) only [go_sem, ↓reduceIte, String.reduceEq, String.reduceNe, reduceCtorEq, Int.reduceEq, Nat.reduceAdd, Nat.reduceSub, Nat.reduceMul, Nat.reduceLT, Nat.reduceLeDiff, Nat.reduceEqDiff, Nat.reduceBEq, Int.reduceToNat, Int.reduceLT, Int.reduceLE, Int.reduceGT, Int.reduceGE, Int.reduceAdd, Int.reduceSub, Int.reduceMul, Int.reduceNeg, Int.reduceBEq, Int.reduceBNe, Int.reducePow, Int.reduceDiv, Int.reduceMod, Int.reduceTDiv, Int.reduceTMod, Int.reduceNatCast]
              repeat (with_reducible refine And.intro (by first | assumption | omega | (simp; done) | (simp; omega)) ?_)
              refine toEnd hC ?_
              refine endX_seq ?_
              refine runX_ret ?_
              refine endX_q ?_
              obtain rfl := Option.some.inj h
              show RetW _ _ _ _ _
              simp only [RetW]
              (try simp -implicitDefEqProofs (maxSteps := 4000000) (disch := first | omega | decide | (simp only [go_sem]; omega)) only [go_sem, ↓reduceIte, String.reduceEq, String.reduceNe, reduceCtorEq, Int.reduceEq, Nat.reduceAdd, Nat.reduceSub, Nat.reduceMul, Nat.reduceLT, Nat.reduceLeDiff, Nat.reduceEqDiff, Nat.reduceBEq, Int.reduceToNat, Int.reduceLT, Int.reduceLE, Int.reduceGT, Int.reduceGE, Int.reduceAdd, Int.reduceSub, Int.reduceMul, Int.reduceNeg, Int.reduceBEq, Int.reduceBNe, Int.reducePow, Int.reduceDiv, Int.reduceMod, Int.reduceTDiv, Int.reduceTMod, Int.reduceNatCast])
              first | exact leT_refl _ | (refine ⟨rfl, ?_⟩; first | exact leT_refl _ | exact leT_sl | exact leT_sln | exact leT_nil | (refine leT_tup (by repeat (first | exact leL_refl _ | refine leL_cons (by first | exact leT_refl _ | exact leT_virt | exact leT_junk _ | exact leT_sl | exact leT_sln | exact leT_nil) ?_))) | (refine leT_agg (by repeat (first | exact leL_refl _ | refine leL_cons (by first | exact leT_refl _ | exact leT_virt | exact leT_junk _ | exact leT_sl | exact leT_sln | exact leT_nil) ?_)))) | (first | exact leT_refl _ | exact leT_sl | exact leT_sln | exact leT_nil | (refine leT_tup (by repeat (first | exact leL_refl _ | refine leL_cons (by first | exact leT_refl _ | exact leT_virt | exact leT_junk _ | exact leT_sl | exact leT_sln | exact leT_nil) ?_))) | (refine leT_agg (by repeat (first | exact leL_refl _ | refine leL_cons (by first | exact leT_refl _ | exact leT_virt | exact leT_junk _ | exact leT_sl | exact leT_sln | exact leT_nil) ?_))))
            · refine guardD_F c11 ?_
              try simp -implicitDefEqProofs (maxSteps := 4000000) (disch := first | omega | decide | (simp only [go_sem]; omega)) only [go_sem, ↓reduceIte, String.reduceEq, String.reduceNe, reduceCtorEq, Int.reduceEq, Nat.reduceAdd, Nat.reduceSub, Nat.reduceMul, Nat.reduceLT, Nat.reduceLeDiff, Nat.reduceEqDiff, Nat.reduceBEq, Int.reduceToNat, Int.reduceLT, Int.reduceLE, Int.reduceGT, Int.reduceGE, Int.reduceAdd, Int.reduceSub, Int.reduceMul, Int.reduceNeg, Int.reduceBEq, Int.reduceBNe, Int.reducePow, Int.reduceDiv, Int.reduceMod, Int.reduceTDiv, Int.reduceTMod, Int.reduceNatCast]
              repeat (with_reducible refine And.intro (by first | assumption | omega | (simp; done) | (simp; omega)) ?_)
              refine toEnd hC ?_
              refine endX_seq ?_
              refine runX_ret ?_
              refine endX_q ?_
              obtain rfl := Option.some.inj h
              show RetW _ _ _ _ _
              simp only [RetW]
              (try simp -implicitDefEqProofs (maxSteps := 4000000) (disch := first | omega | decide | (simp only [go_sem]; omega)) only [go_sem, ↓reduceIte, String.reduceEq, String.reduceNe, reduceCtorEq, Int.reduceEq, Nat.reduceAdd, Nat.reduceSub, Nat.reduceMul, Nat.reduceLT, Nat.reduceLeDiff, Nat.reduceEqDiff, Nat.reduceBEq, Int.reduceToNat, Int.reduceLT, Int.reduceLE, Int.reduceGT, Int.reduceGE, Int.reduceAdd, Int.reduceSub, Int.reduceMul, Int.reduceNeg, Int.reduceBEq, Int.reduceBNe, Int.reducePow, Int.reduceDiv, Int.reduceMod, Int.reduceTDiv, Int.reduceTMod, Int.reduceNatCast])
              first | exact leT_refl _ | (refine ⟨rfl, ?_⟩; first | exact leT_refl _ | exact leT_sl | exact leT_sln | exact leT_nil | (refine leT_tup (by repeat (first | exact leL_refl _ | refine leL_cons (by first | exact leT_refl _ | exact leT_virt | exact leT_junk _ | exact leT_sl | exact leT_sln | exact leT_nil) ?_))) | (refine leT_agg (by repeat (first | exact leL_refl _ | refine leL_cons (by first | exact leT_refl _ | exact leT_virt | exact leT_junk _ | exact leT_sl | exact leT_sln | exact leT_nil) ?_)))) | (first | exact leT_refl _ | exact leT_sl | exact leT_sln | exact leT_nil | (refine leT_tup (by repeat (first | exact leL_refl _ | refine leL_cons (by first | exact leT_refl _ | exact leT_virt | exact leT_junk _ | exact leT_sl | exact leT_sln | exact leT_nil) ?_))) | (refine leT_agg (by repeat (first | exact leL_refl _ | refine leL_cons (by first | exact leT_refl _ | exact leT_virt | exact leT_junk _ | exact leT_sl | exact leT_sln | exact leT_nil) ?_))))
          · refine guardD_F c9 ?_
            try simp -implicitDefEqProofs (maxSteps := 4000000) (disch := first | omega | decide | (simp only [go_sem]; omega)) only [go_sem, ↓reduceIte, String.reduceEq, String.reduceNe, reduceCtorEq, Int.reduceEq, Nat.reduceAdd, Nat.reduceSub, Nat.reduceMul, Nat.reduceLT, Nat.reduceLeDiff, Nat.reduceEqDiff, Nat.reduceBEq, Int.reduceToNat, Int.reduceLT, Int.reduceLE, Int.reduceGT, Int.reduceGE, Int.reduceAdd, Int.reduceSub, Int.reduceMul, Int.reduceNeg, Int.reduceBEq, Int.reduceBNe, Int.reducePow, Int.reduceDiv, Int.reduceMod, Int.reduceTDiv, Int.reduceTMod, Int.reduceNatCast]
            repeat (with_reducible refine And.intro (by first | assumption | omega | (simp; done) | (simp; omega)) ?_)
            refine toEnd hC ?_
            refine endX_seq ?_
            refine runX_ret ?_
            refine endX_q ?_
            obtain rfl := Option.some.inj h
            show RetW _ _ _ _ _
            simp only [RetW]
            (try simp -implicitDefEqProofs (maxSteps := 4000000) (disch := first | omega | decide | (simp only [go_sem]; omega)) only [go_sem, ↓reduceIte, String.reduceEq, String.reduceNe, reduceCtorEq, Int.reduceEq, Nat.reduceAdd, Nat.reduceSub, Nat.reduceMul, Nat.reduceLT, Nat.reduceLeDiff, Nat.reduceEqDiff, Nat.reduceBEq, Int.reduceToNat, Int.reduceLT, Int.reduceLE, Int.reduceGT, Int.reduceGE, Int.reduceAdd, Int.reduceSub, Int.reduceMul, Int.reduceNeg, Int.reduceBEq, Int.reduceBNe, Int.reducePow, Int.reduceDiv, Int.reduceMod, Int.reduceTDiv, Int.reduceTMod, Int.reduceNatCast])
            first | exact leT_refl _ | (refine ⟨rfl, ?_⟩; first | exact leT_refl _ | exact leT_sl | exact leT_sln | exact leT_nil | (refine leT_tup (by repeat (first | exact leL_refl _ | refine leL_cons (by first | exact leT_refl _ | exact leT_virt | exact leT_junk _ | exact leT_sl | exact leT_sln | exact leT_nil) ?_))) | (refine leT_agg (by repeat (first | exact leL_refl _ | refine leL_cons (by first | exact leT_refl _ | exact leT_virt | exact leT_junk _ | exact leT_sl | exact leT_sln | exact leT_nil) ?_)))) | (first | exact leT_refl _ | exact leT_sl | exact leT_sln | exact leT_nil | (refine leT_tup (by repeat (first | exact leL_refl _ | refine leL_cons (by first | exact leT_refl _ | exact leT_virt | exact leT_junk _ | exact leT_sl | exact leT_sln | exact leT_nil) ?_))) | (refine leT_agg (by repeat (first | exact leL_refl _ | refine leL_cons (by first | exact leT_refl _ | exact leT_virt | exact leT_junk _ | exact leT_sl | exact leT_sln | exact leT_nil) ?_))))
        · refine guardD_F c7 ?_
          try simp -implicitDefEqProofs (maxSteps := 4000000) (disch := first | omega | decide | (simp only [go_sem]; omega)) only [go_sem, ↓reduceIte, String.reduceEq, String.reduceNe, reduceCtorEq, Int.reduceEq, Nat.reduceAdd, Nat.reduceSub, Nat.reduceMul, Nat.reduceLT, Nat.reduceLeDiff, Nat.reduceEqDiff, Nat.reduceBEq, Int.reduceToNat, Int.reduceLT, Int.reduceLE, Int.reduceGT, Int.reduceGE, Int.reduceAdd, Int.reduceSub, Int.reduceMul, Int.reduceNeg, Int.reduceBEq, Int.reduceBNe, Int.reducePow, Int.reduceDiv, Int.reduceMod, Int.reduceTDiv, Int.reduceTMod, Int.reduceNatCast]
          repeat (with_reducible refine And.intro (by first | assumption | omega | (simp; done) | (simp; omega)) ?_)
          refine toEnd hC ?_
          refine endX_seq ?_
          refine runX_ret ?_
          refine endX_q ?_
          obtain rfl := Option.some.inj h
          show RetW _ _ _ _ _
          simp only [RetW]
          (try simp -implicitDefEqProofs (maxSteps := 4000000) (disch := first | omega | decide | (simp only [go_sem]; omega)) only [go_sem, ↓reduceIte, String.reduceEq, String.reduceNe, reduceCtorEq, Int.reduceEq, Nat.reduceAdd, Nat.reduceSub, Nat.reduceMul, Nat.reduceLT, Nat.reduceLeDiff, Nat.reduceEqDiff, Nat.reduceBEq, Int.reduceToNat, Int.reduceLT, Int.reduceLE, Int.reduceGT, Int.reduceGE, Int.reduceAdd, Int.reduceSub, Int.reduceMul, Int.reduceNeg, Int.reduceBEq, Int.reduceBNe, Int.reducePow, Int.reduceDiv, Int.reduceMod, Int.reduceTDiv, Int.reduceTMod, Int.reduceNatCast])
          first | exact leT_refl _ | (refine ⟨rfl, ?_⟩; first | exact leT_refl _ | exact leT_sl | exact leT_sln | exact leT_nil | (refine leT_tup (by repeat (first | exact leL_refl _ | refine leL_cons (by first | exact leT_refl _ | exact leT_virt | exact leT_junk _ | exact leT_sl | exact leT_sln | exact leT_nil) ?_))) | (refine leT_agg (by repeat (first | exact leL_refl _ | refine leL_cons (by first | exact leT_refl _ | exact leT_virt | exact leT_junk _ | exact leT_sl | exact leT_sln | exact leT_nil) ?_)))) | (first | exact leT_refl _ | exact leT_sl | exact leT_sln | exact leT_nil | (refine leT_tup (by repeat (first | exact leL_refl _ | refine leL_cons (by first | exact leT_refl _ | exact leT_virt | exact leT_junk _ | exact leT_sl | exact leT_sln | exact leT_nil) ?_))) | (refine leT_agg (by repeat (first | exact leL_refl _ | refine leL_cons (by first | exact leT_refl _ | exact leT_virt | exact leT_junk _ | exact leT_sl | exact leT_sln | exact leT_nil) ?_))))
      · refine guardD_F c4 ?_
        try simp -implicitDefEqProofs (maxSteps := 4000000) (disch := first | omega | decide | (simp only [go_sem]; omega)) only [go_sem, ↓reduceIte, String.reduceEq, String.reduceNe, reduceCtorEq, Int.reduceEq, Nat.reduceAdd, Nat.reduceSub, Nat.reduceMul, Nat.reduceLT, Nat.reduceLeDiff, Nat.reduceEqDiff, Nat.reduceBEq, Int.reduceToNat, Int.reduceLT, Int.reduceLE, Int.reduceGT, Int.reduceGE, Int.reduceAdd, Int.reduceSub, Int.reduceMul, Int.reduceNeg, Int.reduceBEq, Int.reduceBNe, Int.reducePow, Int.reduceDiv, Int.reduceMod, Int.reduceTDiv, Int.reduceTMod, Int.reduceNatCast]
        repeat (with_reducible refine And.intro (by first | assumption | omega | (simp; done) | (simp; omega)) ?_)
        refine toEnd hC ?_
        refine endX_seq ?_
        refine runX_ret ?_
        refine endX_q ?_
        obtain rfl := Option.some.inj h
        show RetW _ _ _ _ _
        simp only [RetW]
        (try simp -implicitDefEqProofs (maxSteps := 4000000) (disch := first | omega | decide | (simp only [go_sem]; omega)) only [go_sem, ↓reduceIte, String.reduceEq, String.reduceNe, reduceCtorEq, Int.reduceEq, Nat.reduceAdd, Nat.reduceSub, Nat.reduceMul, Nat.reduceLT, Nat.reduceLeDiff, Nat.reduceEqDiff, Nat.reduceBEq, Int.reduceToNat, Int.reduceLT, Int.reduceLE, Int.reduceGT, Int.reduceGE, Int.reduceAdd, Int.reduceSub, Int.reduceMul, Int.reduceNeg, Int.reduceBEq, Int.reduceBNe, Int.reducePow, Int.reduceDiv, Int.reduceMod, Int.reduceTDiv, Int.reduceTMod, Int.reduceNatCast])
        first | exact leT_refl _ | (refine ⟨rfl, ?_⟩; first | exact leT_refl _ | exact leT_sl | exact leT_sln | exact leT_nil | (refine leT_tup (by repeat (first | exact leL_refl _ | refine leL_cons (by first | exact leT_refl _ | exact leT_virt | exact leT_junk _ | exact leT_sl | exact leT_sln | exact leT_nil) ?_))) | (refine leT_agg (by repeat (first | exact leL_refl _ | refine leL_cons (by first | exact leT_refl _ | exact leT_virt | exact leT_junk _ | exact leT_sl | exact leT_sln | exact leT_nil) ?_)))) | (first | exact leT_refl _ | exact leT_sl | exact leT_sln | exact leT_nil | (refine leT_tup (by repeat (first | exact leL_refl _ | refine leL_cons (by first | exact leT_refl _ | exact leT_virt | exact leT_junk _ | exact leT_sl | exact leT_sln | exact leT_nil) ?_))) | (refine leT_agg (by repeat (first | exact leL_refl _ | refine leL_cons (by first | exact leT_refl _ | exact leT_virt | exact leT_junk _ | exact leT_sl | exact leT_sln | exact leT_nil) ?_))))
    · refine guardD_F c2 ?_
      try simp -implicitDefEqProofs (maxSteps := 4000000) (disch := first | omega | decide | (simp only [go_sem]; omega)) only [go_sem, ↓reduceIte, String.reduceEq, String.reduceNe, reduceCtorEq, Int.reduceEq, Nat.reduceAdd, Nat.reduceSub, Nat.reduceMul, Nat.reduceLT, Nat.reduceLeDiff, Nat.reduceEqDiff, Nat.reduceBEq, Int.reduceToNat, Int.reduceLT, Int.reduceLE, Int.reduceGT, Int.reduceGE, Int.reduceAdd, Int.reduceSub, Int.reduceMul, Int.reduceNeg, Int.reduceBEq, Int.reduceBNe, Int.reducePow, Int.reduceDiv, Int.reduceMod, Int.reduceTDiv, Int.reduceTMod, Int.reduceNatCast]
      repeat (with_reducible refine And.intro (by first | assumption | omega | (simp; done) | (simp; omega)) ?_)
      refine toEnd hC ?_
      refine endX_seq ?_
      refine runX_ret ?_
      refine endX_q ?_
      obtain rfl := Option.some.inj h
      show RetW _ _ _ _ _
      simp only [RetW]
      (try simp -implicitDefEqProofs (maxSteps := 4000000) (disch := first | omega | decide | (simp only [go_sem]; omega)) only [go_sem, ↓reduceIte, String.reduceEq, String.reduceNe, reduceCtorEq, Int.reduceEq, Nat.reduceAdd, Nat.reduceSub, Nat.reduceMul, Nat.reduceLT, Nat.reduceLeDiff, Nat.reduceEqDiff, Nat.reduceBEq, Int.reduceToNat, Int.reduceLT, Int.reduceLE, Int.reduceGT, Int.reduceGE, Int.reduceAdd, Int.reduceSub, Int.reduceMul, Int.reduceNeg, Int.reduceBEq, Int.reduceBNe, Int.reducePow, Int.reduceDiv, Int.reduceMod, Int.reduceTDiv, Int.reduceTMod, Int.reduceNatCast])
      first | exact leT_refl _ | (refine ⟨rfl, ?_⟩; first | exact leT_refl _ | exact leT_sl | exact leT_sln | exact leT_nil | (refine leT_tup (by repeat (first | exact leL_refl _ | refine leL_cons (by first | exact leT_refl _ | exact leT_virt | exact leT_junk _ | exact leT_sl | exact leT_sln | exact leT_nil) ?_))) | (refine leT_agg (by repeat (first | exact leL_refl _ | refine leL_cons (by first | exact leT_refl _ | exact leT_virt | exact leT_junk _ | exact leT_sl | exact leT_sln | exact leT_nil) ?_)))) | (first | exact leT_refl _ | exact leT_sl | exact leT_sln | exact leT_nil | (refine leT_tup (by repeat (first | exact leL_refl _ | refine leL_cons (by first | exact leT_refl _ | exact leT_virt | exact leT_junk _ | exact leT_sl | exact leT_sln | exact leT_nil) ?_))) | (refine leT_agg (by repeat (first | exact leL_refl _ | refine leL_cons (by first | exact leT_refl _ | exact leT_virt | exact leT_junk _ | exact leT_sl | exact leT_sln | exact leT_nil) ?_))))
end Go.Proofs.YtdfghdppbfabfaaX

set_option linter.unusedVariables false
set_option linter.unusedSimpArgs false
namespace Go.Proofs.YtdfghdppbfabfaaX
open Go Go.RowKit Go.Proofs
set_option maxRecDepth 100000
/-! ### shadowboxref15.Seconds -/
def F19_S3 (a0 : (Int) × (Int) × (Int) × (Int) × (Int) × (Int)) (x11 : Int) (x12 : Int) : St := ⟨[.junk, .ref 0 0 0 0, .junk, .junk, .imm (.int .i64 x11), .junk, .junk, .imm (.int .i64 x12), .junk, .junk, .junk, .junk, .junk, .junk, .junk, .junk, .junk, .junk, .junk, .junk, .junk, .junk, .junk, .junk, .junk, .junk, .junk, .junk, .junk, .junk, .junk, .junk, .junk, .junk, .junk, .junk, .junk, .junk, .junk, .junk, .junk, .junk, .junk, .junk, .junk, .junk, .junk, .junk, .junk, .junk, .junk, .junk, .junk, .junk, .junk, .junk, .junk, .junk, .junk], [some (.box 34 (.agg [.imm (.int .i64 a0.1), .imm (.int .i64 a0.2.1), .imm (.int .i64 a0.2.2.1), .imm (.int .i64 a0.2.2.2.1), .imm (.int .i64 a0.2.2.2.2.1), .imm (.int .i64 a0.2.2.2.2.2)]) false)]⟩
def F19_S2 (a0 : (Int) × (Int) × (Int) × (Int) × (Int) × (Int)) (x7 : Int) (x8 : Int) : St := ⟨[.junk, .ref 0 0 0 0, .junk, .junk, .imm (.int .i64 x7), .junk, .imm (.int .i64 x8), .junk, .junk, .junk, .junk, .junk, .junk, .junk, .junk, .junk, .junk, .junk, .junk, .junk, .junk, .junk, .junk, .junk, .junk, .junk, .junk, .junk, .junk, .junk, .junk, .junk, .junk, .junk, .junk, .junk, .junk, .junk, .junk, .junk, .junk, .junk, .junk, .junk, .junk, .junk, .junk, .junk, .junk, .junk, .junk, .junk, .junk, .junk, .junk, .junk, .junk, .junk, .junk], [some (.box 34 (.agg [.imm (.int .i64 a0.1), .imm (.int .i64 a0.2.1), .imm (.int .i64 a0.2.2.1), .imm (.int .i64 a0.2.2.2.1), .imm (.int .i64 a0.2.2.2.2.1), .imm (.int .i64 a0.2.2.2.2.2)]) false)]⟩
def F19_S1 (a0 : (Int) × (Int) × (Int) × (Int) × (Int) × (Int)) (x3 : Int) (x4 : Int) : St := ⟨[.junk, .ref 0 0 0 0, .junk, .junk, .imm (.int .i64 x3), .imm (.int .i64 x4), .junk, .junk, .junk, .junk, .junk, .junk, .junk, .junk, .junk, .junk, .junk, .junk, .junk, .junk, .junk, .junk, .junk, .junk, .junk, .junk, .junk, .junk, .junk, .junk, .junk, .junk, .junk, .junk, .junk, .junk, .junk, .junk, .junk, .junk, .junk, .junk, .junk, .junk, .junk, .junk, .junk, .junk, .junk, .junk, .junk, .junk, .junk, .junk, .junk, .junk, .junk, .junk, .junk], [some (.box 34 (.agg [.imm (.int .i64 a0.1), .imm (.int .i64 a0.2.1), .imm (.int .i64 a0.2.2.1), .imm (.int .i64 a0.2.2.2.1), .imm (.int .i64 a0.2.2.2.2.1), .imm (.int .i64 a0.2.2.2.2.2)]) false)]⟩
mutual
def F19_L3 : Nat → ((Int) × (Int) × (Int) × (Int) × (Int) × (Int)) → (Int) → (Int) → Option ((Int) × (Bool))
  | 0, _, _, _ => none
  | m3 + 1, a0, x11, x12 => iteB (decide (x12 < a0.2.1)) ((F28 m3 a0.1 x12).bind fun v14 => F19_L3 m3 a0 (IntKind.wrap .i64 (x11 + v14)) (IntKind.wrap .i64 (x12 + (1 : Int)))) (some ((IntKind.wrap .i64 ((IntKind.wrap .i64 ((IntKind.wrap .i64 ((IntKind.wrap .i64 (x11 * (86400 : Int))) + (IntKind.wrap .i64 (a0.2.2.2.1 * (3600 : Int))))) + (IntKind.wrap .i64 (a0.2.2.2.2.1 * (60 : Int))))) + a0.2.2.2.2.2)), true))
def F19_L2 : Nat → ((Int) × (Int) × (Int) × (Int) × (Int) × (Int)) → (Int) → (Int) → Option ((Int) × (Bool))
  | 0, _, _, _ => none
  | m2 + 1, a0, x7, x8 => iteB (decide (x8 < (1970 : Int))) ((F51 m2 x8).bind fun v10 => F19_L2 m2 a0 (IntKind.wrap .i64 (x7 - v10)) (IntKind.wrap .i64 (x8 + (1 : Int)))) (F19_L3 m2 a0 x7 (1 : Int))
def F19_L1 : Nat → ((Int) × (Int) × (Int) × (Int) × (Int) × (Int)) → (Int) → (Int) → Option ((Int) × (Bool))
  | 0, _, _, _ => none
  | m1 + 1, a0, x3, x4 => iteB (decide (x4 < a0.1)) ((F51 m1 x4).bind fun v6 => F19_L1 m1 a0 (IntKind.wrap .i64 (x3 + v6)) (IntKind.wrap .i64 (x4 + (1 : Int)))) (F19_L2 m1 a0 x3 a0.1)
end
def F19 (n : Nat) (a0 : (Int) × (Int) × (Int) × (Int) × (Int) × (Int)) : Option ((Int) × (Bool)) := (F52 n (a0.1, a0.2.1, a0.2.2.1, a0.2.2.2.1, a0.2.2.2.2.1, a0.2.2.2.2.2)).bind fun v1 => iteB (!v1) (some ((0 : Int), false)) (F19_L1 n a0 (IntKind.wrap .i64 (a0.2.2.1 - (1 : Int))) (1970 : Int))
set_option maxHeartbeats 4000000 in
theorem F19_ok : ∀ (n : Nat) (a0 : (Int) × (Int) × (Int) × (Int) × (Int) × (Int)) (r : (Int) × (Bool)), F19 n a0 = some r → FnC Try.prog 19 [.agg [.imm (.int .i64 a0.1), .imm (.int .i64 a0.2.1), .imm (.int .i64 a0.2.2.1), .imm (.int .i64 a0.2.2.2.1), .imm (.int .i64 a0.2.2.2.2.1), .imm (.int .i64 a0.2.2.2.2.2)]] (.tup [.imm (.int .i64 r.1), .imm (.bool r.2)])
  | n, a0, r, h => by
    unfold F19 at h
    refine FnC.goX mixed Try.func19 (by kernel_rfl) rfl ?_
    simp only [Try.ntmps19, List.length_cons, List.length_nil, List.replicate, List.cons_append, List.nil_append, Nat.reduceAdd, Nat.reduceSub]
    refine runX_seq ?_
    refine runX_regionC fun C hC => ?_
    try simp -implicitDefEqProofs (maxSteps := 4000000) (disch := first | omega | decide | (simp only [go_sem]; omega)) only [go_sem, ↓reduceIte, String.reduceEq, String.reduceNe, reduceCtorEq, Int.reduceEq, Nat.reduceAdd, Nat.reduceSub, Nat.reduceMul, Nat.reduceLT, Nat.reduceLeDiff, Nat.reduceEqDiff, Nat.reduceBEq, Int.reduceToNat, Int.reduceLT, Int.reduceLE, Int.reduceGT, Int.reduceGE, Int.reduceAdd, Int.reduceSub, Int.reduceMul, Int.reduceNeg, Int.reduceBEq, Int.reduceBNe, Int.reducePow, Int.reduceDiv, Int.reduceMod, Int.reduceTDiv, Int.reduceTMod, Int.reduceNatCast]
    repeat (with_reducible refine And.intro (by first | assumption | omega | (simp; done) | (simp; omega)) ?_)
    refine toEnd hC ?_
    refine endX_seq ?_
    refine runX_seq ?_
    refine runX_seq ?_
    refine runX_regionC fun C hC => ?_
    obtain ⟨v1, h1, h⟩ := bnd_some h
    try simp -implicitDefEqProofs (maxSteps := 4000000) (disch := first | omega | decide | (simp only [go_sem]; omega)) only [go_sem, ↓reduceIte, String.reduceEq, String.reduceNe, reduceCtorEq, Int.reduceEq, Nat.reduceAdd, Nat.reduceSub, Nat.reduceMul, Nat.reduceLT, Nat.reduceLeDiff, Nat.reduceEqDiff, Nat.reduceBEq, Int.reduceToNat, Int.reduceLT, Int.reduceLE, Int.reduceGT, Int.reduceGE, Int.reduceAdd, Int.reduceSub, Int.reduceMul, Int.reduceNeg, Int.reduceBEq, Int.reduceBNe, Int.reducePow, Int.reduceDiv, Int.reduceMod, Int.reduceTDiv, Int.reduceTMod, Int.reduceNatCast]
    repeat (with_reducible refine And.intro (by first | assumption | omega | (simp; done) | (simp; omega)) ?_)
    refine callG_X (F52_ok n (a0.1, a0.2.1, a0.2.2.1, a0.2.2.2.1, a0.2.2.2.2.1, a0.2.2.2.2.2) _ h1) (by repeat (first | exact leL_refl _ | refine leL_cons (by first | exact leT_refl _ | exact leT_virt | exact leT_junk _ | exact leT_sl | exact leT_sln | exact leT_nil) ?_)) ?_
    try simp -implicitDefEqProofs (maxSteps := 4000000) (disch := first | omega | decide | (simp only [go_sem]; omega)) only [go_sem, ↓reduceIte, String.reduceEq, String.reduceNe, reduceCtorEq, Int.reduceEq, Nat.reduceAdd, Nat.reduceSub, Nat.reduceMul, Nat.reduceLT, Nat.reduceLeDiff, Nat.reduceEqDiff, Nat.reduceBEq, Int.reduceToNat, Int.reduceLT, Int.reduceLE, Int.reduceGT, Int.reduceGE, Int.reduceAdd, Int.reduceSub, Int.reduceMul, Int.reduceNeg, Int.reduceBEq, Int.reduceBNe, Int.reducePow, Int.reduceDiv, Int.reduceMod, Int.reduceTDiv, Int.reduceTMod, Int.reduceNatCast]
    repeat (with_reducible refine And.intro (by first | assumption | omega | (simp; done) | (simp; omega)) ?_)
    refine toEnd hC ?_
    refine endX_seq ?_
    rcases iteB_some h with ⟨c2, h⟩ | ⟨c2, h⟩
    · refine runX_condT rfl c2 ?_
      refine runX_seq ?_
      refine runX_regionC fun C hC => ?_
      try simp -implicitDefEqProofs (maxSteps := 4000000) (disch := first | omega | decide | (simp only [go_sem]; omega)) only [go_sem, ↓reduceIte, String.reduceEq, String.reduceNe, reduceCtorEq, Int.reduceEq, Nat.reduceAdd, Nat.reduceSub, Nat.reduceMul, Nat.reduceLT, Nat.reduceLeDiff, Nat.reduceEqDiff, Nat.reduceBEq, Int.reduceToNat, Int.reduceLT, Int.reduceLE, Int.reduceGT, Int.reduceGE, Int.reduceAdd, Int.reduceSub, Int.reduceMul, Int.reduceNeg, Int.reduceBEq, Int.reduceBNe, Int.reducePow, Int.reduceDiv, Int.reduceMod, Int.reduceTDiv, Int.reduceTMod, Int.reduceNatCast]
      repeat (with_reducible refine And.intro (by first | assumption | omega | (simp; done) | (simp; omega)) ?_)
      refine toEnd hC ?_
      refine endX_seq ?_
      refine runX_ret ?_
      refine endX_seqR ?_
      refine endX_q ?_
      obtain rfl := Option.some.inj h
      show RetW _ _ _ _ _
      simp only [RetW]
      (try simp -implicitDefEqProofs (maxSteps := 4000000) (disch := first | omega | decide | (simp only [go_sem]; omega)) only [go_sem, ↓reduceIte, String.reduceEq, String.reduceNe, reduceCtorEq, Int.reduceEq, Nat.reduceAdd, Nat.reduceSub, Nat.reduceMul, Nat.reduceLT, Nat.reduceLeDiff, Nat.reduceEqDiff, Nat.reduceBEq, Int.reduceToNat, Int.reduceLT, Int.reduceLE, Int.reduceGT, Int.reduceGE, Int.reduceAdd, Int.reduceSub, Int.reduceMul, Int.reduceNeg, Int.reduceBEq, Int.reduceBNe, Int.reducePow, Int.reduceDiv, Int.reduceMod, Int.reduceTDiv, Int.reduceTMod, Int.reduceNatCast])
      first | exact leT_refl _ | (refine ⟨rfl, ?_⟩; first | exact leT_refl _ | exact leT_sl | exact leT_sln | exact leT_nil | (refine leT_tup (by repeat (first | exact leL_refl _ | refine leL_cons (by first | exact leT_refl _ | exact leT_virt | exact leT_junk _ | exact leT_sl | exact leT_sln | exact leT_nil) ?_))) | (refine leT_agg (by repeat (first | exact leL_refl _ | refine leL_cons (by first | exact leT_refl _ | exact leT_virt | exact leT_junk _ | exact leT_sl | exact leT_sln | exact leT_nil) ?_)))) | (first | exact leT_refl _ | exact leT_sl | exact leT_sln | exact leT_nil | (refine leT_tup (by repeat (first | exact leL_refl _ | refine leL_cons (by first | exact leT_refl _ | exact leT_virt | exact leT_junk _ | exact leT_sl | exact leT_sln | exact leT_nil) ?_))) | (refine leT_agg (by repeat (first | exact leL_refl _ | refine leL_cons (by first | exact leT_refl _ | exact leT_virt | exact leT_junk _ | exact leT_sl | exact leT_sln | exact leT_nil) ?_))))
    · refine runX_condF rfl c2 ?_
      refine runX_skip ?_
      refine endX_seq ?_
      refine runX_seq ?_
      refine runX_regionC fun C hC => ?_
      try simp -implicitDefEqProofs (maxSteps := 4000000) (disch := first | omega | decide | (simp only [go_sem]; omega)) only [go_sem, ↓reduceIte, String.reduceEq, String.reduceNe, reduceCtorEq, Int.reduceEq, Nat.reduceAdd, Nat.reduceSub, Nat.reduceMul, Nat.reduceLT, Nat.reduceLeDiff, Nat.reduceEqDiff, Nat.reduceBEq, Int.reduceToNat, Int.reduceLT, Int.reduceLE, Int.reduceGT, Int.reduceGE, Int.reduceAdd, Int.reduceSub, Int.reduceMul, Int.reduceNeg, Int.reduceBEq, Int.reduceBNe, Int.reducePow, Int.reduceDiv, Int.reduceMod, Int.reduceTDiv, Int.reduceTMod, Int.reduceNatCast]
      repeat (with_reducible refine And.intro (by first | assumption | omega | (simp; done) | (simp; omega)) ?_)
      refine toEnd hC ?_
      refine endX_seq ?_
      refine runX_seq ?_
      refine runX_seq ?_
      refine runX_regionC fun C hC => ?_
      try simp -implicitDefEqProofs (maxSteps := 4000000) (disch := first | omega | decide | (simp only [go_sem]; omega)) only [go_sem, ↓reduceIte, String.reduceEq, String.reduceNe, reduceCtorEq, Int.reduceEq, Nat.reduceAdd, Nat.reduceSub, Nat.reduceMul, Nat.reduceLT, Nat.reduceLeDiff, Nat.reduceEqDiff, Nat.reduceBEq, Int.reduceToNat, Int.reduceLT, Int.reduceLE, Int.reduceGT, Int.reduceGE, Int.reduceAdd, Int.reduceSub, Int.reduceMul, Int.reduceNeg, Int.reduceBEq, Int.reduceBNe, Int.reducePow, Int.reduceDiv, Int.reduceMod, Int.reduceTDiv, Int.reduceTMod, Int.reduceNatCast]
      repeat (with_reducible refine And.intro (by first | assumption | omega | (simp; done) | (simp; omega)) ?_)
      refine toEnd hC ?_
      refine endX_seq ?_
      refine runX_block ?_
      refine runX_loop [1, 4, 5] (fun m S => ∃ (x3 : Int) (x4 : Int), S = F19_S1 a0 x3 x4 ∧ m ≤ n ∧ F19_L1 m a0 x3 x4 = some r) n ⟨F19_S1 a0 (IntKind.wrap .i64 (a0.2.2.1 - (1 : Int))) (1970 : Int), ?_, (IntKind.wrap .i64 (a0.2.2.1 - (1 : Int))), (1970 : Int), rfl, Nat.le_refl _, h⟩ ?_
      · simp only [F19_S1]
        (try simp -implicitDefEqProofs (maxSteps := 4000000) (disch := first | omega | decide | (simp only [go_sem]; omega)) only [go_sem, ↓reduceIte, String.reduceEq, String.reduceNe, reduceCtorEq, Int.reduceEq, Nat.reduceAdd, Nat.reduceSub, Nat.reduceMul, Nat.reduceLT, Nat.reduceLeDiff, Nat.reduceEqDiff, Nat.reduceBEq, Int.reduceToNat, Int.reduceLT, Int.reduceLE, Int.reduceGT, Int.reduceGE, Int.reduceAdd, Int.reduceSub, Int.reduceMul, Int.reduceNeg, Int.reduceBEq, Int.reduceBNe, Int.reducePow, Int.reduceDiv, Int.reduceMod, Int.reduceTDiv, Int.reduceTMod, Int.reduceNatCast])
        first | exact leS_refl _ | (refine leS_le ?_ ?_ <;> first | exact leL_refl _ | exact leOs_refl _ | (repeat (first | exact leL_refl _ | refine leL_cons (by first | exact leT_refl _ | exact leT_virt | exact leT_junk _ | exact leT_sl | exact leT_sln | exact leT_nil) ?_)))
      · clear h
        rintro m1 S ⟨x3, x4, rfl, hm1, h⟩
        cases m1 with
        | zero => cases (show (none : Option _) = some _ from h)
        | succ m1 =>
          rw [F19_L1] at h
          simp only [F19_S1]
          refine runX_seq ?_
          refine runX_seq ?_
          refine runX_regionC fun C hC => ?_
          try simp -implicitDefEqProofs (maxSteps := 4000000) (disch := first | omega | decide | (simp only [go_sem]; omega)) only [go_sem, ↓reduceIte, String.reduceEq, String.reduceNe, reduceCtorEq, Int.reduceEq, Nat.reduceAdd, Nat.reduceSub, Nat.reduceMul, Nat.reduceLT, Nat.reduceLeDiff, Nat.reduceEqDiff, Nat.reduceBEq, Int.reduceToNat, Int.reduceLT, Int.reduceLE, Int.reduceGT, Int.reduceGE, Int.reduceAdd, Int.reduceSub, Int.reduceMul, Int.reduceNeg, Int.reduceBEq, Int.reduceBNe, Int.reducePow, Int.reduceDiv, Int.reduceMod, Int.reduceTDiv, Int.reduceTMod, Int.reduceNatCast]
          repeat (with_reducible refine And.intro (by first | assumption | omega | (simp; done) | (simp; omega)) ?_)
          refine toEnd hC ?_
          refine endX_seq ?_
          rcases iteB_some h with ⟨c5, h⟩ | ⟨c5, h⟩
          · refine runX_condT rfl c5 ?_
            refine runX_skip ?_
            refine endX_seq ?_
            refine runX_seq ?_
            refine runX_block ?_
            refine runX_regionC fun C hC => ?_
            obtain ⟨v6, h6, h⟩ := bnd_some h
            try simp -implicitDefEqProofs (maxSteps := 4000000) (disch := first | omega | decide | (simp only [go_sem]; omega)) only [go_sem, ↓reduceIte, String.reduceEq, String.reduceNe, reduceCtorEq, Int.reduceEq, Nat.reduceAdd, Nat.reduceSub, Nat.reduceMul, Nat.reduceLT, Nat.reduceLeDiff, Nat.reduceEqDiff, Nat.reduceBEq, Int.reduceToNat, Int.reduceLT, Int.reduceLE, Int.reduceGT, Int.reduceGE, Int.reduceAdd, Int.reduceSub, Int.reduceMul, Int.reduceNeg, Int.reduceBEq, Int.reduceBNe, Int.reducePow, Int.reduceDiv, Int.reduceMod, Int.reduceTDiv, Int.reduceTMod, Int.reduceNatCast]
            repeat (with_reducible refine And.intro (by first | assumption | omega | (simp; done) | (simp; omega)) ?_)
            refine callG_X (F51_ok m1 x4 _ h6) (by repeat (first | exact leL_refl _ | refine leL_cons (by first | exact leT_refl _ | exact leT_virt | exact leT_junk _ | exact leT_sl | exact leT_sln | exact leT_nil) ?_)) ?_
            try simp -implicitDefEqProofs (maxSteps := 4000000) (disch := first | omega | decide | (simp only [go_sem]; omega)) only [go_sem, ↓reduceIte, String.reduceEq, String.reduceNe, reduceCtorEq, Int.reduceEq, Nat.reduceAdd, Nat.reduceSub, Nat.reduceMul, Nat.reduceLT, Nat.reduceLeDiff, Nat.reduceEqDiff, Nat.reduceBEq, Int.reduceToNat, Int.reduceLT, Int.reduceLE, Int.reduceGT, Int.reduceGE, Int.reduceAdd, Int.reduceSub, Int.reduceMul, Int.reduceNeg, Int.reduceBEq, Int.reduceBNe, Int.reducePow, Int.reduceDiv, Int.reduceMod, Int.reduceTDiv, Int.reduceTMod, Int.reduceNatCast]
            repeat (with_reducible refine And.intro (by first | assumption | omega | (simp; done) | (simp; omega)) ?_)
            refine toEnd hC ?_
            refine endX_blk ?_
            refine endX_seq ?_
            refine runX_regionC fun C hC => ?_
            try simp -implicitDefEqProofs (maxSteps := 4000000) (disch := first | omega | decide | (simp only [go_sem]; omega)) only [go_sem, ↓reduceIte, String.reduceEq, String.reduceNe, reduceCtorEq, Int.reduceEq, Nat.reduceAdd, Nat.reduceSub, Nat.reduceMul, Nat.reduceLT, Nat.reduceLeDiff, Nat.reduceEqDiff, Nat.reduceBEq, Int.reduceToNat, Int.reduceLT, Int.reduceLE, Int.reduceGT, Int.reduceGE, Int.reduceAdd, Int.reduceSub, Int.reduceMul, Int.reduceNeg, Int.reduceBEq, Int.reduceBNe, Int.reducePow, Int.reduceDiv, Int.reduceMod, Int.reduceTDiv, Int.reduceTMod, Int.reduceNatCast]
            repeat (with_reducible refine And.intro (by first | assumption | omega | (simp; done) | (simp; omega)) ?_)
            refine toEnd hC ?_
            refine endX_q (roundQ_normal ⟨m1, by omega, F19_S1 a0 (IntKind.wrap .i64 (x3 + v6)) (IntKind.wrap .i64 (x4 + (1 : Int))), ?_, (IntKind.wrap .i64 (x3 + v6)), (IntKind.wrap .i64 (x4 + (1 : Int))), rfl, by omega, h⟩)
            simp only [F19_S1]
            (try simp -implicitDefEqProofs (maxSteps := 4000000) (disch := first | omega | decide | (simp only [go_sem]; omega)) only [go_sem, ↓reduceIte, String.reduceEq, String.reduceNe, reduceCtorEq, Int.reduceEq, Nat.reduceAdd, Nat.reduceSub, Nat.reduceMul, Nat.reduceLT, Nat.reduceLeDiff, Nat.reduceEqDiff, Nat.reduceBEq, Int.reduceToNat, Int.reduceLT, Int.reduceLE, Int.reduceGT, Int.reduceGE, Int.reduceAdd, Int.reduceSub, Int.reduceMul, Int.reduceNeg, Int.reduceBEq, Int.reduceBNe, Int.reducePow, Int.reduceDiv, Int.reduceMod, Int.reduceTDiv, Int.reduceTMod, Int.reduceNatCast])
            first | exact leS_refl _ | (refine leS_le ?_ ?_ <;> first | exact leL_refl _ | exact leOs_refl _ | (repeat (first | exact leL_refl _ | refine leL_cons (by first | exact leT_refl _ | exact leT_virt | exact leT_junk _ | exact leT_sl | exact leT_sln | exact leT_nil) ?_)))
          · refine runX_condF rfl c5 ?_
            refine runX_exit ?_
            refine endX_seqE ?_
            refine endX_q (roundQ_exit ?_)
            refine endX_blkE ?_
            refine endX_seq ?_
            refine runX_seq ?_
            refine runX_seq ?_
            refine runX_regionC fun C hC => ?_
            try simp -implicitDefEqProofs (maxSteps := 4000000) (disch := first | omega | decide | (simp only [go_sem]; omega)) only [go_sem, ↓reduceIte, String.reduceEq, String.reduceNe, reduceCtorEq, Int.reduceEq, Nat.reduceAdd, Nat.reduceSub, Nat.reduceMul, Nat.reduceLT, Nat.reduceLeDiff, Nat.reduceEqDiff, Nat.reduceBEq, Int.reduceToNat, Int.reduceLT, Int.reduceLE, Int.reduceGT, Int.reduceGE, Int.reduceAdd, Int.reduceSub, Int.reduceMul, Int.reduceNeg, Int.reduceBEq, Int.reduceBNe, Int.reducePow, Int.reduceDiv, Int.reduceMod, Int.reduceTDiv, Int.reduceTMod, Int.reduceNatCast]
            repeat (with_reducible refine And.intro (by first | assumption | omega | (simp; done) | (simp; omega)) ?_)
            refine toEnd hC ?_
            refine endX_seq ?_
            refine runX_block ?_
            refine runX_loop [1, 4, 6] (fun m S => ∃ (x7 : Int) (x8 : Int), S = F19_S2 a0 x7 x8 ∧ m ≤ m1 ∧ F19_L2 m a0 x7 x8 = some r) m1 ⟨F19_S2 a0 x3 a0.1, ?_, x3, a0.1, rfl, Nat.le_refl _, h⟩ ?_
            · simp only [F19_S2]
              (try simp -implicitDefEqProofs (maxSteps := 4000000) (disch := first | omega | decide | (simp only [go_sem]; omega)) only [go_sem, ↓reduceIte, String.reduceEq, String.reduceNe, reduceCtorEq, Int.reduceEq, Nat.reduceAdd, Nat.reduceSub, Nat.reduceMul, Nat.reduceLT, Nat.reduceLeDiff, Nat.reduceEqDiff, Nat.reduceBEq, Int.reduceToNat, Int.reduceLT, Int.reduceLE, Int.reduceGT, Int.reduceGE, Int.reduceAdd, Int.reduceSub, Int.reduceMul, Int.reduceNeg, Int.reduceBEq, Int.reduceBNe, Int.reducePow, Int.reduceDiv, Int.reduceMod, Int.reduceTDiv, Int.reduceTMod, Int.reduceNatCast])
              first | exact leS_refl _ | (refine leS_le ?_ ?_ <;> first | exact leL_refl _ | exact leOs_refl _ | (repeat (first | exact leL_refl _ | refine leL_cons (by first | exact leT_refl _ | exact leT_virt | exact leT_junk _ | exact leT_sl | exact leT_sln | exact leT_nil) ?_)))
            · clear h
              rintro m2 S ⟨x7, x8, rfl, hm2, h⟩
              cases m2 with
              | zero => cases (show (none : Option _) = some _ from h)
              | succ m2 =>
                rw [F19_L2] at h
                simp only [F19_S2]
                refine runX_seq ?_
                refine runX_seq ?_
                refine runX_regionC fun C hC => ?_
                try simp -implicitDefEqProofs (maxSteps := 4000000) (disch := first | omega | decide | (simp only [go_sem]; omega)) only [go_sem, ↓reduceIte, String.reduceEq, String.reduceNe, reduceCtorEq, Int.reduceEq, Nat.reduceAdd, Nat.reduceSub, Nat.reduceMul, Nat.reduceLT, Nat.reduceLeDiff, Nat.reduceEqDiff, Nat.reduceBEq, Int.reduceToNat, Int.reduceLT, Int.reduceLE, Int.reduceGT, Int.reduceGE, Int.reduceAdd, Int.reduceSub, Int.reduceMul, Int.reduceNeg, Int.reduceBEq, Int.reduceBNe, Int.reducePow, Int.reduceDiv, Int.reduceMod, Int.reduceTDiv, Int.reduceTMod, Int.reduceNatCast]
                repeat (with_reducible refine And.intro (by first | assumption | omega | (simp; done) | (simp; omega)) ?_)
                refine toEnd hC ?_
                refine endX_seq ?_
                rcases iteB_some h with ⟨c9, h⟩ | ⟨c9, h⟩
                · refine runX_condT rfl c9 ?_
                  refine runX_skip ?_
                  refine endX_seq ?_
                  refine runX_seq ?_
                  refine runX_block ?_
                  refine runX_regionC fun C hC => ?_
                  obtain ⟨v10, h10, h⟩ := bnd_some h
                  try simp -implicitDefEqProofs (maxSteps := 4000000) (disch := first | omega | decide | (simp only [go_sem]; omega)) only [go_sem, ↓reduceIte, String.reduceEq, String.reduceNe, reduceCtorEq, Int.reduceEq, Nat.reduceAdd, Nat.reduceSub, Nat.reduceMul, Nat.reduceLT, Nat.reduceLeDiff, Nat.reduceEqDiff, Nat.reduceBEq, Int.reduceToNat, Int.reduceLT, Int.reduceLE, Int.reduceGT, Int.reduceGE, Int.reduceAdd, Int.reduceSub, Int.reduceMul, Int.reduceNeg, Int.reduceBEq, Int.reduceBNe, Int.reducePow, Int.reduceDiv, Int.reduceMod, Int.reduceTDiv, Int.reduceTMod, Int.reduceNatCast]
                  repeat (with_reducible refine And.intro (by first | assumption | omega | (simp; done) | (simp; omega)) ?_)
                  refine callG_X (F51_ok m2 x8 _ h10) (by repeat (first | exact leL_refl _ | refine leL_cons (by first | exact leT_refl _ | exact leT_virt | exact leT_junk _ | exact leT_sl | exact leT_sln | exact leT_nil) ?_)) ?_
                  try simp -implicitDefEqProofs (maxSteps := 4000000) (disch := first | omega | decide | (simp only [go_sem]; omega)) only [go_sem, ↓reduceIte, String.reduceEq, String.reduceNe, reduceCtorEq, Int.reduceEq, Nat.reduceAdd, Nat.reduceSub, Nat.reduceMul, Nat.reduceLT, Nat.reduceLeDiff, Nat.reduceEqDiff, Nat.reduceBEq, Int.reduceToNat, Int.reduceLT, Int.reduceLE, Int.reduceGT, Int.reduceGE, Int.reduceAdd, Int.reduceSub, Int.reduceMul, Int.reduceNeg, Int.reduceBEq, Int.reduceBNe, Int.reducePow, Int.reduceDiv, Int.reduceMod, Int.reduceTDiv, Int.reduceTMod, Int.reduceNatCast]
                  repeat (with_reducible refine And.intro (by first | assumption | omega | (simp; done) | (simp; omega)) ?_)
                  refine toEnd hC ?_
                  refine endX_blk ?_
                  refine endX_seq ?_
                  refine runX_regionC fun C hC => ?_
                  try simp -implicitDefEqProofs (maxSteps := 4000000) (disch := first | omega | decide | (simp only [go_sem]; omega)) only [go_sem, ↓reduceIte, String.reduceEq, String.reduceNe, reduceCtorEq, Int.reduceEq, Nat.reduceAdd, Nat.reduceSub, Nat.reduceMul, Nat.reduceLT, Nat.reduceLeDiff, Nat.reduceEqDiff, Nat.reduceBEq, Int.reduceToNat, Int.reduceLT, Int.reduceLE, Int.reduceGT, Int.reduceGE, Int.reduceAdd, Int.reduceSub, Int.reduceMul, Int.reduceNeg, Int.reduceBEq, Int.reduceBNe, Int.reducePow, Int.reduceDiv, Int.reduceMod, Int.reduceTDiv, Int.reduceTMod, Int.reduceNatCast]
                  repeat (with_reducible refine And.intro (by first | assumption | omega | (simp; done) | (simp; omega)) ?_)
                  refine toEnd hC ?_
                  refine endX_q (roundQ_normal ⟨m2, by omega, F19_S2 a0 (IntKind.wrap .i64 (x7 - v10)) (IntKind.wrap .i64 (x8 + (1 : Int))), ?_, (IntKind.wrap .i64 (x7 - v10)), (IntKind.wrap .i64 (x8 + (1 : Int))), rfl, by omega, h⟩)
                  simp only [F19_S2]
                  (try simp -implicitDefEqProofs (maxSteps := 4000000) (disch := first | omega | decide | (simp only [go_sem]; omega)) only [go_sem, ↓reduceIte, String.reduceEq, String.reduceNe, reduceCtorEq, Int.reduceEq, Nat.reduceAdd, Nat.reduceSub, Nat.reduceMul, Nat.reduceLT, Nat.reduceLeDiff, Nat.reduceEqDiff, Nat.reduceBEq, Int.reduceToNat, Int.reduceLT, Int.reduceLE, Int.reduceGT, Int.reduceGE, Int.reduceAdd, Int.reduceSub, Int.reduceMul, Int.reduceNeg, Int.reduceBEq, Int.reduceBNe, Int.reducePow, Int.reduceDiv, Int.reduceMod, Int.reduceTDiv, Int.reduceTMod, Int.reduceNatCast])
                  first | exact leS_refl _ | (refine leS_le ?_ ?_ <;> first | exact leL_refl _ | exact leOs_refl _ | (repeat (first | exact leL_refl _ | refine leL_cons (by first | exact leT_refl _ | exact leT_virt | exact leT_junk _ | exact leT_sl | exact leT_sln | exact leT_nil) ?_)))
                · refine runX_condF rfl c9 ?_
                  refine runX_exit ?_
                  refine endX_seqE ?_
                  refine endX_q (roundQ_exit ?_)
                  refine endX_blkE ?_
                  refine endX_seq ?_
                  refine runX_seq ?_
                  refine runX_seq ?_
                  refine runX_regionC fun C hC => ?_
                  try simp -implicitDefEqProofs (maxSteps := 4000000) (disch := first | omega | decide | (simp only [go_sem]; omega)) only [go_sem, ↓reduceIte, String.reduceEq, String.reduceNe, reduceCtorEq, Int.reduceEq, Nat.reduceAdd, Nat.reduceSub, Nat.reduceMul, Nat.reduceLT, Nat.reduceLeDiff, Nat.reduceEqDiff, Nat.reduceBEq, Int.reduceToNat, Int.reduceLT, Int.reduceLE, Int.reduceGT, Int.reduceGE, Int.reduceAdd, Int.reduceSub, Int.reduceMul, Int.reduceNeg, Int.reduceBEq, Int.reduceBNe, Int.reducePow, Int.reduceDiv, Int.reduceMod, Int.reduceTDiv, Int.reduceTMod, Int.reduceNatCast]
                  repeat (with_reducible refine And.intro (by first | assumption | omega | (simp; done) | (simp; omega)) ?_)
                  refine toEnd hC ?_
                  refine endX_seq ?_
                  refine runX_block ?_
                  refine runX_loop [1, 4, 7] (fun m S => ∃ (x11 : Int) (x12 : Int), S = F19_S3 a0 x11 x12 ∧ m ≤ m2 ∧ F19_L3 m a0 x11 x12 = some r) m2 ⟨F19_S3 a0 x7 (1 : Int), ?_, x7, (1 : Int), rfl, Nat.le_refl _, h⟩ ?_
                  · simp only [F19_S3]
                    (try simp -implicitDefEqProofs (maxSteps := 4000000) (disch := first | omega | decide | (simp only [go_sem]; omega)) only [go_sem, ↓reduceIte, String.reduceEq, String.reduceNe, reduceCtorEq, Int.reduceEq, Nat.reduceAdd, Nat.reduceSub, Nat.reduceMul, Nat.reduceLT, Nat.reduceLeDiff, Nat.reduceEqDiff, Nat.reduceBEq, Int.reduceToNat, Int.reduceLT, Int.reduceLE, Int.reduceGT, Int.reduceGE, Int.reduceAdd, Int.reduceSub, Int.reduceMul, Int.reduceNeg, Int.reduceBEq, Int.reduceBNe, Int.reducePow, Int.reduceDiv, Int.reduceMod, Int.reduceTDiv, Int.reduceTMod, Int.reduceNatCast])
                    first | exact leS_refl _ | (refine leS_le ?_ ?_ <;> first | exact leL_refl _ | exact leOs_refl _ | (repeat (first | exact leL_refl _ | refine leL_cons (by first | exact leT_refl _ | exact leT_virt | exact leT_junk _ | exact leT_sl | exact leT_sln | exact leT_nil) ?_)))
                  · clear h
                    rintro m3 S ⟨x11, x12, rfl, hm3, h⟩
                    cases m3 with
                    | zero => cases (show (none : Option _) = some _ from h)
                    | succ m3 =>
                      rw [F19_L3] at h
                      simp only [F19_S3]
                      refine runX_seq ?_
                      refine runX_seq ?_
                      refine runX_regionC fun C hC => ?_
                      try simp -implicitDefEqProofs (maxSteps := 4000000) (disch := first | omega | decide | (simp only [go_sem]; omega)) only [go_sem, ↓reduceIte, String.reduceEq, String.reduceNe, reduceCtorEq, Int.reduceEq, Nat.reduceAdd, Nat.reduceSub, Nat.reduceMul, Nat.reduceLT, Nat.reduceLeDiff, Nat.reduceEqDiff, Nat.reduceBEq, Int.reduceToNat, Int.reduceLT, Int.reduceLE, Int.reduceGT, Int.reduceGE, Int.reduceAdd, Int.reduceSub, Int.reduceMul, Int.reduceNeg, Int.reduceBEq, Int.reduceBNe, Int.reducePow, Int.reduceDiv, Int.reduceMod, Int.reduceTDiv, Int.reduceTMod, Int.reduceNatCast]
                      repeat (with_reducible refine And.intro (by first | assumption | omega | (simp; done) | (simp; omega)) ?_)
                      refine toEnd hC ?_
                      refine endX_seq ?_
                      rcases iteB_some h with ⟨c13, h⟩ | ⟨c13, h⟩
                      · refine runX_condT rfl c13 ?_
                        refine runX_skip ?_
                        refine endX_seq ?_
                        refine runX_seq ?_
                        refine runX_block ?_
                        refine runX_regionC fun C hC => ?_
                        obtain ⟨v14, h14, h⟩ := bnd_some h
                        try simp -implicitDefEqProofs (maxSteps := 4000000) (disch := first | omega | decide | (simp only [go_sem]; omega)) only [go_sem, ↓reduceIte, String.reduceEq, String.reduceNe, reduceCtorEq, Int.reduceEq, Nat.reduceAdd, Nat.reduceSub, Nat.reduceMul, Nat.reduceLT, Nat.reduceLeDiff, Nat.reduceEqDiff, Nat.reduceBEq, Int.reduceToNat, Int.reduceLT, Int.reduceLE, Int.reduceGT, Int.reduceGE, Int.reduceAdd, Int.reduceSub, Int.reduceMul, Int.reduceNeg, Int.reduceBEq, Int.reduceBNe, Int.reducePow, Int.reduceDiv, Int.reduceMod, Int.reduceTDiv, Int.reduceTMod, Int.reduceNatCast]
                        repeat (with_reducible refine And.intro (by first | assumption | omega | (simp; done) | (simp; omega)) ?_)
                        refine callG_X (F28_ok m3 a0.1 x12 _ h14) (by repeat (first | exact leL_refl _ | refine leL_cons (by first | exact leT_refl _ | exact leT_virt | exact leT_junk _ | exact leT_sl | exact leT_sln | exact leT_nil) ?_)) ?_
                        try simp -implicitDefEqProofs (maxSteps := 4000000) (disch := first | omega | decide | (simp only [go_sem]; omega)) only [go_sem, ↓reduceIte, String.reduceEq, String.reduceNe, reduceCtorEq, Int.reduceEq, Nat.reduceAdd, Nat.reduceSub, Nat.reduceMul, Nat.reduceLT, Nat.reduceLeDiff, Nat.reduceEqDiff, Nat.reduceBEq, Int.reduceToNat, Int.reduceLT, Int.reduceLE, Int.reduceGT, Int.reduceGE, Int.reduceAdd, Int.reduceSub, Int.reduceMul, Int.reduceNeg, Int.reduceBEq, Int.reduceBNe, Int.reducePow, Int.reduceDiv, Int.reduceMod, Int.reduceTDiv, Int.reduceTMod, Int.reduceNatCast]
                        repeat (with_reducible refine And.intro (by first | assumption | omega | (simp; done) | (simp; omega)) ?_)
                        refine toEnd hC ?_
                        refine endX_blk ?_
                        refine endX_seq ?_
                        refine runX_regionC fun C hC => ?_
                        try simp -implicitDefEqProofs (maxSteps := 4000000) (disch := first | omega | decide | (simp only [go_sem]; omega)) only [go_sem, ↓reduceIte, String.reduceEq, String.reduceNe, reduceCtorEq, Int.reduceEq, Nat.reduceAdd, Nat.reduceSub, Nat.reduceMul, Nat.reduceLT, Nat.reduceLeDiff, Nat.reduceEqDiff, Nat.reduceBEq, Int.reduceToNat, Int.reduceLT, Int.reduceLE, Int.reduceGT, Int.reduceGE, Int.reduceAdd, Int.reduceSub, Int.reduceMul, Int.reduceNeg, Int.reduceBEq, Int.reduceBNe, Int.reducePow, Int.reduceDiv, Int.reduceMod, Int.reduceTDiv, Int.reduceTMod, Int.reduceNatCast]
                        repeat (with_reducible refine And.intro (by first | assumption | omega | (simp; done) | (simp; omega)) ?_)
                        refine toEnd hC ?_
                        refine endX_q (roundQ_normal ⟨m3, by omega, F19_S3 a0 (IntKind.wrap .i64 (x11 + v14)) (IntKind.wrap .i64 (x12 + (1 : Int))), ?_, (IntKind.wrap .i64 (x11 + v14)), (IntKind.wrap .i64 (x12 + (1 : Int))), rfl, by omega, h⟩)
                        simp only [F19_S3]
                        (try simp -implicitDefEqProofs (maxSteps := 4000000) (disch := first | omega | decide | (simp only [go_sem]; omega)) only [go_sem, ↓reduceIte, String.reduceEq, String.reduceNe, reduceCtorEq, Int.reduceEq, Nat.reduceAdd, Nat.reduceSub, Nat.reduceMul, Nat.reduceLT, Nat.reduceLeDiff, Nat.reduceEqDiff, Nat.reduceBEq, Int.reduceToNat, Int.reduceLT, Int.reduceLE, Int.reduceGT, Int.reduceGE, Int.reduceAdd, Int.reduceSub, Int.reduceMul, Int.reduceNeg, Int.reduceBEq, Int.reduceBNe, Int.reducePow, Int.reduceDiv, Int.reduceMod, Int.reduceTDiv, Int.reduceTMod, Int.reduceNatCast])
                        first | exact leS_refl _ | (refine leS_le ?_ ?_ <;> first | exact leL_refl _ | exact leOs_refl _ | (repeat (first | exact leL_refl _ | refine leL_cons (by first | exact leT_refl _ | exact leT_virt | exact leT_junk _ | exact leT_sl | exact leT_sln | exact leT_nil) ?_)))
                      · refine runX_condF rfl c13 ?_
                        refine runX_exit ?_
                        refine endX_seqE ?_
                        refine endX_q (roundQ_exit ?_)
                        refine endX_blkE ?_
                        refine endX_seq ?_
                        refine runX_seq ?_
                        refine runX_regionC fun C hC => ?_
                        try simp -implicitDefEqProofs (maxSteps := 4000000) (disch := first | omega | decide | (simp only [go_sem]; omega)) only [go_sem, ↓reduceIte, String.reduceEq, String.reduceNe, reduceCtorEq, Int.reduceEq, Nat.reduceAdd, Nat.reduceSub, Nat.reduceMul, Nat.reduceLT, Nat.reduceLeDiff, Nat.reduceEqDiff, Nat.reduceBEq, Int.reduceToNat, Int.reduceLT, Int.reduceLE, Int.reduceGT, Int.reduceGE, Int.reduceAdd, Int.reduceSub, Int.reduceMul, Int.reduceNeg, Int.reduceBEq, Int.reduceBNe, Int.reducePow, Int.reduceDiv, Int.reduceMod, Int.reduceTDiv, Int.reduceTMod, Int.reduceNatCast]
                        repeat (with_reducible refine And.intro (by first | assumption | omega | (simp; done) | (simp; omega)) ?_)
                        refine toEnd hC ?_
                        refine endX_seq ?_
                        refine runX_ret ?_
                        refine endX_q ?_
                        obtain rfl := Option.some.inj h
                        show RetW _ _ _ _ _
                        simp only [RetW]
                        (try simp -implicitDefEqProofs (maxSteps := 4000000) (disch := first | omega | decide | (simp only [go_sem]; omega)) only [go_sem, ↓reduceIte, String.reduceEq, String.reduceNe, reduceCtorEq, Int.reduceEq, Nat.reduceAdd, Nat.reduceSub, Nat.reduceMul, Nat.reduceLT, Nat.reduceLeDiff, Nat.reduceEqDiff, Nat.reduceBEq, Int.reduceToNat, Int.reduceLT, Int.reduceLE, Int.reduceGT, Int.reduceGE, Int.reduceAdd, Int.reduceSub, Int.reduceMul, Int.reduceNeg, Int.reduceBEq, Int.reduceBNe, Int.reducePow, Int.reduceDiv, Int.reduceMod, Int.reduceTDiv, Int.reduceTMod, Int.reduceNatCast])
                        first | exact leT_refl _ | (refine ⟨rfl, ?_⟩; first | exact leT_refl _ | exact leT_sl | exact leT_sln | exact leT_nil | (refine leT_tup (by repeat (first | exact leL_refl _ | refine leL_cons (by first | exact leT_refl _ | exact leT_virt | exact leT_junk _ | exact leT_sl | exact leT_sln | exact leT_nil) ?_))) | (refine leT_agg (by repeat (first | exact leL_refl _ | refine leL_cons (by first | exact leT_refl _ | exact leT_virt | exact leT_junk _ | exact leT_sl | exact leT_sln | exact leT_nil) ?_)))) | (first | exact leT_refl _ | exact leT_sl | exact leT_sln | exact leT_nil | (refine leT_tup (by repeat (first | exact leL_refl _ | refine leL_cons (by first | exact leT_refl _ | exact leT_virt | exact leT_junk _ | exact leT_sl | exact leT_sln | exact leT_nil) ?_))) | (refine leT_agg (by repeat (first | exact leL_refl _ | refine leL_cons (by first | exact leT_refl _ | exact leT_virt | exact leT_junk _ | exact leT_sl | exact leT_sln | exact leT_nil) ?_))))
end Go.Proofs.YtdfghdppbfabfaaX

set_option linter.unusedVariables false
set_option linter.unusedSimpArgs false
namespace Go.Proofs.YtdfghdppbfabfaaX
open Go Go.RowKit Go.Proofs
set_option maxRecDepth 100000
/-! ### shadowboxref15.Weekday -/
def F20_S1 (x4 : Int) : St := ⟨[.junk, .junk, .junk, .junk, .junk, .imm (.int .i64 x4), .junk, .junk, .junk, .junk, .junk, .junk, .junk, .junk, .junk, .junk, .junk, .junk, .junk, .junk, .junk, .junk, .junk, .junk, .junk, .junk, .junk, .junk, .junk], []⟩
def F20_J1 (n : Nat) (x4 : Int) : Option (Int) := iteB (decide (x4 < (0 : Int))) (some (IntKind.wrap .i64 (x4 + (7 : Int)))) (some x4)
def F20 (n : Nat) (a0 : (Int) × (Int) × (Int) × (Int) × (Int) × (Int)) : Option (Int) := (F19 n (a0.1, a0.2.1, a0.2.2.1, a0.2.2.2.1, a0.2.2.2.2.1, a0.2.2.2.2.2)).bind fun v1 => iteB (!v1.2) (some (-1 : Int)) (iteB (decide ((v1.1.tmod (86400 : Int)) < (0 : Int))) (F20_J1 n ((IntKind.wrap .i64 ((IntKind.wrap .i64 (v1.1.tdiv (86400 : Int))) + (3 : Int))).tmod (7 : Int))) (F20_J1 n ((IntKind.wrap .i64 ((IntKind.wrap .i64 (v1.1.tdiv (86400 : Int))) + (4 : Int))).tmod (7 : Int))))
set_option maxHeartbeats 4000000 in
theorem F20_ok : ∀ (n : Nat) (a0 : (Int) × (Int) × (Int) × (Int) × (Int) × (Int)) (r : Int), F20 n a0 = some r → FnC Try.prog 20 [.agg [.imm (.int .i64 a0.1), .imm (.int .i64 a0.2.1), .imm (.int .i64 a0.2.2.1), .imm (.int .i64 a0.2.2.2.1), .imm (.int .i64 a0.2.2.2.2.1), .imm (.int .i64 a0.2.2.2.2.2)]] (.imm (.int .i64 r))
  | n, a0, r, h => by
    unfold F20 at h
    refine FnC.goX mixed Try.func20 (by kernel_rfl) rfl ?_
    simp only [Try.ntmps20, List.length_cons, List.length_nil, List.replicate, List.cons_append, List.nil_append, Nat.reduceAdd, Nat.reduceSub]
    refine runX_seq ?_
    refine runX_regionC fun C hC => ?_
    try simp -implicitDefEqProofs (maxSteps := 4000000) (disch := first | omega | decide | (simp only [go_sem]; omega)) only [go_sem, ↓reduceIte, String.reduceEq, String.reduceNe, reduceCtorEq, Int.reduceEq, Nat.reduceAdd, Nat.reduceSub, Nat.reduceMul, Nat.reduceLT, Nat.reduceLeDiff, Nat.reduceEqDiff, Nat.reduceBEq, Int.reduceToNat, Int.reduceLT, Int.reduceLE, Int.reduceGT, Int.reduceGE, Int.reduceAdd, Int.reduceSub, Int.reduceMul, Int.reduceNeg, Int.reduceBEq, Int.reduceBNe, Int.reducePow, Int.reduceDiv, Int.reduceMod, Int.reduceTDiv, Int.reduceTMod, Int.reduceNatCast]
    repeat (with_reducible refine And.intro (by first | assumption | omega | (simp; done) | (simp; omega)) ?_)
    refine toEnd hC ?_
    refine endX_seq ?_
    refine runX_seq ?_
    refine runX_regionC fun C hC => ?_
    obtain ⟨v1, h1, h⟩ := bnd_some h
    try simp -implicitDefEqProofs (maxSteps := 4000000) (disch := first | omega | decide | (simp only [go_sem]; omega)) only [go_sem, ↓reduceIte, String.reduceEq, String.reduceNe, reduceCtorEq, Int.reduceEq, Nat.reduceAdd, Nat.reduceSub, Nat.reduceMul, Nat.reduceLT, Nat.reduceLeDiff, Nat.reduceEqDiff, Nat.reduceBEq, Int.reduceToNat, Int.reduceLT, Int.reduceLE, Int.reduceGT, Int.reduceGE, Int.reduceAdd, Int.reduceSub, Int.reduceMul, Int.reduceNeg, Int.reduceBEq, Int.reduceBNe, Int.reducePow, Int.reduceDiv, Int.reduceMod, Int.reduceTDiv, Int.reduceTMod, Int.reduceNatCast]
    repeat (with_reducible refine And.intro (by first | assumption | omega | (simp; done) | (simp; omega)) ?_)
    refine callG_X (F19_ok n (a0.1, a0.2.1, a0.2.2.1, a0.2.2.2.1, a0.2.2.2.2.1, a0.2.2.2.2.2) _ h1) (by repeat (first | exact leL_refl _ | refine leL_cons (by first | exact leT_refl _ | exact leT_virt | exact leT_junk _ | exact leT_sl | exact leT_sln | exact leT_nil) ?_)) ?_
    try simp -implicitDefEqProofs (maxSteps := 4000000) (disch := first | omega | decide | (simp only [go_sem]; omega)) only [go_sem, ↓reduceIte, String.reduceEq, String.reduceNe, reduceCtorEq, Int.reduceEq, Nat.reduceAdd, Nat.reduceSub, Nat.reduceMul, Nat.reduceLT, Nat.reduceLeDiff, Nat.reduceEqDiff, Nat.reduceBEq, Int.reduceToNat, Int.reduceLT, Int.reduceLE, Int.reduceGT, Int.reduceGE, Int.reduceAdd, Int.reduceSub, Int.reduceMul, Int.reduceNeg, Int.reduceBEq, Int.reduceBNe, Int.reducePow, Int.reduceDiv, Int.reduceMod, Int.reduceTDiv, Int.reduceTMod, Int.reduceNatCast]
    repeat (with_reducible refine And.intro (by first | assumption | omega | (simp; done) | (simp; omega)) ?_)
    refine toEnd hC ?_
    refine endX_seq ?_
    refine runX_seq ?_
    refine runX_seq ?_
    refine runX_regionC fun C hC => ?_
    try simp -implicitDefEqProofs (maxSteps := 4000000) (disch := first | omega | decide | (simp only [go_sem]; omega)) only [go_sem, ↓reduceIte, String.reduceEq, String.reduceNe, reduceCtorEq, Int.reduceEq, Nat.reduceAdd, Nat.reduceSub, Nat.reduceMul, Nat.reduceLT, Nat.reduceLeDiff, Nat.reduceEqDiff, Nat.reduceBEq, Int.reduceToNat, Int.reduceLT, Int.reduceLE, Int.reduceGT, Int.reduceGE, Int.reduceAdd, Int.reduceSub, Int.reduceMul, Int.reduceNeg, Int.reduceBEq, Int.reduceBNe, Int.reducePow, Int.reduceDiv, Int.reduceMod, Int.reduceTDiv, Int.reduceTMod, Int.reduceNatCast]
    repeat (with_reducible refine And.intro (by first | assumption | omega | (simp; done) | (simp; omega)) ?_)
    refine toEnd hC ?_
    refine endX_seq ?_
    rcases iteB_some h with ⟨c2, h⟩ | ⟨c2, h⟩
    · refine runX_condT rfl c2 ?_
      refine runX_seq ?_
      refine runX_regionC fun C hC => ?_
      try simp -implicitDefEqProofs (maxSteps := 4000000) (disch := first | omega | decide | (simp only [go_sem]; omega)) only [go_sem, ↓reduceIte, String.reduceEq, String.reduceNe, reduceCtorEq, Int.reduceEq, Nat.reduceAdd, Nat.reduceSub, Nat.reduceMul, Nat.reduceLT, Nat.reduceLeDiff, Nat.reduceEqDiff, Nat.reduceBEq, Int.reduceToNat, Int.reduceLT, Int.reduceLE, Int.reduceGT, Int.reduceGE, Int.reduceAdd, Int.reduceSub, Int.reduceMul, Int.reduceNeg, Int.reduceBEq, Int.reduceBNe, Int.reducePow, Int.reduceDiv, Int.reduceMod, Int.reduceTDiv, Int.reduceTMod, Int.reduceNatCast]
      repeat (with_reducible refine And.intro (by first | assumption | omega | (simp; done) | (simp; omega)) ?_)
      refine toEnd hC ?_
      refine endX_seq ?_
      refine runX_ret ?_
      refine endX_seqR ?_
      refine endX_q ?_
      obtain rfl := Option.some.inj h
      show RetW _ _ _ _ _
      simp only [RetW]
      (try simp -implicitDefEqProofs (maxSteps := 4000000) (disch := first | omega | decide | (simp only [go_sem]; omega)) only [go_sem, ↓reduceIte, String.reduceEq, String.reduceNe, reduceCtorEq, Int.reduceEq, Nat.reduceAdd, Nat.reduceSub, Nat.reduceMul, Nat.reduceLT, Nat.reduceLeDiff, Nat.reduceEqDiff, Nat.reduceBEq, Int.reduceToNat, Int.reduceLT, Int.reduceLE, Int.reduceGT, Int.reduceGE, Int.reduceAdd, Int.reduceSub, Int.reduceMul, Int.reduceNeg, Int.reduceBEq, Int.reduceBNe, Int.reducePow, Int.reduceDiv, Int.reduceMod, Int.reduceTDiv, Int.reduceTMod, Int.reduceNatCast])
      first | exact leT_refl _ | (refine ⟨rfl, ?_⟩; first | exact leT_refl _ | exact leT_sl | exact leT_sln | exact leT_nil | (refine leT_tup (by repeat (first | exact leL_refl _ | refine leL_cons (by first | exact leT_refl _ | exact leT_virt | exact leT_junk _ | exact leT_sl | exact leT_sln | exact leT_nil) ?_))) | (refine leT_agg (by repeat (first | exact leL_refl _ | refine leL_cons (by first | exact leT_refl _ | exact leT_virt | exact leT_junk _ | exact leT_sl | exact leT_sln | exact leT_nil) ?_)))) | (first | exact leT_refl _ | exact leT_sl | exact leT_sln | exact leT_nil | (refine leT_tup (by repeat (first | exact leL_refl _ | refine leL_cons (by first | exact leT_refl _ | exact leT_virt | exact leT_junk _ | exact leT_sl | exact leT_sln | exact leT_nil) ?_))) | (refine leT_agg (by repeat (first | exact leL_refl _ | refine leL_cons (by first | exact leT_refl _ | exact leT_virt | exact leT_junk _ | exact leT_sl | exact leT_sln | exact leT_nil) ?_))))
    · refine runX_condF rfl c2 ?_
      refine runX_skip ?_
      refine endX_seq ?_
      refine runX_seq ?_
      refine runX_regionC fun C hC => ?_
      try simp -implicitDefEqProofs (maxSteps := 4000000) (disch := first | omega | decide | (simp only [go_sem]; omega)) only [go_sem, ↓reduceIte, String.reduceEq, String.reduceNe, reduceCtorEq, Int.reduceEq, Nat.reduceAdd, Nat.reduceSub, Nat.reduceMul, Nat.reduceLT, Nat.reduceLeDiff, Nat.reduceEqDiff, Nat.reduceBEq, Int.reduceToNat, Int.reduceLT, Int.reduceLE, Int.reduceGT, Int.reduceGE, Int.reduceAdd, Int.reduceSub, Int.reduceMul, Int.reduceNeg, Int.reduceBEq, Int.reduceBNe, Int.reducePow, Int.reduceDiv, Int.reduceMod, Int.reduceTDiv, Int.reduceTMod, Int.reduceNatCast]
      repeat (with_reducible refine And.intro (by first | assumption | omega | (simp; done) | (simp; omega)) ?_)
      refine toEnd hC ?_
      refine endX_seq ?_
      refine runX_meet [5] (fun S => ∃ (x4 : Int), S = F20_S1 x4 ∧ F20_J1 n x4 = some r) ?_ ?_
      · refine runX_seq ?_
        refine runX_regionC fun C hC => ?_
        try simp -implicitDefEqProofs (maxSteps := 4000000) (disch := first | omega | decide | (simp only [go_sem]; omega)) only [go_sem, ↓reduceIte, String.reduceEq, String.reduceNe, reduceCtorEq, Int.reduceEq, Nat.reduceAdd, Nat.reduceSub, Nat.reduceMul, Nat.reduceLT, Nat.reduceLeDiff, Nat.reduceEqDiff, Nat.reduceBEq, Int.reduceToNat, Int.reduceLT, Int.reduceLE, Int.reduceGT, Int.reduceGE, Int.reduceAdd, Int.reduceSub, Int.reduceMul, Int.reduceNeg, Int.reduceBEq, Int.reduceBNe, Int.reducePow, Int.reduceDiv, Int.reduceMod, Int.reduceTDiv, Int.reduceTMod, Int.reduceNatCast]
        repeat (with_reducible refine And.intro (by first | assumption | omega | (simp; done) | (simp; omega)) ?_)
        refine toEnd hC ?_
        refine endX_seq ?_
        rcases iteB_some h with ⟨c3, h⟩ | ⟨c3, h⟩
        · refine runX_condT rfl c3 ?_
          refine runX_regionC fun C hC => ?_
          try simp -implicitDefEqProofs (maxSteps := 4000000) (disch := first | omega | decide | (simp only [go_sem]; omega)) only [go_sem, ↓reduceIte, String.reduceEq, String.reduceNe, reduceCtorEq, Int.reduceEq, Nat.reduceAdd, Nat.reduceSub, Nat.reduceMul, Nat.reduceLT, Nat.reduceLeDiff, Nat.reduceEqDiff, Nat.reduceBEq, Int.reduceToNat, Int.reduceLT, Int.reduceLE, Int.reduceGT, Int.reduceGE, Int.reduceAdd, Int.reduceSub, Int.reduceMul, Int.reduceNeg, Int.reduceBEq, Int.reduceBNe, Int.reducePow, Int.reduceDiv, Int.reduceMod, Int.reduceTDiv, Int.reduceTMod, Int.reduceNatCast]
          repeat (with_reducible refine And.intro (by first | assumption | omega | (simp; done) | (simp; omega)) ?_)
          refine toEnd hC ?_
          refine endX_q (meetQ_normal ⟨F20_S1 ((IntKind.wrap .i64 ((IntKind.wrap .i64 (v1.1.tdiv (86400 : Int))) + (3 : Int))).tmod (7 : Int)), ?_, ((IntKind.wrap .i64 ((IntKind.wrap .i64 (v1.1.tdiv (86400 : Int))) + (3 : Int))).tmod (7 : Int)), rfl, h⟩)
          simp only [F20_S1]
          (try simp -implicitDefEqProofs (maxSteps := 4000000) (disch := first | omega | decide | (simp only [go_sem]; omega)) only [go_sem, ↓reduceIte, String.reduceEq, String.reduceNe, reduceCtorEq, Int.reduceEq, Nat.reduceAdd, Nat.reduceSub, Nat.reduceMul, Nat.reduceLT, Nat.reduceLeDiff, Nat.reduceEqDiff, Nat.reduceBEq, Int.reduceToNat, Int.reduceLT, Int.reduceLE, Int.reduceGT, Int.reduceGE, Int.reduceAdd, Int.reduceSub, Int.reduceMul, Int.reduceNeg, Int.reduceBEq, Int.reduceBNe, Int.reducePow, Int.reduceDiv, Int.reduceMod, Int.reduceTDiv, Int.reduceTMod, Int.reduceNatCast])
          first | exact leS_refl _ | (refine leS_le ?_ ?_ <;> first | exact leL_refl _ | exact leOs_refl _ | (repeat (first | exact leL_refl _ | refine leL_cons (by first | exact leT_refl _ | exact leT_virt | exact leT_junk _ | exact leT_sl | exact leT_sln | exact leT_nil) ?_)))
        · refine runX_condF rfl c3 ?_
          refine runX_skip ?_
          refine endX_q (meetQ_normal ⟨F20_S1 ((IntKind.wrap .i64 ((IntKind.wrap .i64 (v1.1.tdiv (86400 : Int))) + (4 : Int))).tmod (7 : Int)), ?_, ((IntKind.wrap .i64 ((IntKind.wrap .i64 (v1.1.tdiv (86400 : Int))) + (4 : Int))).tmod (7 : Int)), rfl, h⟩)
          simp only [F20_S1]
          (try simp -implicitDefEqProofs (maxSteps := 4000000) (disch := first | omega | decide | (simp only [go_sem]; omega)) only [go_sem, ↓reduceIte, String.reduceEq, String.reduceNe, reduceCtorEq, Int.reduceEq, Nat.reduceAdd, Nat.reduceSub, Nat.reduceMul, Nat.reduceLT, Nat.reduceLeDiff, Nat.reduceEqDiff, Nat.reduceBEq, Int.reduceToNat, Int.reduceLT, Int.reduceLE, Int.reduceGT, Int.reduceGE, Int.reduceAdd, Int.reduceSub, Int.reduceMul, Int.reduceNeg, Int.reduceBEq, Int.reduceBNe, Int.reducePow, Int.reduceDiv, Int.reduceMod, Int.reduceTDiv, Int.reduceTMod, Int.reduceNatCast])
          first | exact leS_refl _ | (refine leS_le ?_ ?_ <;> first | exact leL_refl _ | exact leOs_refl _ | (repeat (first | exact leL_refl _ | refine leL_cons (by first | exact leT_refl _ | exact leT_virt | exact leT_junk _ | exact leT_sl | exact leT_sln | exact leT_nil) ?_)))
      · clear h
        rintro S ⟨x4, rfl, h⟩
        rw [F20_J1] at h
        simp only [F20_S1]
        refine runX_seq ?_
        refine runX_seq ?_
        refine runX_regionC fun C hC => ?_
        try simp -implicitDefEqProofs (maxSteps := 4000000) (disch := first | omega | decide | (simp only [go_sem]; omega)) only [go_sem, ↓reduceIte, String.reduceEq, String.reduceNe, reduceCtorEq, Int.reduceEq, Nat.reduceAdd, Nat.reduceSub, Nat.reduceMul, Nat.reduceLT, Nat.reduceLeDiff, Nat.reduceEqDiff, Nat.reduceBEq, Int.reduceToNat, Int.reduceLT, Int.reduceLE, Int.reduceGT, Int.reduceGE, Int.reduceAdd, Int.reduceSub, Int.reduceMul, Int.reduceNeg, Int.reduceBEq, Int.reduceBNe, Int.reducePow, Int.reduceDiv, Int.reduceMod, Int.reduceTDiv, Int.reduceTMod, Int.reduceNatCast]
        repeat (with_reducible refine And.intro (by first | assumption | omega | (simp; done) | (simp; omega)) ?_)
        refine toEnd hC ?_
        refine endX_seq ?_
        rcases iteB_some h with ⟨c5, h⟩ | ⟨c5, h⟩
        · refine runX_condT rfl c5 ?_
          refine runX_regionC fun C hC => ?_
          try simp -implicitDefEqProofs (maxSteps := 4000000) (disch := first | omega | decide | (simp only [go_sem]; omega)) only [go_sem, ↓reduceIte, String.reduceEq, String.reduceNe, reduceCtorEq, Int.reduceEq, Nat.reduceAdd, Nat.reduceSub, Nat.reduceMul, Nat.reduceLT, Nat.reduceLeDiff, Nat.reduceEqDiff, Nat.reduceBEq, Int.reduceToNat, Int.reduceLT, Int.reduceLE, Int.reduceGT, Int.reduceGE, Int.reduceAdd, Int.reduceSub, Int.reduceMul, Int.reduceNeg, Int.reduceBEq, Int.reduceBNe, Int.reducePow, Int.reduceDiv, Int.reduceMod, Int.reduceTDiv, Int.reduceTMod, Int.reduceNatCast]
          repeat (with_reducible refine And.intro (by first | assumption | omega | (simp; done) | (simp; omega)) ?_)
          refine toEnd hC ?_
          refine endX_seq ?_
          refine runX_seq ?_
          refine runX_regionC fun C hC => ?_
          try simp -implicitDefEqProofs (maxSteps := 4000000) (disch := first | omega | decide | (simp only [go_sem]; omega)) only [go_sem, ↓reduceIte, String.reduceEq, String.reduceNe, reduceCtorEq, Int.reduceEq, Nat.reduceAdd, Nat.reduceSub, Nat.reduceMul, Nat.reduceLT, Nat.reduceLeDiff, Nat.reduceEqDiff, Nat.reduceBEq, Int.reduceToNat, Int.reduceLT, Int.reduceLE, Int.reduceGT, Int.reduceGE, Int.reduceAdd, Int.reduceSub, Int.reduceMul, Int.reduceNeg, Int.reduceBEq, Int.reduceBNe, Int.reducePow, Int.reduceDiv, Int.reduceMod, Int.reduceTDiv, Int.reduceTMod, Int.reduceNatCast]
          repeat (with_reducible refine And.intro (by first | assumption | omega | (simp; done) | (simp; omega)) ?_)
          refine toEnd hC ?_
          refine endX_seq ?_
          refine runX_ret ?_
          refine endX_q ?_
          obtain rfl := Option.some.inj h
          show RetW _ _ _ _ _
          simp only [RetW]
          (try simp -implicitDefEqProofs (maxSteps := 4000000) (disch := first | omega | decide | (simp only [go_sem]; omega)) only [go_sem, ↓reduceIte, String.reduceEq, String.reduceNe, reduceCtorEq, Int.reduceEq, Nat.reduceAdd, Nat.reduceSub, Nat.reduceMul, Nat.reduceLT, Nat.reduceLeDiff, Nat.reduceEqDiff, Nat.reduceBEq, Int.reduceToNat, Int.reduceLT, Int.reduceLE, Int.reduceGT, Int.reduceGE, Int.reduceAdd, Int.reduceSub, Int.reduceMul, Int.reduceNeg, Int.reduceBEq, Int.reduceBNe, Int.reducePow, Int.reduceDiv, Int.reduceMod, Int.reduceTDiv, Int.reduceTMod, Int.reduceNatCast])
          first | exact leT_refl _ | (refine ⟨rfl, ?_⟩; first | exact leT_refl _ | exact leT_sl | exact leT_sln | exact leT_nil | (refine leT_tup (by repeat (first | exact leL_refl _ | refine leL_cons (by first | exact leT_refl _ | exact leT_virt | exact leT_junk _ | exact leT_sl | exact leT_sln | exact leT_nil) ?_))) | (refine leT_agg (by repeat (first | exact leL_refl _ | refine leL_cons (by first | exact leT_refl _ | exact leT_virt | exact leT_junk _ | exact leT_sl | exact leT_sln | exact leT_nil) ?_)))) | (first | exact leT_refl _ | exact leT_sl | exact leT_sln | exact leT_nil | (refine leT_tup (by repeat (first | exact leL_refl _ | refine leL_cons (by first | exact leT_refl _ | exact leT_virt | exact leT_junk _ | exact leT_sl | exact leT_sln | exact leT_nil) ?_))) | (refine leT_agg (by repeat (first | exact leL_refl _ | refine leL_cons (by first | exact leT_refl _ | exact leT_virt | exact leT_junk _ | exact leT_sl | exact leT_sln | exact leT_nil) ?_))))
        · refine runX_condF rfl c5 ?_
          refine runX_skip ?_
          refine endX_seq ?_
          refine runX_seq ?_
          refine runX_regionC fun C hC => ?_
          try simp -implicitDefEqProofs (maxSteps := 4000000) (disch := first | omega | decide | (simp only [go_sem]; omega)) only [go_sem, ↓reduceIte, String.reduceEq, String.reduceNe, reduceCtorEq, Int.reduceEq, Nat.reduceAdd, Nat.reduceSub, Nat.reduceMul, Nat.reduceLT, Nat.reduceLeDiff, Nat.reduceEqDiff, Nat.reduceBEq, Int.reduceToNat, Int.reduceLT, Int.reduceLE, Int.reduceGT, Int.reduceGE, Int.reduceAdd, Int.reduceSub, Int.reduceMul, Int.reduceNeg, Int.reduceBEq, Int.reduceBNe, Int.reducePow, Int.reduceDiv, Int.reduceMod, Int.reduceTDiv, Int.reduceTMod, Int.reduceNatCast]
          repeat (with_reducible refine And.intro (by first | assumption | omega | (simp; done) | (simp; omega)) ?_)
          refine toEnd hC ?_
          refine endX_seq ?_
          refine runX_ret ?_
          refine endX_q ?_
          obtain rfl := Option.some.inj h
          show RetW _ _ _ _ _
          simp only [RetW]
          (try simp -implicitDefEqProofs (maxSteps := 4000000) (disch := first | omega | decide | (simp only [go_sem]; omega)) only [go_sem, ↓reduceIte, String.reduceEq, String.reduceNe, reduceCtorEq, Int.reduceEq, Nat.reduceAdd, Nat.reduceSub, Nat.reduceMul, Nat.reduceLT, Nat.reduceLeDiff, Nat.reduceEqDiff, Nat.reduceBEq, Int.reduceToNat, Int.reduceLT, Int.reduceLE, Int.reduceGT, Int.reduceGE, Int.reduceAdd, Int.reduceSub, Int.reduceMul, Int.reduceNeg, Int.reduceBEq, Int.reduceBNe, Int.reducePow, Int.reduceDiv, Int.reduceMod, Int.reduceTDiv, Int.reduceTMod, Int.reduceNatCast])
          first | exact leT_refl _ | (refine ⟨rfl, ?_⟩; first | exact leT_refl _ | exact leT_sl | exact leT_sln | exact leT_nil | (refine leT_tup (by repeat (first | exact leL_refl _ | refine leL_cons (by first | exact leT_refl _ | exact leT_virt | exact leT_junk _ | exact leT_sl | exact leT_sln | exact leT_nil) ?_))) | (refine leT_agg (by repeat (first | exact leL_refl _ | refine leL_cons (by first | exact leT_refl _ | exact leT_virt | exact leT_junk _ | exact leT_sl | exact leT_sln | exact leT_nil) ?_)))) | (first | exact leT_refl _ | exact leT_sl | exact leT_sln | exact leT_nil | (refine leT_tup (by repeat (first | exact leL_refl _ | refine leL_cons (by first | exact leT_refl _ | exact leT_virt | exact leT_junk _ | exact leT_sl | exact leT_sln | exact leT_nil) ?_))) | (refine leT_agg (by repeat (first | exact leL_refl _ | refine leL_cons (by first | exact leT_refl _ | exact leT_virt | exact leT_junk _ | exact leT_sl | exact leT_sln | exact leT_nil) ?_))))
end Go.Proofs.YtdfghdppbfabfaaX

set_option linter.unusedVariables false
set_option linter.unusedSimpArgs false
namespace Go.Proofs.YtdfghdppbfabfaaX
open Go Go.RowKit Go.Proofs
set_option maxRecDepth 100000
/-! ### shadowboxref15.number -/
def F53_S1 (a1 : Int) (x1 : Int) (x2 : List UInt8) (x3 : Int) : St := ⟨[.imm (.int .i64 x1), .imm (.int .i64 a1), .junk, .junk, .junk, .imm (.string (bs x2)), .imm (.int .i64 x3), .junk, .junk, .junk, .junk, .junk, .junk, .junk, .junk, .junk, .junk, .junk, .junk, .junk, .junk, .junk, .junk], []⟩
def F53_L1 : Nat → (Int) → (Int) → (List UInt8) → (Int) → Option (List UInt8)
  | 0, _, _, _, _ => none
  | m1 + 1, a1, x1, x2, x3 => iteB (decide (x3 < a1)) (grd (0 ≤ (x1.tmod (10 : Int)) ∧ (x1.tmod (10 : Int)) ≤ (IntKind.wrap .i64 ((x1.tmod (10 : Int)) + (1 : Int))) ∧ (IntKind.wrap .i64 ((x1.tmod (10 : Int)) + (1 : Int))) ≤ (10 : Int)) (grd (((([48, 49, 50, 51, 52, 53, 54, 55, 56, 57] : List UInt8).take (IntKind.wrap .i64 ((x1.tmod (10 : Int)) + (1 : Int))).toNat).drop (x1.tmod (10 : Int)).toNat).length + x2.length ≤ 9223372036854775807) (F53_L1 m1 a1 (IntKind.wrap .i64 (x1.tdiv (10 : Int))) (((([48, 49, 50, 51, 52, 53, 54, 55, 56, 57] : List UInt8).take (IntKind.wrap .i64 ((x1.tmod (10 : Int)) + (1 : Int))).toNat).drop (x1.tmod (10 : Int)).toNat) ++ x2) (IntKind.wrap .i64 (x3 + (1 : Int)))))) (some x2)
def F53 (n : Nat) (a0 : Int) (a1 : Int) : Option (List UInt8) := F53_L1 n a1 a0 [] (0 : Int)
set_option maxHeartbeats 4000000 in
theorem F53_ok : ∀ (n : Nat) (a0 : Int) (a1 : Int) (r : List UInt8), F53 n a0 a1 = some r → FnC Try.prog 53 [.imm (.int .i64 a0), .imm (.int .i64 a1)] (.imm (.string (bs r)))
  | n, a0, a1, r, h => by
    unfold F53 at h
    refine FnC.goX mixed Try.func53 (by kernel_rfl) rfl ?_
    simp only [Try.ntmps53, List.length_cons, List.length_nil, List.replicate, List.cons_append, List.nil_append, Nat.reduceAdd, Nat.reduceSub]
    refine runX_seq ?_
    refine runX_regionC fun C hC => ?_
    try simp -implicitDefEqProofs (maxSteps := 4000000) (disch := first | omega | decide | (simp only [go_sem]; omega)) only [go_sem, ↓reduceIte, String.reduceEq, String.reduceNe, reduceCtorEq, Int.reduceEq, Nat.reduceAdd, Nat.reduceSub, Nat.reduceMul, Nat.reduceLT, Nat.reduceLeDiff, Nat.reduceEqDiff, Nat.reduceBEq, Int.reduceToNat, Int.reduceLT, Int.reduceLE, Int.reduceGT, Int.reduceGE, Int.reduceAdd, Int.reduceSub, Int.reduceMul, Int.reduceNeg, Int.reduceBEq, Int.reduceBNe, Int.reducePow, Int.reduceDiv, Int.reduceMod, Int.reduceTDiv, Int.reduceTMod, Int.reduceNatCast]
    repeat (with_reducible refine And.intro (by first | assumption | omega | (simp; done) | (simp; omega)) ?_)
    refine toEnd hC ?_
    refine endX_seq ?_
    refine runX_seq ?_
    refine runX_regionC fun C hC => ?_
    try simp -implicitDefEqProofs (maxSteps := 4000000) (disch := first | omega | decide | (simp only [go_sem]; omega)) only [go_sem, ↓reduceIte, String.reduceEq, String.reduceNe, reduceCtorEq, Int.reduceEq, Nat.reduceAdd, Nat.reduceSub, Nat.reduceMul, Nat.reduceLT, Nat.reduceLeDiff, Nat.reduceEqDiff, Nat.reduceBEq, Int.reduceToNat, Int.reduceLT, Int.reduceLE, Int.reduceGT, Int.reduceGE, Int.reduceAdd, Int.reduceSub, Int.reduceMul, Int.reduceNeg, Int.reduceBEq, Int.reduceBNe, Int.reducePow, Int.reduceDiv, Int.reduceMod, Int.reduceTDiv, Int.reduceTMod, Int.reduceNatCast]
    repeat (with_reducible refine And.intro (by first | assumption | omega | (simp; done) | (simp; omega)) ?_)
    refine toEnd hC ?_
    refine endX_seq ?_
    refine runX_seq ?_
    refine runX_seq ?_
    refine runX_regionC fun C hC => ?_
    try simp -implicitDefEqProofs (maxSteps := 4000000) (disch := first | omega | decide | (simp only [go_sem]; omega)) only [go_sem, ↓reduceIte, String.reduceEq, String.reduceNe, reduceCtorEq, Int.reduceEq, Nat.reduceAdd, Nat.reduceSub, Nat.reduceMul, Nat.reduceLT, Nat.reduceLeDiff, Nat.reduceEqDiff, Nat.reduceBEq, Int.reduceToNat, Int.reduceLT, Int.reduceLE, Int.reduceGT, Int.reduceGE, Int.reduceAdd, Int.reduceSub, Int.reduceMul, Int.reduceNeg, Int.reduceBEq, Int.reduceBNe, Int.reducePow, Int.reduceDiv, Int.reduceMod, Int.reduceTDiv, Int.reduceTMod, Int.reduceNatCast]
    repeat (with_reducible refine And.intro (by first | assumption | omega | (simp; done) | (simp; omega)) ?_)
    refine toEnd hC ?_
    refine endX_seq ?_
    refine runX_block ?_
    refine runX_loop [0, 1, 5, 6] (fun m S => ∃ (x1 : Int) (x2 : List UInt8) (x3 : Int), S = F53_S1 a1 x1 x2 x3 ∧ m ≤ n ∧ F53_L1 m a1 x1 x2 x3 = some r) n ⟨F53_S1 a1 a0 [] (0 : Int), ?_, a0, [], (0 : Int), rfl, Nat.le_refl _, h⟩ ?_
    · simp only [F53_S1]
      (try simp -implicitDefEqProofs (maxSteps := 4000000) (disch := first | omega | decide | (simp only [go_sem]; omega)) only [go_sem, ↓reduceIte, String.reduceEq, String.reduceNe, reduceCtorEq, Int.reduceEq, Nat.reduceAdd, Nat.reduceSub, Nat.reduceMul, Nat.reduceLT, Nat.reduceLeDiff, Nat.reduceEqDiff, Nat.reduceBEq, Int.reduceToNat, Int.reduceLT, Int.reduceLE, Int.reduceGT, Int.reduceGE, Int.reduceAdd, Int.reduceSub, Int.reduceMul, Int.reduceNeg, Int.reduceBEq, Int.reduceBNe, Int.reducePow, Int.reduceDiv, Int.reduceMod, Int.reduceTDiv, Int.reduceTMod, Int.reduceNatCast])
      first | exact leS_refl _ | (refine leS_le ?_ ?_ <;> first | exact leL_refl _ | exact leOs_refl _ | (repeat (first | exact leL_refl _ | refine leL_cons (by first | exact leT_refl _ | exact leT_virt | exact leT_junk _ | exact leT_sl | exact leT_sln | exact leT_nil) ?_)))
    · clear h
      rintro m1 S ⟨x1, x2, x3, rfl, hm1, h⟩
      cases m1 with
      | zero => cases (show (none : Option _) = some _ from h)
      | succ m1 =>
        rw [F53_L1] at h
        simp only [F53_S1]
        refine runX_seq ?_
        refine runX_seq ?_
        refine runX_regionC fun C hC => ?_
        try simp -implicitDefEqProofs (maxSteps := 4000000) (disch := first | omega | decide | (simp only [go_sem]; omega)) only [go_sem, ↓reduceIte, String.reduceEq, String.reduceNe, reduceCtorEq, Int.reduceEq, Nat.reduceAdd, Nat.reduceSub, Nat.reduceMul, Nat.reduceLT, Nat.reduceLeDiff, Nat.reduceEqDiff, Nat.reduceBEq, Int.reduceToNat, Int.reduceLT, Int.reduceLE, Int.reduceGT, Int.reduceGE, Int.reduceAdd, Int.reduceSub, Int.reduceMul, Int.reduceNeg, Int.reduceBEq, Int.reduceBNe, Int.reducePow, Int.reduceDiv, Int.reduceMod, Int.reduceTDiv, Int.reduceTMod, Int.reduceNatCast]
        repeat (with_reducible refine And.intro (by first | assumption | omega | (simp; done) | (simp; omega)) ?_)
        refine toEnd hC ?_
        refine endX_seq ?_
        rcases iteB_some h with ⟨c4, h⟩ | ⟨c4, h⟩
        · refine runX_condT rfl c4 ?_
          refine runX_skip ?_
          refine endX_seq ?_
          refine runX_seq ?_
          refine runX_block ?_
          refine runX_seq ?_
          refine runX_regionC fun C hC => ?_
          obtain ⟨g5, h⟩ := grd_some h
          obtain ⟨g6, h⟩ := grd_some h
          try simp -implicitDefEqProofs (maxSteps := 4000000) (disch := first | omega | decide | (simp only [go_sem]; omega)) only [go_sem, ↓reduceIte, String.reduceEq, String.reduceNe, reduceCtorEq, Int.reduceEq, Nat.reduceAdd, Nat.reduceSub, Nat.reduceMul, Nat.reduceLT, Nat.reduceLeDiff, Nat.reduceEqDiff, Nat.reduceBEq, Int.reduceToNat, Int.reduceLT, Int.reduceLE, Int.reduceGT, Int.reduceGE, Int.reduceAdd, Int.reduceSub, Int.reduceMul, Int.reduceNeg, Int.reduceBEq, Int.reduceBNe, Int.reducePow, Int.reduceDiv, Int.reduceMod, Int.reduceTDiv, Int.reduceTMod, Int.reduceNatCast]
          repeat (with_reducible refine And.intro (by first | assumption | omega | (simp; done) | (simp; omega)) ?_)
          refine toEnd hC ?_
          refine endX_seq ?_
          refine runX_regionC fun C hC => ?_
          try simp -implicitDefEqProofs (maxSteps := 4000000) (disch := first | omega | decide | (simp only [go_sem]; omega)) only [go_sem, ↓reduceIte, String.reduceEq, String.reduceNe, reduceCtorEq, Int.reduceEq, Nat.reduceAdd, Nat.reduceSub, Nat.reduceMul, Nat.reduceLT, Nat.reduceLeDiff, Nat.reduceEqDiff, Nat.reduceBEq, Int.reduceToNat, Int.reduceLT, Int.reduceLE, Int.reduceGT, Int.reduceGE, Int.reduceAdd, Int.reduceSub, Int.reduceMul, Int.reduceNeg, Int.reduceBEq, Int.reduceBNe, Int.reducePow, Int.reduceDiv, Int.reduceMod, Int.reduceTDiv, Int.reduceTMod, Int.reduceNatCast]
          repeat (with_reducible refine And.intro (by first | assumption | omega | (simp; done) | (simp; omega)) ?_)
          refine toEnd hC ?_
          refine endX_blk ?_
          refine endX_seq ?_
          refine runX_regionC fun C hC => ?_
          try simp -implicitDefEqProofs (maxSteps := 4000000) (disch := first | omega | decide | (simp only [go_sem]; omega)) only [go_sem, ↓reduceIte, String.reduceEq, String.reduceNe, reduceCtorEq, Int.reduceEq, Nat.reduceAdd, Nat.reduceSub, Nat.reduceMul, Nat.reduceLT, Nat.reduceLeDiff, Nat.reduceEqDiff, Nat.reduceBEq, Int.reduceToNat, Int.reduceLT, Int.reduceLE, Int.reduceGT, Int.reduceGE, Int.reduceAdd, Int.reduceSub, Int.reduceMul, Int.reduceNeg, Int.reduceBEq, Int.reduceBNe, Int.reducePow, Int.reduceDiv, Int.reduceMod, Int.reduceTDiv, Int.reduceTMod, Int.reduceNatCast]
          repeat (with_reducible refine And.intro (by first | assumption | omega | (simp; done) | (simp; omega)) ?_)
          refine toEnd hC ?_
          refine endX_q (roundQ_normal ⟨m1, by omega, F53_S1 a1 (IntKind.wrap .i64 (x1.tdiv (10 : Int))) (((([48, 49, 50, 51, 52, 53, 54, 55, 56, 57] : List UInt8).take (IntKind.wrap .i64 ((x1.tmod (10 : Int)) + (1 : Int))).toNat).drop (x1.tmod (10 : Int)).toNat) ++ x2) (IntKind.wrap .i64 (x3 + (1 : Int))), ?_, (IntKind.wrap .i64 (x1.tdiv (10 : Int))), (((([48, 49, 50, 51, 52, 53, 54, 55, 56, 57] : List UInt8).take (IntKind.wrap .i64 ((x1.tmod (10 : Int)) + (1 : Int))).toNat).drop (x1.tmod (10 : Int)).toNat) ++ x2), (IntKind.wrap .i64 (x3 + (1 : Int))), rfl, by omega, h⟩)
          simp only [F53_S1]
          (try simp -implicitDefEqProofs (maxSteps := 4000000) (disch := first | omega | decide | (simp only [go_sem]; omega)) only [go_sem, ↓reduceIte, String.reduceEq, String.reduceNe, reduceCtorEq, Int.reduceEq, Nat.reduceAdd, Nat.reduceSub, Nat.reduceMul, Nat.reduceLT, Nat.reduceLeDiff, Nat.reduceEqDiff, Nat.reduceBEq, Int.reduceToNat, Int.reduceLT, Int.reduceLE, Int.reduceGT, Int.reduceGE, Int.reduceAdd, Int.reduceSub, Int.reduceMul, Int.reduceNeg, Int.reduceBEq, Int.reduceBNe, Int.reducePow, Int.reduceDiv, Int.reduceMod, Int.reduceTDiv, Int.reduceTMod, Int.reduceNatCast])
          first | exact leS_refl _ | (refine leS_le ?_ ?_ <;> first | exact leL_refl _ | exact leOs_refl _ | (repeat (first | exact leL_refl _ | refine leL_cons (by first | exact leT_refl _ | exact leT_virt | exact leT_junk _ | exact leT_sl | exact leT_sln | exact leT_nil) ?_)))
        · refine runX_condF rfl c4 ?_
          refine runX_exit ?_
          refine endX_seqE ?_
          refine endX_q (roundQ_exit ?_)
          refine endX_blkE ?_
          refine endX_seq ?_
          refine runX_seq ?_
          refine runX_regionC fun C hC => ?_
          try simp -implicitDefEqProofs (maxSteps := 4000000) (disch := first | omega | decide | (simp only [go_sem]; omega)) only [go_sem, ↓reduceIte, String.reduceEq, String.reduceNe, reduceCtorEq, Int.reduceEq, Nat.reduceAdd, Nat.reduceSub, Nat.reduceMul, Nat.reduceLT, Nat.reduceLeDiff, Nat.reduceEqDiff, Nat.reduceBEq, Int.reduceToNat, Int.reduceLT, Int.reduceLE, Int.reduceGT, Int.reduceGE, Int.reduceAdd, Int.reduceSub, Int.reduceMul, Int.reduceNeg, Int.reduceBEq, Int.reduceBNe, Int.reducePow, Int.reduceDiv, Int.reduceMod, Int.reduceTDiv, Int.reduceTMod, Int.reduceNatCast]
          repeat (with_reducible refine And.intro (by first | assumption | omega | (simp; done) | (simp; omega)) ?_)
          refine toEnd hC ?_
          refine endX_seq ?_
          refine runX_ret ?_
          refine endX_q ?_
          obtain rfl := Option.some.inj h
          show RetW _ _ _ _ _
          simp only [RetW]
          (try simp -implicitDefEqProofs (maxSteps := 4000000) (disch := first | omega | decide | (simp only [go_sem]; omega)) only [go_sem, ↓reduceIte, String.reduceEq, String.reduceNe, reduceCtorEq, Int.reduceEq, Nat.reduceAdd, Nat.reduceSub, Nat.reduceMul, Nat.reduceLT, Nat.reduceLeDiff, Nat.reduceEqDiff, Nat.reduceBEq, Int.reduceToNat, Int.reduceLT, Int.reduceLE, Int.reduceGT, Int.reduceGE, Int.reduceAdd, Int.reduceSub, Int.reduceMul, Int.reduceNeg, Int.reduceBEq, Int.reduceBNe, Int.reducePow, Int.reduceDiv, Int.reduceMod, Int.reduceTDiv, Int.reduceTMod, Int.reduceNatCast])
          first | exact leT_refl _ | (refine ⟨rfl, ?_⟩; first | exact leT_refl _ | exact leT_sl | exact leT_sln | exact leT_nil | (refine leT_tup (by repeat (first | exact leL_refl _ | refine leL_cons (by first | exact leT_refl _ | exact leT_virt | exact leT_junk _ | exact leT_sl | exact leT_sln | exact leT_nil) ?_))) | (refine leT_agg (by repeat (first | exact leL_refl _ | refine leL_cons (by first | exact leT_refl _ | exact leT_virt | exact leT_junk _ | exact leT_sl | exact leT_sln | exact leT_nil) ?_)))) | (first | exact leT_refl _ | exact leT_sl | exact leT_sln | exact leT_nil | (refine leT_tup (by repeat (first | exact leL_refl _ | refine leL_cons (by first | exact leT_refl _ | exact leT_virt | exact leT_junk _ | exact leT_sl | exact leT_sln | exact leT_nil) ?_))) | (refine leT_agg (by repeat (first | exact leL_refl _ | refine leL_cons (by first | exact leT_refl _ | exact leT_virt | exact leT_junk _ | exact leT_sl | exact leT_sln | exact leT_nil) ?_))))
end Go.Proofs.YtdfghdppbfabfaaX

set_option linter.unusedVariables false
set_option linter.unusedSimpArgs false
namespace Go.Proofs.YtdfghdppbfabfaaX
open Go Go.RowKit Go.Proofs
set_option maxRecDepth 100000
/-! ### shadowboxref15.Web -/
def F21 (n : Nat) (a0 : (Int) × (Int) × (Int) × (Int) × (Int) × (Int)) : Option (List UInt8) := (F52 n (a0.1, a0.2.1, a0.2.2.1, a0.2.2.2.1, a0.2.2.2.2.1, a0.2.2.2.2.2)).bind fun v1 => iteB (!v1) (some []) ((F20 n (a0.1, a0.2.1, a0.2.2.1, a0.2.2.2.1, a0.2.2.2.2.1, a0.2.2.2.2.2)).bind fun v3 => grd (0 ≤ (IntKind.wrap .i64 ((3 : Int) * v3)) ∧ (IntKind.wrap .i64 ((3 : Int) * v3)) ≤ (IntKind.wrap .i64 ((IntKind.wrap .i64 ((3 : Int) * v3)) + (3 : Int))) ∧ (IntKind.wrap .i64 ((IntKind.wrap .i64 ((3 : Int) * v3)) + (3 : Int))) ≤ (21 : Int)) (grd (0 ≤ (IntKind.wrap .i64 ((IntKind.wrap .i64 ((3 : Int) * a0.2.1)) - (3 : Int))) ∧ (IntKind.wrap .i64 ((IntKind.wrap .i64 ((3 : Int) * a0.2.1)) - (3 : Int))) ≤ (IntKind.wrap .i64 ((3 : Int) * a0.2.1)) ∧ (IntKind.wrap .i64 ((3 : Int) * a0.2.1)) ≤ (36 : Int)) (grd (((([83, 117, 110, 77, 111, 110, 84, 117, 101, 87, 101, 100, 84, 104, 117, 70, 114, 105, 83, 97, 116] : List UInt8).take (IntKind.wrap .i64 ((IntKind.wrap .i64 ((3 : Int) * v3)) + (3 : Int))).toNat).drop (IntKind.wrap .i64 ((3 : Int) * v3)).toNat).length + 2 ≤ 9223372036854775807) ((F53 n a0.2.2.1 (2 : Int)).bind fun v7 => grd ((((([83, 117, 110, 77, 111, 110, 84, 117, 101, 87, 101, 100, 84, 104, 117, 70, 114, 105, 83, 97, 116] : List UInt8).take (IntKind.wrap .i64 ((IntKind.wrap .i64 ((3 : Int) * v3)) + (3 : Int))).toNat).drop (IntKind.wrap .i64 ((3 : Int) * v3)).toNat).length + 2) + v7.length ≤ 9223372036854775807) (grd ((((([83, 117, 110, 77, 111, 110, 84, 117, 101, 87, 101, 100, 84, 104, 117, 70, 114, 105, 83, 97, 116] : List UInt8).take (IntKind.wrap .i64 ((IntKind.wrap .i64 ((3 : Int) * v3)) + (3 : Int))).toNat).drop (IntKind.wrap .i64 ((3 : Int) * v3)).toNat).length + v7.length + 2) + 1 ≤ 9223372036854775807) (grd ((((([83, 117, 110, 77, 111, 110, 84, 117, 101, 87, 101, 100, 84, 104, 117, 70, 114, 105, 83, 97, 116] : List UInt8).take (IntKind.wrap .i64 ((IntKind.wrap .i64 ((3 : Int) * v3)) + (3 : Int))).toNat).drop (IntKind.wrap .i64 ((3 : Int) * v3)).toNat).length + v7.length + 3) + (((74 :: 97 :: 110 :: 70 :: 101 :: 98 :: 77 :: 97 :: 114 :: 65 :: 112 :: 114 :: 77 :: 97 :: 121 :: 74 :: 117 :: 110 :: 74 :: 117 :: 108 :: 65 :: 117 :: 103 :: 83 :: 101 :: 112 :: 79 :: 99 :: 116 :: 78 :: 111 :: 118 :: 68 :: 101 :: 99 :: ([] : List UInt8)).take (IntKind.wrap .i64 ((3 : Int) * a0.2.1)).toNat).drop (IntKind.wrap .i64 ((IntKind.wrap .i64 ((3 : Int) * a0.2.1)) - (3 : Int))).toNat).length ≤ 9223372036854775807) (grd ((((([83, 117, 110, 77, 111, 110, 84, 117, 101, 87, 101, 100, 84, 104, 117, 70, 114, 105, 83, 97, 116] : List UInt8).take (IntKind.wrap .i64 ((IntKind.wrap .i64 ((3 : Int) * v3)) + (3 : Int))).toNat).drop (IntKind.wrap .i64 ((3 : Int) * v3)).toNat).length + v7.length + (((74 :: 97 :: 110 :: 70 :: 101 :: 98 :: 77 :: 97 :: 114 :: 65 :: 112 :: 114 :: 77 :: 97 :: 121 :: 74 :: 117 :: 110 :: 74 :: 117 :: 108 :: 65 :: 117 :: 103 :: 83 :: 101 :: 112 :: 79 :: 99 :: 116 :: 78 :: 111 :: 118 :: 68 :: 101 :: 99 :: ([] : List UInt8)).take (IntKind.wrap .i64 ((3 : Int) * a0.2.1)).toNat).drop (IntKind.wrap .i64 ((IntKind.wrap .i64 ((3 : Int) * a0.2.1)) - (3 : Int))).toNat).length + 3) + 1 ≤ 9223372036854775807) ((F53 n a0.1 (4 : Int)).bind fun v12 => grd ((((([83, 117, 110, 77, 111, 110, 84, 117, 101, 87, 101, 100, 84, 104, 117, 70, 114, 105, 83, 97, 116] : List UInt8).take (IntKind.wrap .i64 ((IntKind.wrap .i64 ((3 : Int) * v3)) + (3 : Int))).toNat).drop (IntKind.wrap .i64 ((3 : Int) * v3)).toNat).length + v7.length + (((74 :: 97 :: 110 :: 70 :: 101 :: 98 :: 77 :: 97 :: 114 :: 65 :: 112 :: 114 :: 77 :: 97 :: 121 :: 74 :: 117 :: 110 :: 74 :: 117 :: 108 :: 65 :: 117 :: 103 :: 83 :: 101 :: 112 :: 79 :: 99 :: 116 :: 78 :: 111 :: 118 :: 68 :: 101 :: 99 :: ([] : List UInt8)).take (IntKind.wrap .i64 ((3 : Int) * a0.2.1)).toNat).drop (IntKind.wrap .i64 ((IntKind.wrap .i64 ((3 : Int) * a0.2.1)) - (3 : Int))).toNat).length + 4) + v12.length ≤ 9223372036854775807) (grd ((((([83, 117, 110, 77, 111, 110, 84, 117, 101, 87, 101, 100, 84, 104, 117, 70, 114, 105, 83, 97, 116] : List UInt8).take (IntKind.wrap .i64 ((IntKind.wrap .i64 ((3 : Int) * v3)) + (3 : Int))).toNat).drop (IntKind.wrap .i64 ((3 : Int) * v3)).toNat).length + v7.length + (((74 :: 97 :: 110 :: 70 :: 101 :: 98 :: 77 :: 97 :: 114 :: 65 :: 112 :: 114 :: 77 :: 97 :: 121 :: 74 :: 117 :: 110 :: 74 :: 117 :: 108 :: 65 :: 117 :: 103 :: 83 :: 101 :: 112 :: 79 :: 99 :: 116 :: 78 :: 111 :: 118 :: 68 :: 101 :: 99 :: ([] : List UInt8)).take (IntKind.wrap .i64 ((3 : Int) * a0.2.1)).toNat).drop (IntKind.wrap .i64 ((IntKind.wrap .i64 ((3 : Int) * a0.2.1)) - (3 : Int))).toNat).length + v12.length + 4) + 1 ≤ 9223372036854775807) ((F53 n a0.2.2.2.1 (2 : Int)).bind fun v15 => grd ((((([83, 117, 110, 77, 111, 110, 84, 117, 101, 87, 101, 100, 84, 104, 117, 70, 114, 105, 83, 97, 116] : List UInt8).take (IntKind.wrap .i64 ((IntKind.wrap .i64 ((3 : Int) * v3)) + (3 : Int))).toNat).drop (IntKind.wrap .i64 ((3 : Int) * v3)).toNat).length + v7.length + (((74 :: 97 :: 110 :: 70 :: 101 :: 98 :: 77 :: 97 :: 114 :: 65 :: 112 :: 114 :: 77 :: 97 :: 121 :: 74 :: 117 :: 110 :: 74 :: 117 :: 108 :: 65 :: 117 :: 103 :: 83 :: 101 :: 112 :: 79 :: 99 :: 116 :: 78 :: 111 :: 118 :: 68 :: 101 :: 99 :: ([] : List UInt8)).take (IntKind.wrap .i64 ((3 : Int) * a0.2.1)).toNat).drop (IntKind.wrap .i64 ((IntKind.wrap .i64 ((3 : Int) * a0.2.1)) - (3 : Int))).toNat).length + v12.length + 5) + v15.length ≤ 9223372036854775807) (grd ((((([83, 117, 110, 77, 111, 110, 84, 117, 101, 87, 101, 100, 84, 104, 117, 70, 114, 105, 83, 97, 116] : List UInt8).take (IntKind.wrap .i64 ((IntKind.wrap .i64 ((3 : Int) * v3)) + (3 : Int))).toNat).drop (IntKind.wrap .i64 ((3 : Int) * v3)).toNat).length + v7.length + (((74 :: 97 :: 110 :: 70 :: 101 :: 98 :: 77 :: 97 :: 114 :: 65 :: 112 :: 114 :: 77 :: 97 :: 121 :: 74 :: 117 :: 110 :: 74 :: 117 :: 108 :: 65 :: 117 :: 103 :: 83 :: 101 :: 112 :: 79 :: 99 :: 116 :: 78 :: 111 :: 118 :: 68 :: 101 :: 99 :: ([] : List UInt8)).take (IntKind.wrap .i64 ((3 : Int) * a0.2.1)).toNat).drop (IntKind.wrap .i64 ((IntKind.wrap .i64 ((3 : Int) * a0.2.1)) - (3 : Int))).toNat).length + v12.length + v15.length + 5) + 1 ≤ 9223372036854775807) ((F53 n a0.2.2.2.2.1 (2 : Int)).bind fun v18 => grd ((((([83, 117, 110, 77, 111, 110, 84, 117, 101, 87, 101, 100, 84, 104, 117, 70, 114, 105, 83, 97, 116] : List UInt8).take (IntKind.wrap .i64 ((IntKind.wrap .i64 ((3 : Int) * v3)) + (3 : Int))).toNat).drop (IntKind.wrap .i64 ((3 : Int) * v3)).toNat).length + v7.length + (((74 :: 97 :: 110 :: 70 :: 101 :: 98 :: 77 :: 97 :: 114 :: 65 :: 112 :: 114 :: 77 :: 97 :: 121 :: 74 :: 117 :: 110 :: 74 :: 117 :: 108 :: 65 :: 117 :: 103 :: 83 :: 101 :: 112 :: 79 :: 99 :: 116 :: 78 :: 111 :: 118 :: 68 :: 101 :: 99 :: ([] : List UInt8)).take (IntKind.wrap .i64 ((3 : Int) * a0.2.1)).toNat).drop (IntKind.wrap .i64 ((IntKind.wrap .i64 ((3 : Int) * a0.2.1)) - (3 : Int))).toNat).length + v12.length + v15.length + 6) + v18.length ≤ 9223372036854775807) (grd ((((([83, 117, 110, 77, 111, 110, 84, 117, 101, 87, 101, 100, 84, 104, 117, 70, 114, 105, 83, 97, 116] : List UInt8).take (IntKind.wrap .i64 ((IntKind.wrap .i64 ((3 : Int) * v3)) + (3 : Int))).toNat).drop (IntKind.wrap .i64 ((3 : Int) * v3)).toNat).length + v7.length + (((74 :: 97 :: 110 :: 70 :: 101 :: 98 :: 77 :: 97 :: 114 :: 65 :: 112 :: 114 :: 77 :: 97 :: 121 :: 74 :: 117 :: 110 :: 74 :: 117 :: 108 :: 65 :: 117 :: 103 :: 83 :: 101 :: 112 :: 79 :: 99 :: 116 :: 78 :: 111 :: 118 :: 68 :: 101 :: 99 :: ([] : List UInt8)).take (IntKind.wrap .i64 ((3 : Int) * a0.2.1)).toNat).drop (IntKind.wrap .i64 ((IntKind.wrap .i64 ((3 : Int) * a0.2.1)) - (3 : Int))).toNat).length + v12.length + v15.length + v18.length + 6) + 1 ≤ 9223372036854775807) ((F53 n a0.2.2.2.2.2 (2 : Int)).bind fun v21 => grd ((((([83, 117, 110, 77, 111, 110, 84, 117, 101, 87, 101, 100, 84, 104, 117, 70, 114, 105, 83, 97, 116] : List UInt8).take (IntKind.wrap .i64 ((IntKind.wrap .i64 ((3 : Int) * v3)) + (3 : Int))).toNat).drop (IntKind.wrap .i64 ((3 : Int) * v3)).toNat).length + v7.length + (((74 :: 97 :: 110 :: 70 :: 101 :: 98 :: 77 :: 97 :: 114 :: 65 :: 112 :: 114 :: 77 :: 97 :: 121 :: 74 :: 117 :: 110 :: 74 :: 117 :: 108 :: 65 :: 117 :: 103 :: 83 :: 101 :: 112 :: 79 :: 99 :: 116 :: 78 :: 111 :: 118 :: 68 :: 101 :: 99 :: ([] : List UInt8)).take (IntKind.wrap .i64 ((3 : Int) * a0.2.1)).toNat).drop (IntKind.wrap .i64 ((IntKind.wrap .i64 ((3 : Int) * a0.2.1)) - (3 : Int))).toNat).length + v12.length + v15.length + v18.length + 7) + v21.length ≤ 9223372036854775807) (grd ((((([83, 117, 110, 77, 111, 110, 84, 117, 101, 87, 101, 100, 84, 104, 117, 70, 114, 105, 83, 97, 116] : List UInt8).take (IntKind.wrap .i64 ((IntKind.wrap .i64 ((3 : Int) * v3)) + (3 : Int))).toNat).drop (IntKind.wrap .i64 ((3 : Int) * v3)).toNat).length + v7.length + (((74 :: 97 :: 110 :: 70 :: 101 :: 98 :: 77 :: 97 :: 114 :: 65 :: 112 :: 114 :: 77 :: 97 :: 121 :: 74 :: 117 :: 110 :: 74 :: 117 :: 108 :: 65 :: 117 :: 103 :: 83 :: 101 :: 112 :: 79 :: 99 :: 116 :: 78 :: 111 :: 118 :: 68 :: 101 :: 99 :: ([] : List UInt8)).take (IntKind.wrap .i64 ((3 : Int) * a0.2.1)).toNat).drop (IntKind.wrap .i64 ((IntKind.wrap .i64 ((3 : Int) * a0.2.1)) - (3 : Int))).toNat).length + v12.length + v15.length + v18.length + v21.length + 7) + 4 ≤ 9223372036854775807) (some (((((((((((((((([83, 117, 110, 77, 111, 110, 84, 117, 101, 87, 101, 100, 84, 104, 117, 70, 114, 105, 83, 97, 116] : List UInt8).take (IntKind.wrap .i64 ((IntKind.wrap .i64 ((3 : Int) * v3)) + (3 : Int))).toNat).drop (IntKind.wrap .i64 ((3 : Int) * v3)).toNat) ++ ([44, 32] : List UInt8)) ++ v7) ++ ([32] : List UInt8)) ++ (((74 :: 97 :: 110 :: 70 :: 101 :: 98 :: 77 :: 97 :: 114 :: 65 :: 112 :: 114 :: 77 :: 97 :: 121 :: 74 :: 117 :: 110 :: 74 :: 117 :: 108 :: 65 :: 117 :: 103 :: 83 :: 101 :: 112 :: 79 :: 99 :: 116 :: 78 :: 111 :: 118 :: 68 :: 101 :: 99 :: ([] : List UInt8)).take (IntKind.wrap .i64 ((3 : Int) * a0.2.1)).toNat).drop (IntKind.wrap .i64 ((IntKind.wrap .i64 ((3 : Int) * a0.2.1)) - (3 : Int))).toNat)) ++ ([32] : List UInt8)) ++ v12) ++ ([32] : List UInt8)) ++ v15) ++ ([58] : List UInt8)) ++ v18) ++ ([58] : List UInt8)) ++ v21) ++ ([32, 71, 77, 84] : List UInt8))))))))))))))))))
set_option maxHeartbeats 4000000 in
theorem F21_ok : ∀ (n : Nat) (a0 : (Int) × (Int) × (Int) × (Int) × (Int) × (Int)) (r : List UInt8), F21 n a0 = some r → FnC Try.prog 21 [.agg [.imm (.int .i64 a0.1), .imm (.int .i64 a0.2.1), .imm (.int .i64 a0.2.2.1), .imm (.int .i64 a0.2.2.2.1), .imm (.int .i64 a0.2.2.2.2.1), .imm (.int .i64 a0.2.2.2.2.2)]] (.imm (.string (bs r)))
  | n, a0, r, h => by
    unfold F21 at h
    refine FnC.goX mixed Try.func21 (by kernel_rfl) rfl ?_
    simp only [Try.ntmps21, List.length_cons, List.length_nil, List.replicate, List.cons_append, List.nil_append, Nat.reduceAdd, Nat.reduceSub]
    refine runX_seq ?_
    refine runX_regionC fun C hC => ?_
    try simp -implicitDefEqProofs (maxSteps := 4000000) (disch := first | omega | decide | (simp only [go_sem]; omega)) only [go_sem, ↓reduceIte, String.reduceEq, String.reduceNe, reduceCtorEq, Int.reduceEq, Nat.reduceAdd, Nat.reduceSub, Nat.reduceMul, Nat.reduceLT, Nat.reduceLeDiff, Nat.reduceEqDiff, Nat.reduceBEq, Int.reduceToNat, Int.reduceLT, Int.reduceLE, Int.reduceGT, Int.reduceGE, Int.reduceAdd, Int.reduceSub, Int.reduceMul, Int.reduceNeg, Int.reduceBEq, Int.reduceBNe, Int.reducePow, Int.reduceDiv, Int.reduceMod, Int.reduceTDiv, Int.reduceTMod, Int.reduceNatCast]
    repeat (with_reducible refine And.intro (by first | assumption | omega | (simp; done) | (simp; omega)) ?_)
    refine toEnd hC ?_
    refine endX_seq ?_
    refine runX_seq ?_
    refine runX_seq ?_
    refine runX_regionC fun C hC => ?_
    obtain ⟨v1, h1, h⟩ := bnd_some h
    try simp -implicitDefEqProofs (maxSteps := 4000000) (disch := first | omega | decide | (simp only [go_sem]; omega)) only [go_sem, ↓reduceIte, String.reduceEq, String.reduceNe, reduceCtorEq, Int.reduceEq, Nat.reduceAdd, Nat.reduceSub, Nat.reduceMul, Nat.reduceLT, Nat.reduceLeDiff, Nat.reduceEqDiff, Nat.reduceBEq, Int.reduceToNat, Int.reduceLT, Int.reduceLE, Int.reduceGT, Int.reduceGE, Int.reduceAdd, Int.reduceSub, Int.reduceMul, Int.reduceNeg, Int.reduceBEq, Int.reduceBNe, Int.reducePow, Int.reduceDiv, Int.reduceMod, Int.reduceTDiv, Int.reduceTMod, Int.reduceNatCast]
    repeat (with_reducible refine And.intro (by first | assumption | omega | (simp; done) | (simp; omega)) ?_)
    refine callG_X (F52_ok n (a0.1, a0.2.1, a0.2.2.1, a0.2.2.2.1, a0.2.2.2.2.1, a0.2.2.2.2.2) _ h1) (by repeat (first | exact leL_refl _ | refine leL_cons (by first | exact leT_refl _ | exact leT_virt | exact leT_junk _ | exact leT_sl | exact leT_sln | exact leT_nil) ?_)) ?_
    try simp -implicitDefEqProofs (maxSteps := 4000000) (disch := first | omega | decide | (simp only [go_sem]; omega)) only [go_sem, ↓reduceIte, String.reduceEq, String.reduceNe, reduceCtorEq, Int.reduceEq, Nat.reduceAdd, Nat.reduceSub, Nat.reduceMul, Nat.reduceLT, Nat.reduceLeDiff, Nat.reduceEqDiff, Nat.reduceBEq, Int.reduceToNat, Int.reduceLT, Int.reduceLE, Int.reduceGT, Int.reduceGE, Int.reduceAdd, Int.reduceSub, Int.reduceMul, Int.reduceNeg, Int.reduceBEq, Int.reduceBNe, Int.reducePow, Int.reduceDiv, Int.reduceMod, Int.reduceTDiv, Int.reduceTMod, Int.reduceNatCast]
    repeat (with_reducible refine And.intro (by first | assumption | omega | (simp; done) | (simp; omega)) ?_)
    refine toEnd hC ?_
    refine endX_seq ?_
    rcases iteB_some h with ⟨c2, h⟩ | ⟨c2, h⟩
    · refine runX_condT rfl c2 ?_
      refine runX_seq ?_
      refine runX_regionC fun C hC => ?_
      try simp -implicitDefEqProofs (maxSteps := 4000000) (disch := first | omega | decide | (simp only [go_sem]; omega)) only [go_sem, ↓reduceIte, String.reduceEq, String.reduceNe, reduceCtorEq, Int.reduceEq, Nat.reduceAdd, Nat.reduceSub, Nat.reduceMul, Nat.reduceLT, Nat.reduceLeDiff, Nat.reduceEqDiff, Nat.reduceBEq, Int.reduceToNat, Int.reduceLT, Int.reduceLE, Int.reduceGT, Int.reduceGE, Int.reduceAdd, Int.reduceSub, Int.reduceMul, Int.reduceNeg, Int.reduceBEq, Int.reduceBNe, Int.reducePow, Int.reduceDiv, Int.reduceMod, Int.reduceTDiv, Int.reduceTMod, Int.reduceNatCast]
      repeat (with_reducible refine And.intro (by first | assumption | omega | (simp; done) | (simp; omega)) ?_)
      refine toEnd hC ?_
      refine endX_seq ?_
      refine runX_ret ?_
      refine endX_seqR ?_
      refine endX_q ?_
      obtain rfl := Option.some.inj h
      show RetW _ _ _ _ _
      simp only [RetW]
      (try simp -implicitDefEqProofs (maxSteps := 4000000) (disch := first | omega | decide | (simp only [go_sem]; omega)) only [go_sem, ↓reduceIte, String.reduceEq, String.reduceNe, reduceCtorEq, Int.reduceEq, Nat.reduceAdd, Nat.reduceSub, Nat.reduceMul, Nat.reduceLT, Nat.reduceLeDiff, Nat.reduceEqDiff, Nat.reduceBEq, Int.reduceToNat, Int.reduceLT, Int.reduceLE, Int.reduceGT, Int.reduceGE, Int.reduceAdd, Int.reduceSub, Int.reduceMul, Int.reduceNeg, Int.reduceBEq, Int.reduceBNe, Int.reducePow, Int.reduceDiv, Int.reduceMod, Int.reduceTDiv, Int.reduceTMod, Int.reduceNatCast])
      first | exact leT_refl _ | (refine ⟨rfl, ?_⟩; first | exact leT_refl _ | exact leT_sl | exact leT_sln | exact leT_nil | (refine leT_tup (by repeat (first | exact leL_refl _ | refine leL_cons (by first | exact leT_refl _ | exact leT_virt | exact leT_junk _ | exact leT_sl | exact leT_sln | exact leT_nil) ?_))) | (refine leT_agg (by repeat (first | exact leL_refl _ | refine leL_cons (by first | exact leT_refl _ | exact leT_virt | exact leT_junk _ | exact leT_sl | exact leT_sln | exact leT_nil) ?_)))) | (first | exact leT_refl _ | exact leT_sl | exact leT_sln | exact leT_nil | (refine leT_tup (by repeat (first | exact leL_refl _ | refine leL_cons (by first | exact leT_refl _ | exact leT_virt | exact leT_junk _ | exact leT_sl | exact leT_sln | exact leT_nil) ?_))) | (refine leT_agg (by repeat (first | exact leL_refl _ | refine leL_cons (by first | exact leT_refl _ | exact leT_virt | exact leT_junk _ | exact leT_sl | exact leT_sln | exact leT_nil) ?_))))
    · refine runX_condF rfl c2 ?_
      refine runX_skip ?_
      refine endX_seq ?_
      refine runX_seq ?_
      refine runX_regionC fun C hC => ?_
      obtain ⟨v3, h3, h⟩ := bnd_some h
      try simp -implicitDefEqProofs (maxSteps := 4000000) (disch := first | omega | decide | (simp only [go_sem]; omega)) only [go_sem, ↓reduceIte, String.reduceEq, String.reduceNe, reduceCtorEq, Int.reduceEq, Nat.reduceAdd, Nat.reduceSub, Nat.reduceMul, Nat.reduceLT, Nat.reduceLeDiff, Nat.reduceEqDiff, Nat.reduceBEq, Int.reduceToNat, Int.reduceLT, Int.reduceLE, Int.reduceGT, Int.reduceGE, Int.reduceAdd, Int.reduceSub, Int.reduceMul, Int.reduceNeg, Int.reduceBEq, Int.reduceBNe, Int.reducePow, Int.reduceDiv, Int.reduceMod, Int.reduceTDiv, Int.reduceTMod, Int.reduceNatCast]
      repeat (with_reducible refine And.intro (by first | assumption | omega | (simp; done) | (simp; omega)) ?_)
      refine callG_X (F20_ok n (a0.1, a0.2.1, a0.2.2.1, a0.2.2.2.1, a0.2.2.2.2.1, a0.2.2.2.2.2) _ h3) (by repeat (first | exact leL_refl _ | refine leL_cons (by first | exact leT_refl _ | exact leT_virt | exact leT_junk _ | exact leT_sl | exact leT_sln | exact leT_nil) ?_)) ?_
      try simp -implicitDefEqProofs (maxSteps := 4000000) (disch := first | omega | decide | (simp only [go_sem]; omega)) only [go_sem, ↓reduceIte, String.reduceEq, String.reduceNe, reduceCtorEq, Int.reduceEq, Nat.reduceAdd, Nat.reduceSub, Nat.reduceMul, Nat.reduceLT, Nat.reduceLeDiff, Nat.reduceEqDiff, Nat.reduceBEq, Int.reduceToNat, Int.reduceLT, Int.reduceLE, Int.reduceGT, Int.reduceGE, Int.reduceAdd, Int.reduceSub, Int.reduceMul, Int.reduceNeg, Int.reduceBEq, Int.reduceBNe, Int.reducePow, Int.reduceDiv, Int.reduceMod, Int.reduceTDiv, Int.reduceTMod, Int.reduceNatCast]
      repeat (with_reducible refine And.intro (by first | assumption | omega | (simp; done) | (simp; omega)) ?_)
      refine toEnd hC ?_
      refine endX_seq ?_
      refine runX_seq ?_
      refine runX_regionC fun C hC => ?_
      obtain ⟨g4, h⟩ := grd_some h
      try simp -implicitDefEqProofs (maxSteps := 4000000) (disch := first | omega | decide | (simp only [go_sem]; omega)) only [go_sem, ↓reduceIte, String.reduceEq, String.reduceNe, reduceCtorEq, Int.reduceEq, Nat.reduceAdd, Nat.reduceSub, Nat.reduceMul, Nat.reduceLT, Nat.reduceLeDiff, Nat.reduceEqDiff, Nat.reduceBEq, Int.reduceToNat, Int.reduceLT, Int.reduceLE, Int.reduceGT, Int.reduceGE, Int.reduceAdd, Int.reduceSub, Int.reduceMul, Int.reduceNeg, Int.reduceBEq, Int.reduceBNe, Int.reducePow, Int.reduceDiv, Int.reduceMod, Int.reduceTDiv, Int.reduceTMod, Int.reduceNatCast]
      repeat (with_reducible refine And.intro (by first | assumption | omega | (simp; done) | (simp; omega)) ?_)
      refine toEnd hC ?_
      refine endX_seq ?_
      refine runX_seq ?_
      refine runX_regionC fun C hC => ?_
      obtain ⟨g5, h⟩ := grd_some h
      try simp -implicitDefEqProofs (maxSteps := 4000000) (disch := first | omega | decide | (simp only [go_sem]; omega)) only [go_sem, ↓reduceIte, String.reduceEq, String.reduceNe, reduceCtorEq, Int.reduceEq, Nat.reduceAdd, Nat.reduceSub, Nat.reduceMul, Nat.reduceLT, Nat.reduceLeDiff, Nat.reduceEqDiff, Nat.reduceBEq, Int.reduceToNat, Int.reduceLT, Int.reduceLE, Int.reduceGT, Int.reduceGE, Int.reduceAdd, Int.reduceSub, Int.reduceMul, Int.reduceNeg, Int.reduceBEq, Int.reduceBNe, Int.reducePow, Int.reduceDiv, Int.reduceMod, Int.reduceTDiv, Int.reduceTMod, Int.reduceNatCast]
      repeat (with_reducible refine And.intro (by first | assumption | omega | (simp; done) | (simp; omega)) ?_)
      refine toEnd hC ?_
      refine endX_seq ?_
      refine runX_seq ?_
      refine runX_drawC mixed (by kernel_rfl) fun C hC => ?_
      obtain ⟨g6, h⟩ := grd_some h
      obtain ⟨v7, h7, h⟩ := bnd_some h
      try simp -implicitDefEqProofs (maxSteps := 4000000) (disch := first | omega | decide | (simp only [go_sem]; omega)) only [go_sem, ↓reduceIte, String.reduceEq, String.reduceNe, reduceCtorEq, Int.reduceEq, Nat.reduceAdd, Nat.reduceSub, Nat.reduceMul, Nat.reduceLT, Nat.reduceLeDiff, Nat.reduceEqDiff, Nat.reduceBEq, Int.reduceToNat, Int.reduceLT, Int.reduceLE, Int.reduceGT, Int.reduceGE, Int.reduceAdd, Int.reduceSub, Int.reduceMul, Int.reduceNeg, Int.reduceBEq, Int.reduceBNe, Int.reducePow, Int.reduceDiv, Int.reduceMod, Int.reduceTDiv, Int.reduceTMod, Int.reduceNatCast]
      repeat (with_reducible refine And.intro (by first | assumption | omega | (simp; done) | (simp; omega)) ?_)
      refine callD_X (F53_ok n a0.2.2.1 (2 : Int) _ h7) (by repeat (first | exact leL_refl _ | refine leL_cons (by first | exact leT_refl _ | exact leT_virt | exact leT_junk _ | exact leT_sl | exact leT_sln | exact leT_nil) ?_)) ?_
      obtain ⟨g8, h⟩ := grd_some h
      obtain ⟨g9, h⟩ := grd_some h
      obtain ⟨g10, h⟩ := grd_some h
      obtain ⟨g11, h⟩ := grd_some h
      obtain ⟨v12, h12, h⟩ := bnd_some h
      try simp -implicitDefEqProofs (maxSteps := 4000000) (disch := first | omega | decide | (simp only [go_sem]; omega)) only [go_sem, ↓reduceIte, String.reduceEq, String.reduceNe, reduceCtorEq, Int.reduceEq, Nat.reduceAdd, Nat.reduceSub, Nat.reduceMul, Nat.reduceLT, Nat.reduceLeDiff, Nat.reduceEqDiff, Nat.reduceBEq, Int.reduceToNat, Int.reduceLT, Int.reduceLE, Int.reduceGT, Int.reduceGE, Int.reduceAdd, Int.reduceSub, Int.reduceMul, Int.reduceNeg, Int.reduceBEq, Int.reduceBNe, Int.reducePow, Int.reduceDiv, Int.reduceMod, Int.reduceTDiv, Int.reduceTMod, Int.reduceNatCast]
      repeat (with_reducible refine And.intro (by first | assumption | omega | (simp; done) | (simp; omega)) ?_)
      refine callD_X (F53_ok n a0.1 (4 : Int) _ h12) (by repeat (first | exact leL_refl _ | refine leL_cons (by first | exact leT_refl _ | exact leT_virt | exact leT_junk _ | exact leT_sl | exact leT_sln | exact leT_nil) ?_)) ?_
      obtain ⟨g13, h⟩ := grd_some h
      obtain ⟨g14, h⟩ := grd_some h
      obtain ⟨v15, h15, h⟩ := bnd_some h
      try simp -implicitDefEqProofs (maxSteps := 4000000) (disch := first | omega | decide | (simp only [go_sem]; omega)) only [go_sem, ↓reduceIte, String.reduceEq, String.reduceNe, reduceCtorEq, Int.reduceEq, Nat.reduceAdd, Nat.reduceSub, Nat.reduceMul, Nat.reduceLT, Nat.reduceLeDiff, Nat.reduceEqDiff, Nat.reduceBEq, Int.reduceToNat, Int.reduceLT, Int.reduceLE, Int.reduceGT, Int.reduceGE, Int.reduceAdd, Int.reduceSub, Int.reduceMul, Int.reduceNeg, Int.reduceBEq, Int.reduceBNe, Int.reducePow, Int.reduceDiv, Int.reduceMod, Int.reduceTDiv, Int.reduceTMod, Int.reduceNatCast]
      repeat (with_reducible refine And.intro (by first | assumption | omega | (simp; done) | (simp; omega)) ?_)
      refine callD_X (F53_ok n a0.2.2.2.1 (2 : Int) _ h15) (by repeat (first | exact leL_refl _ | refine leL_cons (by first | exact leT_refl _ | exact leT_virt | exact leT_junk _ | exact leT_sl | exact leT_sln | exact leT_nil) ?_)) ?_
      obtain ⟨g16, h⟩ := grd_some h
      obtain ⟨g17, h⟩ := grd_some h
      obtain ⟨v18, h18, h⟩ := bnd_some h
      try simp -implicitDefEqProofs (maxSteps := 4000000) (disch := first | omega | decide | (simp only [go_sem]; omega)) only [go_sem, ↓reduceIte, String.reduceEq, String.reduceNe, reduceCtorEq, Int.reduceEq, Nat.reduceAdd, Nat.reduceSub, Nat.reduceMul, Nat.reduceLT, Nat.reduceLeDiff, Nat.reduceEqDiff, Nat.reduceBEq, Int.reduceToNat, Int.reduceLT, Int.reduceLE, Int.reduceGT, Int.reduceGE, Int.reduceAdd, Int.reduceSub, Int.reduceMul, Int.reduceNeg, Int.reduceBEq, Int.reduceBNe, Int.reducePow, Int.reduceDiv, Int.reduceMod, Int.reduceTDiv, Int.reduceTMod, Int.reduceNatCast]
      repeat (with_reducible refine And.intro (by first | assumption | omega | (simp; done) | (simp; omega)) ?_)
      refine callD_X (F53_ok n a0.2.2.2.2.1 (2 : Int) _ h18) (by repeat (first | exact leL_refl _ | refine leL_cons (by first | exact leT_refl _ | exact leT_virt | exact leT_junk _ | exact leT_sl | exact leT_sln | exact leT_nil) ?_)) ?_
      obtain ⟨g19, h⟩ := grd_some h
      obtain ⟨g20, h⟩ := grd_some h
      obtain ⟨v21, h21, h⟩ := bnd_some h
      try simp -implicitDefEqProofs (maxSteps := 4000000) (disch := first | omega | decide | (simp only [go_sem]; omega)) only [go_sem, ↓reduceIte, String.reduceEq, String.reduceNe, reduceCtorEq, Int.reduceEq, Nat.reduceAdd, Nat.reduceSub, Nat.reduceMul, Nat.reduceLT, Nat.reduceLeDiff, Nat.reduceEqDiff, Nat.reduceBEq, Int.reduceToNat, Int.reduceLT, Int.reduceLE, Int.reduceGT, Int.reduceGE, Int.reduceAdd, Int.reduceSub, Int.reduceMul, Int.reduceNeg, Int.reduceBEq, Int.reduceBNe, Int.reducePow, Int.reduceDiv, Int.reduceMod, Int.reduceTDiv, Int.reduceTMod, Int.reduceNatCast]
      repeat (with_reducible refine And.intro (by first | assumption | omega | (simp; done) | (simp; omega)) ?_)
      refine callD_X (F53_ok n a0.2.2.2.2.2 (2 : Int) _ h21) (by repeat (first | exact leL_refl _ | refine leL_cons (by first | exact leT_refl _ | exact leT_virt | exact leT_junk _ | exact leT_sl | exact leT_sln | exact leT_nil) ?_)) ?_
      obtain ⟨g22, h⟩ := grd_some h
      obtain ⟨g23, h⟩ := grd_some h
      try simp -implicitDefEqProofs (maxSteps := 4000000) (disch := first | omega | decide | (simp only [go_sem]; omega)) only [go_sem, ↓reduceIte, String.reduceEq, String.reduceNe, reduceCtorEq, Int.reduceEq, Nat.reduceAdd, Nat.reduceSub, Nat.reduceMul, Nat.reduceLT, Nat.reduceLeDiff, Nat.reduceEqDiff, Nat.reduceBEq, Int.reduceToNat, Int.reduceLT, Int.reduceLE, Int.reduceGT, Int.reduceGE, Int.reduceAdd, Int.reduceSub, Int.reduceMul, Int.reduceNeg, Int.reduceBEq, Int.reduceBNe, Int.reducePow, Int.reduceDiv, Int.reduceMod, Int.reduceTDiv, Int.reduceTMod, Int.reduceNatCast]
      repeat (with_reducible refine And.intro (by first | assumption | omega | (simp; done) | (simp; omega)) ?_)
      refine toEnd hC ?_
      refine endX_seq ?_
      refine runX_ret ?_
      refine endX_q ?_
      obtain rfl := Option.some.inj h
      show RetW _ _ _ _ _
      simp only [RetW]
      (try simp -implicitDefEqProofs (maxSteps := 4000000) (disch := first | omega | decide | (simp only [go_sem]; omega)) only [go_sem, ↓reduceIte, String.reduceEq, String.reduceNe, reduceCtorEq, Int.reduceEq, Nat.reduceAdd, Nat.reduceSub, Nat.reduceMul, Nat.reduceLT, Nat.reduceLeDiff, Nat.reduceEqDiff, Nat.reduceBEq, Int.reduceToNat, Int.reduceLT, Int.reduceLE, Int.reduceGT, Int.reduceGE, Int.reduceAdd, Int.reduceSub, Int.reduceMul, Int.reduceNeg, Int.reduceBEq, Int.reduceBNe, Int.reducePow, Int.reduceDiv, Int.reduceMod, Int.reduceTDiv, Int.reduceTMod, Int.reduceNatCast])
      first | exact leT_refl _ | (refine ⟨rfl, ?_⟩; first | exact leT_refl _ | exact leT_sl | exact leT_sln | exact leT_nil | (refine leT_tup (by repeat (first | exact leL_refl _ | refine leL_cons (by first | exact leT_refl _ | exact leT_virt | exact leT_junk _ | exact leT_sl | exact leT_sln | exact leT_nil) ?_))) | (refine leT_agg (by repeat (first | exact leL_refl _ | refine leL_cons (by first | exact leT_refl _ | exact leT_virt | exact leT_junk _ | exact leT_sl | exact leT_sln | exact leT_nil) ?_)))) | (first | exact leT_refl _ | exact leT_sl | exact leT_sln | exact leT_nil | (refine leT_tup (by repeat (first | exact leL_refl _ | refine leL_cons (by first | exact leT_refl _ | exact leT_virt | exact leT_junk _ | exact leT_sl | exact leT_sln | exact leT_nil) ?_))) | (refine leT_agg (by repeat (first | exact leL_refl _ | refine leL_cons (by first | exact leT_refl _ | exact leT_virt | exact leT_junk _ | exact leT_sl | exact leT_sln | exact leT_nil) ?_))))
end Go.Proofs.YtdfghdppbfabfaaX

set_option linter.unusedVariables false
set_option linter.unusedSimpArgs false
namespace Go.Proofs.YtdfghdppbfabfaaX
open Go Go.RowKit Go.Proofs
set_option maxRecDepth 100000
/-! ### shadowboxref15.Iso -/
def F22 (n : Nat) (a0 : (Int) × (Int) × (Int) × (Int) × (Int) × (Int)) : Option (List UInt8) := (F52 n (a0.1, a0.2.1, a0.2.2.1, a0.2.2.2.1, a0.2.2.2.2.1, a0.2.2.2.2.2)).bind fun v1 => iteB (!v1) (some []) ((F53 n a0.1 (4 : Int)).bind fun v3 => grd (v3.length + 1 ≤ 9223372036854775807) ((F53 n a0.2.1 (2 : Int)).bind fun v5 => grd ((v3.length + 1) + v5.length ≤ 9223372036854775807) (grd ((v3.length + v5.length + 1) + 1 ≤ 9223372036854775807) ((F53 n a0.2.2.1 (2 : Int)).bind fun v8 => grd ((v3.length + v5.length + 2) + v8.length ≤ 9223372036854775807) (grd ((v3.length + v5.length + v8.length + 2) + 1 ≤ 9223372036854775807) ((F53 n a0.2.2.2.1 (2 : Int)).bind fun v11 => grd ((v3.length + v5.length + v8.length + 3) + v11.length ≤ 9223372036854775807) (grd ((v3.length + v5.length + v8.length + v11.length + 3) + 1 ≤ 9223372036854775807) ((F53 n a0.2.2.2.2.1 (2 : Int)).bind fun v14 => grd ((v3.length + v5.length + v8.length + v11.length + 4) + v14.length ≤ 9223372036854775807) (grd ((v3.length + v5.length + v8.length + v11.length + v14.length + 4) + 1 ≤ 9223372036854775807) ((F53 n a0.2.2.2.2.2 (2 : Int)).bind fun v17 => grd ((v3.length + v5.length + v8.length + v11.length + v14.length + 5) + v17.length ≤ 9223372036854775807) (grd ((v3.length + v5.length + v8.length + v11.length + v14.length + v17.length + 5) + 5 ≤ 9223372036854775807) (some (((((((((((v3 ++ ([45] : List UInt8)) ++ v5) ++ ([45] : List UInt8)) ++ v8) ++ ([84] : List UInt8)) ++ v11) ++ ([58] : List UInt8)) ++ v14) ++ ([58] : List UInt8)) ++ v17) ++ ([46, 48, 48, 48, 90] : List UInt8))))))))))))))
set_option maxHeartbeats 4000000 in
theorem F22_ok : ∀ (n : Nat) (a0 : (Int) × (Int) × (Int) × (Int) × (Int) × (Int)) (r : List UInt8), F22 n a0 = some r → FnC Try.prog 22 [.agg [.imm (.int .i64 a0.1), .imm (.int .i64 a0.2.1), .imm (.int .i64 a0.2.2.1), .imm (.int .i64 a0.2.2.2.1), .imm (.int .i64 a0.2.2.2.2.1), .imm (.int .i64 a0.2.2.2.2.2)]] (.imm (.string (bs r)))
  | n, a0, r, h => by
    unfold F22 at h
    refine FnC.goX mixed Try.func22 (by kernel_rfl) rfl ?_
    simp only [Try.ntmps22, List.length_cons, List.length_nil, List.replicate, List.cons_append, List.nil_append, Nat.reduceAdd, Nat.reduceSub]
    refine runX_seq ?_
    refine runX_regionC fun C hC => ?_
    try simp -implicitDefEqProofs (maxSteps := 4000000) (disch := first | omega | decide | (simp only [go_sem]; omega)) only [go_sem, ↓reduceIte, String.reduceEq, String.reduceNe, reduceCtorEq, Int.reduceEq, Nat.reduceAdd, Nat.reduceSub, Nat.reduceMul, Nat.reduceLT, Nat.reduceLeDiff, Nat.reduceEqDiff, Nat.reduceBEq, Int.reduceToNat, Int.reduceLT, Int.reduceLE, Int.reduceGT, Int.reduceGE, Int.reduceAdd, Int.reduceSub, Int.reduceMul, Int.reduceNeg, Int.reduceBEq, Int.reduceBNe, Int.reducePow, Int.reduceDiv, Int.reduceMod, Int.reduceTDiv, Int.reduceTMod, Int.reduceNatCast]
    repeat (with_reducible refine And.intro (by first | assumption | omega | (simp; done) | (simp; omega)) ?_)
    refine toEnd hC ?_
    refine endX_seq ?_
    refine runX_seq ?_
    refine runX_seq ?_
    refine runX_regionC fun C hC => ?_
    obtain ⟨v1, h1, h⟩ := bnd_some h
    try simp -implicitDefEqProofs (maxSteps := 4000000) (disch := first | omega | decide | (simp only [go_sem]; omega)) only [go_sem, ↓reduceIte, String.reduceEq, String.reduceNe, reduceCtorEq, Int.reduceEq, Nat.reduceAdd, Nat.reduceSub, Nat.reduceMul, Nat.reduceLT, Nat.reduceLeDiff, Nat.reduceEqDiff, Nat.reduceBEq, Int.reduceToNat, Int.reduceLT, Int.reduceLE, Int.reduceGT, Int.reduceGE, Int.reduceAdd, Int.reduceSub, Int.reduceMul, Int.reduceNeg, Int.reduceBEq, Int.reduceBNe, Int.reducePow, Int.reduceDiv, Int.reduceMod, Int.reduceTDiv, Int.reduceTMod, Int.reduceNatCast]
    repeat (with_reducible refine And.intro (by first | assumption | omega | (simp; done) | (simp; omega)) ?_)
    refine callG_X (F52_ok n (a0.1, a0.2.1, a0.2.2.1, a0.2.2.2.1, a0.2.2.2.2.1, a0.2.2.2.2.2) _ h1) (by repeat (first | exact leL_refl _ | refine leL_cons (by first | exact leT_refl _ | exact leT_virt | exact leT_junk _ | exact leT_sl | exact leT_sln | exact leT_nil) ?_)) ?_
    try simp -implicitDefEqProofs (maxSteps := 4000000) (disch := first | omega | decide | (simp only [go_sem]; omega)) only [go_sem, ↓reduceIte, String.reduceEq, String.reduceNe, reduceCtorEq, Int.reduceEq, Nat.reduceAdd, Nat.reduceSub, Nat.reduceMul, Nat.reduceLT, Nat.reduceLeDiff, Nat.reduceEqDiff, Nat.reduceBEq, Int.reduceToNat, Int.reduceLT, Int.reduceLE, Int.reduceGT, Int.reduceGE, Int.reduceAdd, Int.reduceSub, Int.reduceMul, Int.reduceNeg, Int.reduceBEq, Int.reduceBNe, Int.reducePow, Int.reduceDiv, Int.reduceMod, Int.reduceTDiv, Int.reduceTMod, Int.reduceNatCast]
    repeat (with_reducible refine And.intro (by first | assumption | omega | (simp; done) | (simp; omega)) ?_)
    refine toEnd hC ?_
    refine endX_seq ?_
    rcases iteB_some h with ⟨c2, h⟩ | ⟨c2, h⟩
    · refine runX_condT rfl c2 ?_
      refine runX_seq ?_
      refine runX_regionC fun C hC => ?_
      try simp -implicitDefEqProofs (maxSteps := 4000000) (disch := first | omega | decide | (simp only [go_sem]; omega)) only [go_sem, ↓reduceIte, String.reduceEq, String.reduceNe, reduceCtorEq, Int.reduceEq, Nat.reduceAdd, Nat.reduceSub, Nat.reduceMul, Nat.reduceLT, Nat.reduceLeDiff, Nat.reduceEqDiff, Nat.reduceBEq, Int.reduceToNat, Int.reduceLT, Int.reduceLE, Int.reduceGT, Int.reduceGE, Int.reduceAdd, Int.reduceSub, Int.reduceMul, Int.reduceNeg, Int.reduceBEq, Int.reduceBNe, Int.reducePow, Int.reduceDiv, Int.reduceMod, Int.reduceTDiv, Int.reduceTMod, Int.reduceNatCast]
      repeat (with_reducible refine And.intro (by first | assumption | omega | (simp; done) | (simp; omega)) ?_)
      refine toEnd hC ?_
      refine endX_seq ?_
      refine runX_ret ?_
      refine endX_seqR ?_
      refine endX_q ?_
      obtain rfl := Option.some.inj h
      show RetW _ _ _ _ _
      simp only [RetW]
      (try simp -implicitDefEqProofs (maxSteps := 4000000) (disch := first | omega | decide | (simp only [go_sem]; omega)) only [go_sem, ↓reduceIte, String.reduceEq, String.reduceNe, reduceCtorEq, Int.reduceEq, Nat.reduceAdd, Nat.reduceSub, Nat.reduceMul, Nat.reduceLT, Nat.reduceLeDiff, Nat.reduceEqDiff, Nat.reduceBEq, Int.reduceToNat, Int.reduceLT, Int.reduceLE, Int.reduceGT, Int.reduceGE, Int.reduceAdd, Int.reduceSub, Int.reduceMul, Int.reduceNeg, Int.reduceBEq, Int.reduceBNe, Int.reducePow, Int.reduceDiv, Int.reduceMod, Int.reduceTDiv, Int.reduceTMod, Int.reduceNatCast])
      first | exact leT_refl _ | (refine ⟨rfl, ?_⟩; first | exact leT_refl _ | exact leT_sl | exact leT_sln | exact leT_nil | (refine leT_tup (by repeat (first | exact leL_refl _ | refine leL_cons (by first | exact leT_refl _ | exact leT_virt | exact leT_junk _ | exact leT_sl | exact leT_sln | exact leT_nil) ?_))) | (refine leT_agg (by repeat (first | exact leL_refl _ | refine leL_cons (by first | exact leT_refl _ | exact leT_virt | exact leT_junk _ | exact leT_sl | exact leT_sln | exact leT_nil) ?_)))) | (first | exact leT_refl _ | exact leT_sl | exact leT_sln | exact leT_nil | (refine leT_tup (by repeat (first | exact leL_refl _ | refine leL_cons (by first | exact leT_refl _ | exact leT_virt | exact leT_junk _ | exact leT_sl | exact leT_sln | exact leT_nil) ?_))) | (refine leT_agg (by repeat (first | exact leL_refl _ | refine leL_cons (by first | exact leT_refl _ | exact leT_virt | exact leT_junk _ | exact leT_sl | exact leT_sln | exact leT_nil) ?_))))
    · refine runX_condF rfl c2 ?_
      refine runX_skip ?_
      refine endX_seq ?_
      refine runX_seq ?_
      refine runX_drawC mixed (by kernel_rfl) fun C hC => ?_
      obtain ⟨v3, h3, h⟩ := bnd_some h
      try simp -implicitDefEqProofs (maxSteps := 4000000) (disch := first | omega | decide | (simp only [go_sem]; omega)) only [go_sem, ↓reduceIte, String.reduceEq, String.reduceNe, reduceCtorEq, Int.reduceEq, Nat.reduceAdd, Nat.reduceSub, Nat.reduceMul, Nat.reduceLT, Nat.reduceLeDiff, Nat.reduceEqDiff, Nat.reduceBEq, Int.reduceToNat, Int.reduceLT, Int.reduceLE, Int.reduceGT, Int.reduceGE, Int.reduceAdd, Int.reduceSub, Int.reduceMul, Int.reduceNeg, Int.reduceBEq, Int.reduceBNe, Int.reducePow, Int.reduceDiv, Int.reduceMod, Int.reduceTDiv, Int.reduceTMod, Int.reduceNatCast]
      repeat (with_reducible refine And.intro (by first | assumption | omega | (simp; done) | (simp; omega)) ?_)
      refine callD_X (F53_ok n a0.1 (4 : Int) _ h3) (by repeat (first | exact leL_refl _ | refine leL_cons (by first | exact leT_refl _ | exact leT_virt | exact leT_junk _ | exact leT_sl | exact leT_sln | exact leT_nil) ?_)) ?_
      obtain ⟨g4, h⟩ := grd_some h
      obtain ⟨v5, h5, h⟩ := bnd_some h
      try simp -implicitDefEqProofs (maxSteps := 4000000) (disch := first | omega | decide | (simp only [go_sem]; omega)) only [go_sem, ↓reduceIte, String.reduceEq, String.reduceNe, reduceCtorEq, Int.reduceEq, Nat.reduceAdd, Nat.reduceSub, Nat.reduceMul, Nat.reduceLT, Nat.reduceLeDiff, Nat.reduceEqDiff, Nat.reduceBEq, Int.reduceToNat, Int.reduceLT, Int.reduceLE, Int.reduceGT, Int.reduceGE, Int.reduceAdd, Int.reduceSub, Int.reduceMul, Int.reduceNeg, Int.reduceBEq, Int.reduceBNe, Int.reducePow, Int.reduceDiv, Int.reduceMod, Int.reduceTDiv, Int.reduceTMod, Int.reduceNatCast]
      repeat (with_reducible refine And.intro (by first | assumption | omega | (simp; done) | (simp; omega)) ?_)
      refine callD_X (F53_ok n a0.2.1 (2 : Int) _ h5) (by repeat (first | exact leL_refl _ | refine leL_cons (by first | exact leT_refl _ | exact leT_virt | exact leT_junk _ | exact leT_sl | exact leT_sln | exact leT_nil) ?_)) ?_
      obtain ⟨g6, h⟩ := grd_some h
      obtain ⟨g7, h⟩ := grd_some h
      obtain ⟨v8, h8, h⟩ := bnd_some h
      try simp -implicitDefEqProofs (maxSteps := 4000000) (disch := first | omega | decide | (simp only [go_sem]; omega)) only [go_sem, ↓reduceIte, String.reduceEq, String.reduceNe, reduceCtorEq, Int.reduceEq, Nat.reduceAdd, Nat.reduceSub, Nat.reduceMul, Nat.reduceLT, Nat.reduceLeDiff, Nat.reduceEqDiff, Nat.reduceBEq, Int.reduceToNat, Int.reduceLT, Int.reduceLE, Int.reduceGT, Int.reduceGE, Int.reduceAdd, Int.reduceSub, Int.reduceMul, Int.reduceNeg, Int.reduceBEq, Int.reduceBNe, Int.reducePow, Int.reduceDiv, Int.reduceMod, Int.reduceTDiv, Int.reduceTMod, Int.reduceNatCast]
      repeat (with_reducible refine And.intro (by first | assumption | omega | (simp; done) | (simp; omega)) ?_)
      refine callD_X (F53_ok n a0.2.2.1 (2 : Int) _ h8) (by repeat (first | exact leL_refl _ | refine leL_cons (by first | exact leT_refl _ | exact leT_virt | exact leT_junk _ | exact leT_sl | exact leT_sln | exact leT_nil) ?_)) ?_
      obtain ⟨g9, h⟩ := grd_some h
      obtain ⟨g10, h⟩ := grd_some h
      obtain ⟨v11, h11, h⟩ := bnd_some h
      try simp -implicitDefEqProofs (maxSteps := 4000000) (disch := first | omega | decide | (simp only [go_sem]; omega)) only [go_sem, ↓reduceIte, String.reduceEq, String.reduceNe, reduceCtorEq, Int.reduceEq, Nat.reduceAdd, Nat.reduceSub, Nat.reduceMul, Nat.reduceLT, Nat.reduceLeDiff, Nat.reduceEqDiff, Nat.reduceBEq, Int.reduceToNat, Int.reduceLT, Int.reduceLE, Int.reduceGT, Int.reduceGE, Int.reduceAdd, Int.reduceSub, Int.reduceMul, Int.reduceNeg, Int.reduceBEq, Int.reduceBNe, Int.reducePow, Int.reduceDiv, Int.reduceMod, Int.reduceTDiv, Int.reduceTMod, Int.reduceNatCast]
      repeat (with_reducible refine And.intro (by first | assumption | omega | (simp; done) | (simp; omega)) ?_)
      refine callD_X (F53_ok n a0.2.2.2.1 (2 : Int) _ h11) (by repeat (first | exact leL_refl _ | refine leL_cons (by first | exact leT_refl _ | exact leT_virt | exact leT_junk _ | exact leT_sl | exact leT_sln | exact leT_nil) ?_)) ?_
      obtain ⟨g12, h⟩ := grd_some h
      obtain ⟨g13, h⟩ := grd_some h
      obtain ⟨v14, h14, h⟩ := bnd_some h
      try simp -implicitDefEqProofs (maxSteps := 4000000) (disch := first | omega | decide | (simp only [go_sem]; omega)) only [go_sem, ↓reduceIte, String.reduceEq, String.reduceNe, reduceCtorEq, Int.reduceEq, Nat.reduceAdd, Nat.reduceSub, Nat.reduceMul, Nat.reduceLT, Nat.reduceLeDiff, Nat.reduceEqDiff, Nat.reduceBEq, Int.reduceToNat, Int.reduceLT, Int.reduceLE, Int.reduceGT, Int.reduceGE, Int.reduceAdd, Int.reduceSub, Int.reduceMul, Int.reduceNeg, Int.reduceBEq, Int.reduceBNe, Int.reducePow, Int.reduceDiv, Int.reduceMod, Int.reduceTDiv, Int.reduceTMod, Int.reduceNatCast]
      repeat (with_reducible refine And.intro (by first | assumption | omega | (simp; done) | (simp; omega)) ?_)
      refine callD_X (F53_ok n a0.2.2.2.2.1 (2 : Int) _ h14) (by repeat (first | exact leL_refl _ | refine leL_cons (by first | exact leT_refl _ | exact leT_virt | exact leT_junk _ | exact leT_sl | exact leT_sln | exact leT_nil) ?_)) ?_
      obtain ⟨g15, h⟩ := grd_some h
      obtain ⟨g16, h⟩ := grd_some h
      obtain ⟨v17, h17, h⟩ := bnd_some h
      try simp -implicitDefEqProofs (maxSteps := 4000000) (disch := first | omega | decide | (simp only [go_sem]; omega)) only [go_sem, ↓reduceIte, String.reduceEq, String.reduceNe, reduceCtorEq, Int.reduceEq, Nat.reduceAdd, Nat.reduceSub, Nat.reduceMul, Nat.reduceLT, Nat.reduceLeDiff, Nat.reduceEqDiff, Nat.reduceBEq, Int.reduceToNat, Int.reduceLT, Int.reduceLE, Int.reduceGT, Int.reduceGE, Int.reduceAdd, Int.reduceSub, Int.reduceMul, Int.reduceNeg, Int.reduceBEq, Int.reduceBNe, Int.reducePow, Int.reduceDiv, Int.reduceMod, Int.reduceTDiv, Int.reduceTMod, Int.reduceNatCast]
      repeat (with_reducible refine And.intro (by first | assumption | omega | (simp; done) | (simp; omega)) ?_)
      refine callD_X (F53_ok n a0.2.2.2.2.2 (2 : Int) _ h17) (by repeat (first | exact leL_refl _ | refine leL_cons (by first | exact leT_refl _ | exact leT_virt | exact leT_junk _ | exact leT_sl | exact leT_sln | exact leT_nil) ?_)) ?_
      obtain ⟨g18, h⟩ := grd_some h
      obtain ⟨g19, h⟩ := grd_some h
      try simp -implicitDefEqProofs (maxSteps := 4000000) (disch := first | omega | decide | (simp only [go_sem]; omega)) only [go_sem, ↓reduceIte, String.reduceEq, String.reduceNe, reduceCtorEq, Int.reduceEq, Nat.reduceAdd, Nat.reduceSub, Nat.reduceMul, Nat.reduceLT, Nat.reduceLeDiff, Nat.reduceEqDiff, Nat.reduceBEq, Int.reduceToNat, Int.reduceLT, Int.reduceLE, Int.reduceGT, Int.reduceGE, Int.reduceAdd, Int.reduceSub, Int.reduceMul, Int.reduceNeg, Int.reduceBEq, Int.reduceBNe, Int.reducePow, Int.reduceDiv, Int.reduceMod, Int.reduceTDiv, Int.reduceTMod, Int.reduceNatCast]
      repeat (with_reducible refine And.intro (by first | assumption | omega | (simp; done) | (simp; omega)) ?_)
      refine toEnd hC ?_
      refine endX_seq ?_
      refine runX_ret ?_
      refine endX_q ?_
      obtain rfl := Option.some.inj h
      show RetW _ _ _ _ _
      simp only [RetW]
      (try simp -implicitDefEqProofs (maxSteps := 4000000) (disch := first | omega | decide | (simp only [go_sem]; omega)) only [go_sem, ↓reduceIte, String.reduceEq, String.reduceNe, reduceCtorEq, Int.reduceEq, Nat.reduceAdd, Nat.reduceSub, Nat.reduceMul, Nat.reduceLT, Nat.reduceLeDiff, Nat.reduceEqDiff, Nat.reduceBEq, Int.reduceToNat, Int.reduceLT, Int.reduceLE, Int.reduceGT, Int.reduceGE, Int.reduceAdd, Int.reduceSub, Int.reduceMul, Int.reduceNeg, Int.reduceBEq, Int.reduceBNe, Int.reducePow, Int.reduceDiv, Int.reduceMod, Int.reduceTDiv, Int.reduceTMod, Int.reduceNatCast])
      first | exact leT_refl _ | (refine ⟨rfl, ?_⟩; first | exact leT_refl _ | exact leT_sl | exact leT_sln | exact leT_nil | (refine leT_tup (by repeat (first | exact leL_refl _ | refine leL_cons (by first | exact leT_refl _ | exact leT_virt | exact leT_junk _ | exact leT_sl | exact leT_sln | exact leT_nil) ?_))) | (refine leT_agg (by repeat (first | exact leL_refl _ | refine leL_cons (by first | exact leT_refl _ | exact leT_virt | exact leT_junk _ | exact leT_sl | exact leT_sln | exact leT_nil) ?_)))) | (first | exact leT_refl _ | exact leT_sl | exact leT_sln | exact leT_nil | (refine leT_tup (by repeat (first | exact leL_refl _ | refine leL_cons (by first | exact leT_refl _ | exact leT_virt | exact leT_junk _ | exact leT_sl | exact leT_sln | exact leT_nil) ?_))) | (refine leT_agg (by repeat (first | exact leL_refl _ | refine leL_cons (by first | exact leT_refl _ | exact leT_virt | exact leT_junk _ | exact leT_sl | exact leT_sln | exact leT_nil) ?_))))
end Go.Proofs.YtdfghdppbfabfaaX

set_option linter.unusedVariables false
set_option linter.unusedSimpArgs false
namespace Go.Proofs.YtdfghdppbfabfaaX
open Go Go.RowKit Go.Proofs
set_option maxRecDepth 100000
/-! ### clock.Short -/
def F23 (n : Nat) (a0 : (Int) × (Int) × (Int) × (Int) × (Int) × (Int)) : Option (List UInt8) := (F46 n (a0.1, a0.2.1, a0.2.2.1, a0.2.2.2.1, a0.2.2.2.2.1, a0.2.2.2.2.2)).bind fun v1 => iteB (!v1) (some []) ((F48 n (a0.1, a0.2.1, a0.2.2.1, a0.2.2.2.1, a0.2.2.2.2.1, a0.2.2.2.2.2) [] []).bind fun v3 => grd (v3.1.length + 1 ≤ 9223372036854775807) (grd ((v3.1.length + 1) + v3.2.length ≤ 9223372036854775807) (grd ((v3.1.length + v3.2.length + 1) + 1 ≤ 9223372036854775807) (some (((v3.1 ++ ([84] : List UInt8)) ++ v3.2) ++ ([90] : List UInt8))))))
set_option maxHeartbeats 4000000 in
theorem F23_ok : ∀ (n : Nat) (a0 : (Int) × (Int) × (Int) × (Int) × (Int) × (Int)) (r : List UInt8), F23 n a0 = some r → FnC Try.prog 23 [.agg [.imm (.int .i64 a0.1), .imm (.int .i64 a0.2.1), .imm (.int .i64 a0.2.2.1), .imm (.int .i64 a0.2.2.2.1), .imm (.int .i64 a0.2.2.2.2.1), .imm (.int .i64 a0.2.2.2.2.2)]] (.imm (.string (bs r)))
  | n, a0, r, h => by
    unfold F23 at h
    refine FnC.goX mixed Try.func23 (by kernel_rfl) rfl ?_
    simp only [Try.ntmps23, List.length_cons, List.length_nil, List.replicate, List.cons_append, List.nil_append, Nat.reduceAdd, Nat.reduceSub]
    refine runX_seq ?_
    refine runX_regionC fun C hC => ?_
    try simp -implicitDefEqProofs (maxSteps := 4000000) (disch := first | omega | decide | (simp only [go_sem]; omega)) only [go_sem, ↓reduceIte, String.reduceEq, String.reduceNe, reduceCtorEq, Int.reduceEq, Nat.reduceAdd, Nat.reduceSub, Nat.reduceMul, Nat.reduceLT, Nat.reduceLeDiff, Nat.reduceEqDiff, Nat.reduceBEq, Int.reduceToNat, Int.reduceLT, Int.reduceLE, Int.reduceGT, Int.reduceGE, Int.reduceAdd, Int.reduceSub, Int.reduceMul, Int.reduceNeg, Int.reduceBEq, Int.reduceBNe, Int.reducePow, Int.reduceDiv, Int.reduceMod, Int.reduceTDiv, Int.reduceTMod, Int.reduceNatCast]
    repeat (with_reducible refine And.intro (by first | assumption | omega | (simp; done) | (simp; omega)) ?_)
    refine toEnd hC ?_
    refine endX_seq ?_
    refine runX_seq ?_
    refine runX_seq ?_
    refine runX_regionC fun C hC => ?_
    obtain ⟨v1, h1, h⟩ := bnd_some h
    try simp -implicitDefEqProofs (maxSteps := 4000000) (disch := first | omega | decide | (simp only [go_sem]; omega)) only [go_sem, ↓reduceIte, String.reduceEq, String.reduceNe, reduceCtorEq, Int.reduceEq, Nat.reduceAdd, Nat.reduceSub, Nat.reduceMul, Nat.reduceLT, Nat.reduceLeDiff, Nat.reduceEqDiff, Nat.reduceBEq, Int.reduceToNat, Int.reduceLT, Int.reduceLE, Int.reduceGT, Int.reduceGE, Int.reduceAdd, Int.reduceSub, Int.reduceMul, Int.reduceNeg, Int.reduceBEq, Int.reduceBNe, Int.reducePow, Int.reduceDiv, Int.reduceMod, Int.reduceTDiv, Int.reduceTMod, Int.reduceNatCast]
    repeat (with_reducible refine And.intro (by first | assumption | omega | (simp; done) | (simp; omega)) ?_)
    refine callG_X (F46_ok n (a0.1, a0.2.1, a0.2.2.1, a0.2.2.2.1, a0.2.2.2.2.1, a0.2.2.2.2.2) _ h1) (by repeat (first | exact leL_refl _ | refine leL_cons (by first | exact leT_refl _ | exact leT_virt | exact leT_junk _ | exact leT_sl | exact leT_sln | exact leT_nil) ?_)) ?_
    try simp -implicitDefEqProofs (maxSteps := 4000000) (disch := first | omega | decide | (simp only [go_sem]; omega)) only [go_sem, ↓reduceIte, String.reduceEq, String.reduceNe, reduceCtorEq, Int.reduceEq, Nat.reduceAdd, Nat.reduceSub, Nat.reduceMul, Nat.reduceLT, Nat.reduceLeDiff, Nat.reduceEqDiff, Nat.reduceBEq, Int.reduceToNat, Int.reduceLT, Int.reduceLE, Int.reduceGT, Int.reduceGE, Int.reduceAdd, Int.reduceSub, Int.reduceMul, Int.reduceNeg, Int.reduceBEq, Int.reduceBNe, Int.reducePow, Int.reduceDiv, Int.reduceMod, Int.reduceTDiv, Int.reduceTMod, Int.reduceNatCast]
    repeat (with_reducible refine And.intro (by first | assumption | omega | (simp; done) | (simp; omega)) ?_)
    refine toEnd hC ?_
    refine endX_seq ?_
    rcases iteB_some h with ⟨c2, h⟩ | ⟨c2, h⟩
    · refine runX_condT rfl c2 ?_
      refine runX_seq ?_
      refine runX_regionC fun C hC => ?_
      try simp -implicitDefEqProofs (maxSteps := 4000000) (disch := first | omega | decide | (simp only [go_sem]; omega)) only [go_sem, ↓reduceIte, String.reduceEq, String.reduceNe, reduceCtorEq, Int.reduceEq, Nat.reduceAdd, Nat.reduceSub, Nat.reduceMul, Nat.reduceLT, Nat.reduceLeDiff, Nat.reduceEqDiff, Nat.reduceBEq, Int.reduceToNat, Int.reduceLT, Int.reduceLE, Int.reduceGT, Int.reduceGE, Int.reduceAdd, Int.reduceSub, Int.reduceMul, Int.reduceNeg, Int.reduceBEq, Int.reduceBNe, Int.reducePow, Int.reduceDiv, Int.reduceMod, Int.reduceTDiv, Int.reduceTMod, Int.reduceNatCast]
      repeat (with_reducible refine And.intro (by first | assumption | omega | (simp; done) | (simp; omega)) ?_)
      refine toEnd hC ?_
      refine endX_seq ?_
      refine runX_ret ?_
      refine endX_seqR ?_
      refine endX_q ?_
      obtain rfl := Option.some.inj h
      show RetW _ _ _ _ _
      simp only [RetW]
      (try simp -implicitDefEqProofs (maxSteps := 4000000) (disch := first | omega | decide | (simp only [go_sem]; omega)) only [go_sem, ↓reduceIte, String.reduceEq, String.reduceNe, reduceCtorEq, Int.reduceEq, Nat.reduceAdd, Nat.reduceSub, Nat.reduceMul, Nat.reduceLT, Nat.reduceLeDiff, Nat.reduceEqDiff, Nat.reduceBEq, Int.reduceToNat, Int.reduceLT, Int.reduceLE, Int.reduceGT, Int.reduceGE, Int.reduceAdd, Int.reduceSub, Int.reduceMul, Int.reduceNeg, Int.reduceBEq, Int.reduceBNe, Int.reducePow, Int.reduceDiv, Int.reduceMod, Int.reduceTDiv, Int.reduceTMod, Int.reduceNatCast])
      first | exact leT_refl _ | (refine ⟨rfl, ?_⟩; first | exact leT_refl _ | exact leT_sl | exact leT_sln | exact leT_nil | (refine leT_tup (by repeat (first | exact leL_refl _ | refine leL_cons (by first | exact leT_refl _ | exact leT_virt | exact leT_junk _ | exact leT_sl | exact leT_sln | exact leT_nil) ?_))) | (refine leT_agg (by repeat (first | exact leL_refl _ | refine leL_cons (by first | exact leT_refl _ | exact leT_virt | exact leT_junk _ | exact leT_sl | exact leT_sln | exact leT_nil) ?_)))) | (first | exact leT_refl _ | exact leT_sl | exact leT_sln | exact leT_nil | (refine leT_tup (by repeat (first | exact leL_refl _ | refine leL_cons (by first | exact leT_refl _ | exact leT_virt | exact leT_junk _ | exact leT_sl | exact leT_sln | exact leT_nil) ?_))) | (refine leT_agg (by repeat (first | exact leL_refl _ | refine leL_cons (by first | exact leT_refl _ | exact leT_virt | exact leT_junk _ | exact leT_sl | exact leT_sln | exact leT_nil) ?_))))
    · refine runX_condF rfl c2 ?_
      refine runX_skip ?_
      refine endX_seq ?_
      refine runX_seq ?_
      refine runX_regionC fun C hC => ?_
      obtain ⟨v3, h3, h⟩ := bnd_some h
      try simp -implicitDefEqProofs (maxSteps := 4000000) (disch := first | omega | decide | (simp only [go_sem]; omega)) only [go_sem, ↓reduceIte, String.reduceEq, String.reduceNe, reduceCtorEq, Int.reduceEq, Nat.reduceAdd, Nat.reduceSub, Nat.reduceMul, Nat.reduceLT, Nat.reduceLeDiff, Nat.reduceEqDiff, Nat.reduceBEq, Int.reduceToNat, Int.reduceLT, Int.reduceLE, Int.reduceGT, Int.reduceGE, Int.reduceAdd, Int.reduceSub, Int.reduceMul, Int.reduceNeg, Int.reduceBEq, Int.reduceBNe, Int.reducePow, Int.reduceDiv, Int.reduceMod, Int.reduceTDiv, Int.reduceTMod, Int.reduceNatCast]
      repeat (with_reducible refine And.intro (by first | assumption | omega | (simp; done) | (simp; omega)) ?_)
      refine callG_X (F48_ok n (a0.1, a0.2.1, a0.2.2.1, a0.2.2.2.1, a0.2.2.2.2.1, a0.2.2.2.2.2) [] [] _ h3) (by repeat (first | exact leL_refl _ | refine leL_cons (by first | exact leT_refl _ | exact leT_virt | exact leT_junk _ | exact leT_sl | exact leT_sln | exact leT_nil) ?_)) ?_
      try simp -implicitDefEqProofs (maxSteps := 4000000) (disch := first | omega | decide | (simp only [go_sem]; omega)) only [go_sem, ↓reduceIte, String.reduceEq, String.reduceNe, reduceCtorEq, Int.reduceEq, Nat.reduceAdd, Nat.reduceSub, Nat.reduceMul, Nat.reduceLT, Nat.reduceLeDiff, Nat.reduceEqDiff, Nat.reduceBEq, Int.reduceToNat, Int.reduceLT, Int.reduceLE, Int.reduceGT, Int.reduceGE, Int.reduceAdd, Int.reduceSub, Int.reduceMul, Int.reduceNeg, Int.reduceBEq, Int.reduceBNe, Int.reducePow, Int.reduceDiv, Int.reduceMod, Int.reduceTDiv, Int.reduceTMod, Int.reduceNatCast]
      repeat (with_reducible refine And.intro (by first | assumption | omega | (simp; done) | (simp; omega)) ?_)
      refine toEnd hC ?_
      refine endX_seq ?_
      refine runX_seq ?_
      refine runX_regionC fun C hC => ?_
      obtain ⟨g4, h⟩ := grd_some h
      obtain ⟨g5, h⟩ := grd_some h
      obtain ⟨g6, h⟩ := grd_some h
      try simp -implicitDefEqProofs (maxSteps := 4000000) (disch := first | omega | decide | (simp only [go_sem]; omega)) only [go_sem, ↓reduceIte, String.reduceEq, String.reduceNe, reduceCtorEq, Int.reduceEq, Nat.reduceAdd, Nat.reduceSub, Nat.reduceMul, Nat.reduceLT, Nat.reduceLeDiff, Nat.reduceEqDiff, Nat.reduceBEq, Int.reduceToNat, Int.reduceLT, Int.reduceLE, Int.reduceGT, Int.reduceGE, Int.reduceAdd, Int.reduceSub, Int.reduceMul, Int.reduceNeg, Int.reduceBEq, Int.reduceBNe, Int.reducePow, Int.reduceDiv, Int.reduceMod, Int.reduceTDiv, Int.reduceTMod, Int.reduceNatCast]
      repeat (with_reducible refine And.intro (by first | assumption | omega | (simp; done) | (simp; omega)) ?_)
      refine toEnd hC ?_
      refine endX_seq ?_
      refine runX_ret ?_
      refine endX_q ?_
      obtain rfl := Option.some.inj h
      show RetW _ _ _ _ _
      simp only [RetW]
      (try simp -implicitDefEqProofs (maxSteps := 4000000) (disch := first | omega | decide | (simp only [go_sem]; omega)) only [go_sem, ↓reduceIte, String.reduceEq, String.reduceNe, reduceCtorEq, Int.reduceEq, Nat.reduceAdd, Nat.reduceSub, Nat.reduceMul, Nat.reduceLT, Nat.reduceLeDiff, Nat.reduceEqDiff, Nat.reduceBEq, Int.reduceToNat, Int.reduceLT, Int.reduceLE, Int.reduceGT, Int.reduceGE, Int.reduceAdd, Int.reduceSub, Int.reduceMul, Int.reduceNeg, Int.reduceBEq, Int.reduceBNe, Int.reducePow, Int.reduceDiv, Int.reduceMod, Int.reduceTDiv, Int.reduceTMod, Int.reduceNatCast])
      first | exact leT_refl _ | (refine ⟨rfl, ?_⟩; first | exact leT_refl _ | exact leT_sl | exact leT_sln | exact leT_nil | (refine leT_tup (by repeat (first | exact leL_refl _ | refine leL_cons (by first | exact leT_refl _ | exact leT_virt | exact leT_junk _ | exact leT_sl | exact leT_sln | exact leT_nil) ?_))) | (refine leT_agg (by repeat (first | exact leL_refl _ | refine leL_cons (by first | exact leT_refl _ | exact leT_virt | exact leT_junk _ | exact leT_sl | exact leT_sln | exact leT_nil) ?_)))) | (first | exact leT_refl _ | exact leT_sl | exact leT_sln | exact leT_nil | (refine leT_tup (by repeat (first | exact leL_refl _ | refine leL_cons (by first | exact leT_refl _ | exact leT_virt | exact leT_junk _ | exact leT_sl | exact leT_sln | exact leT_nil) ?_))) | (refine leT_agg (by repeat (first | exact leL_refl _ | refine leL_cons (by first | exact leT_refl _ | exact leT_virt | exact leT_junk _ | exact leT_sl | exact leT_sln | exact leT_nil) ?_))))
end Go.Proofs.YtdfghdppbfabfaaX

set_option linter.unusedVariables false
set_option linter.unusedSimpArgs false
namespace Go.Proofs.YtdfghdppbfabfaaX
open Go Go.RowKit Go.Proofs
set_option maxRecDepth 100000
/-! ### shadowboxref15.Short -/
def F24 (n : Nat) (a0 : (Int) × (Int) × (Int) × (Int) × (Int) × (Int)) : Option (List UInt8) := (F52 n (a0.1, a0.2.1, a0.2.2.1, a0.2.2.2.1, a0.2.2.2.2.1, a0.2.2.2.2.2)).bind fun v1 => iteB (!v1) (some []) ((F53 n a0.1 (4 : Int)).bind fun v3 => (F53 n a0.2.1 (2 : Int)).bind fun v4 => grd (v3.length + v4.length ≤ 9223372036854775807) ((F53 n a0.2.2.1 (2 : Int)).bind fun v6 => grd ((v3.length + v4.length) + v6.length ≤ 9223372036854775807) (grd ((v3.length + v4.length + v6.length) + 1 ≤ 9223372036854775807) ((F53 n a0.2.2.2.1 (2 : Int)).bind fun v9 => grd ((v3.length + v4.length + v6.length + 1) + v9.length ≤ 9223372036854775807) ((F53 n a0.2.2.2.2.1 (2 : Int)).bind fun v11 => grd ((v3.length + v4.length + v6.length + v9.length + 1) + v11.length ≤ 9223372036854775807) ((F53 n a0.2.2.2.2.2 (2 : Int)).bind fun v13 => grd ((v3.length + v4.length + v6.length + v9.length + v11.length + 1) + v13.length ≤ 9223372036854775807) (grd ((v3.length + v4.length + v6.length + v9.length + v11.length + v13.length + 1) + 1 ≤ 9223372036854775807) (some (((((((v3 ++ v4) ++ v6) ++ ([84] : List UInt8)) ++ v9) ++ v11) ++ v13) ++ ([90] : List UInt8))))))))))
set_option maxHeartbeats 4000000 in
theorem F24_ok : ∀ (n : Nat) (a0 : (Int) × (Int) × (Int) × (Int) × (Int) × (Int)) (r : List UInt8), F24 n a0 = some r → FnC Try.prog 24 [.agg [.imm (.int .i64 a0.1), .imm (.int .i64 a0.2.1), .imm (.int .i64 a0.2.2.1), .imm (.int .i64 a0.2.2.2.1), .imm (.int .i64 a0.2.2.2.2.1), .imm (.int .i64 a0.2.2.2.2.2)]] (.imm (.string (bs r)))
  | n, a0, r, h => by
    unfold F24 at h
    refine FnC.goX mixed Try.func24 (by kernel_rfl) rfl ?_
    simp only [Try.ntmps24, List.length_cons, List.length_nil, List.replicate, List.cons_append, List.nil_append, Nat.reduceAdd, Nat.reduceSub]
    refine runX_seq ?_
    refine runX_regionC fun C hC => ?_
    try simp -implicitDefEqProofs (maxSteps := 4000000) (disch := first | omega | decide | (simp only [go_sem]; omega)) only [go_sem, ↓reduceIte, String.reduceEq, String.reduceNe, reduceCtorEq, Int.reduceEq, Nat.reduceAdd, Nat.reduceSub, Nat.reduceMul, Nat.reduceLT, Nat.reduceLeDiff, Nat.reduceEqDiff, Nat.reduceBEq, Int.reduceToNat, Int.reduceLT, Int.reduceLE, Int.reduceGT, Int.reduceGE, Int.reduceAdd, Int.reduceSub, Int.reduceMul, Int.reduceNeg, Int.reduceBEq, Int.reduceBNe, Int.reducePow, Int.reduceDiv, Int.reduceMod, Int.reduceTDiv, Int.reduceTMod, Int.reduceNatCast]
    repeat (with_reducible refine And.intro (by first | assumption | omega | (simp; done) | (simp; omega)) ?_)
    refine toEnd hC ?_
    refine endX_seq ?_
    refine runX_seq ?_
    refine runX_seq ?_
    refine runX_regionC fun C hC => ?_
    obtain ⟨v1, h1, h⟩ := bnd_some h
    try simp -implicitDefEqProofs (maxSteps := 4000000) (disch := first | omega | decide | (simp only [go_sem]; omega)) only [go_sem, ↓reduceIte, String.reduceEq, String.reduceNe, reduceCtorEq, Int.reduceEq, Nat.reduceAdd, Nat.reduceSub, Nat.reduceMul, Nat.reduceLT, Nat.reduceLeDiff, Nat.reduceEqDiff, Nat.reduceBEq, Int.reduceToNat, Int.reduceLT, Int.reduceLE, Int.reduceGT, Int.reduceGE, Int.reduceAdd, Int.reduceSub, Int.reduceMul, Int.reduceNeg, Int.reduceBEq, Int.reduceBNe, Int.reducePow, Int.reduceDiv, Int.reduceMod, Int.reduceTDiv, Int.reduceTMod, Int.reduceNatCast]
    repeat (with_reducible refine And.intro (by first | assumption | omega | (simp; done) | (simp; omega)) ?_)
    refine callG_X (F52_ok n (a0.1, a0.2.1, a0.2.2.1, a0.2.2.2.1, a0.2.2.2.2.1, a0.2.2.2.2.2) _ h1) (by repeat (first | exact leL_refl _ | refine leL_cons (by first | exact leT_refl _ | exact leT_virt | exact leT_junk _ | exact leT_sl | exact leT_sln | exact leT_nil) ?_)) ?_
    try simp -implicitDefEqProofs (maxSteps := 4000000) (disch := first | omega | decide | (simp only [go_sem]; omega)) only [go_sem, ↓reduceIte, String.reduceEq, String.reduceNe, reduceCtorEq, Int.reduceEq, Nat.reduceAdd, Nat.reduceSub, Nat.reduceMul, Nat.reduceLT, Nat.reduceLeDiff, Nat.reduceEqDiff, Nat.reduceBEq, Int.reduceToNat, Int.reduceLT, Int.reduceLE, Int.reduceGT, Int.reduceGE, Int.reduceAdd, Int.reduceSub, Int.reduceMul, Int.reduceNeg, Int.reduceBEq, Int.reduceBNe, Int.reducePow, Int.reduceDiv, Int.reduceMod, Int.reduceTDiv, Int.reduceTMod, Int.reduceNatCast]
    repeat (with_reducible refine And.intro (by first | assumption | omega | (simp; done) | (simp; omega)) ?_)
    refine toEnd hC ?_
    refine endX_seq ?_
    rcases iteB_some h with ⟨c2, h⟩ | ⟨c2, h⟩
    · refine runX_condT rfl c2 ?_
      refine runX_seq ?_
      refine runX_regionC fun C hC => ?_
      try simp -implicitDefEqProofs (maxSteps := 4000000) (disch := first | omega | decide | (simp only [go_sem]; omega)) only [go_sem, ↓reduceIte, String.reduceEq, String.reduceNe, reduceCtorEq, Int.reduceEq, Nat.reduceAdd, Nat.reduceSub, Nat.reduceMul, Nat.reduceLT, Nat.reduceLeDiff, Nat.reduceEqDiff, Nat.reduceBEq, Int.reduceToNat, Int.reduceLT, Int.reduceLE, Int.reduceGT, Int.reduceGE, Int.reduceAdd, Int.reduceSub, Int.reduceMul, Int.reduceNeg, Int.reduceBEq, Int.reduceBNe, Int.reducePow, Int.reduceDiv, Int.reduceMod, Int.reduceTDiv, Int.reduceTMod, Int.reduceNatCast]
      repeat (with_reducible refine And.intro (by first | assumption | omega | (simp; done) | (simp; omega)) ?_)
      refine toEnd hC ?_
      refine endX_seq ?_
      refine runX_ret ?_
      refine endX_seqR ?_
      refine endX_q ?_
      obtain rfl := Option.some.inj h
      show RetW _ _ _ _ _
      simp only [RetW]
      (try simp -implicitDefEqProofs (maxSteps := 4000000) (disch := first | omega | decide | (simp only [go_sem]; omega)) only [go_sem, ↓reduceIte, String.reduceEq, String.reduceNe, reduceCtorEq, Int.reduceEq, Nat.reduceAdd, Nat.reduceSub, Nat.reduceMul, Nat.reduceLT, Nat.reduceLeDiff, Nat.reduceEqDiff, Nat.reduceBEq, Int.reduceToNat, Int.reduceLT, Int.reduceLE, Int.reduceGT, Int.reduceGE, Int.reduceAdd, Int.reduceSub, Int.reduceMul, Int.reduceNeg, Int.reduceBEq, Int.reduceBNe, Int.reducePow, Int.reduceDiv, Int.reduceMod, Int.reduceTDiv, Int.reduceTMod, Int.reduceNatCast])
      first | exact leT_refl _ | (refine ⟨rfl, ?_⟩; first | exact leT_refl _ | exact leT_sl | exact leT_sln | exact leT_nil | (refine leT_tup (by repeat (first | exact leL_refl _ | refine leL_cons (by first | exact leT_refl _ | exact leT_virt | exact leT_junk _ | exact leT_sl | exact leT_sln | exact leT_nil) ?_))) | (refine leT_agg (by repeat (first | exact leL_refl _ | refine leL_cons (by first | exact leT_refl _ | exact leT_virt | exact leT_junk _ | exact leT_sl | exact leT_sln | exact leT_nil) ?_)))) | (first | exact leT_refl _ | exact leT_sl | exact leT_sln | exact leT_nil | (refine leT_tup (by repeat (first | exact leL_refl _ | refine leL_cons (by first | exact leT_refl _ | exact leT_virt | exact leT_junk _ | exact leT_sl | exact leT_sln | exact leT_nil) ?_))) | (refine leT_agg (by repeat (first | exact leL_refl _ | refine leL_cons (by first | exact leT_refl _ | exact leT_virt | exact leT_junk _ | exact leT_sl | exact leT_sln | exact leT_nil) ?_))))
    · refine runX_condF rfl c2 ?_
      refine runX_skip ?_
      refine endX_seq ?_
      refine runX_seq ?_
      refine runX_drawC mixed (by kernel_rfl) fun C hC => ?_
      obtain ⟨v3, h3, h⟩ := bnd_some h
      try simp -implicitDefEqProofs (maxSteps := 4000000) (disch := first | omega | decide | (simp only [go_sem]; omega)) only [go_sem, ↓reduceIte, String.reduceEq, String.reduceNe, reduceCtorEq, Int.reduceEq, Nat.reduceAdd, Nat.reduceSub, Nat.reduceMul, Nat.reduceLT, Nat.reduceLeDiff, Nat.reduceEqDiff, Nat.reduceBEq, Int.reduceToNat, Int.reduceLT, Int.reduceLE, Int.reduceGT, Int.reduceGE, Int.reduceAdd, Int.reduceSub, Int.reduceMul, Int.reduceNeg, Int.reduceBEq, Int.reduceBNe, Int.reducePow, Int.reduceDiv, Int.reduceMod, Int.reduceTDiv, Int.reduceTMod, Int.reduceNatCast]
      repeat (with_reducible refine And.intro (by first | assumption | omega | (simp; done) | (simp; omega)) ?_)
      refine callD_X (F53_ok n a0.1 (4 : Int) _ h3) (by repeat (first | exact leL_refl _ | refine leL_cons (by first | exact leT_refl _ | exact leT_virt | exact leT_junk _ | exact leT_sl | exact leT_sln | exact leT_nil) ?_)) ?_
      obtain ⟨v4, h4, h⟩ := bnd_some h
      try simp -implicitDefEqProofs (maxSteps := 4000000) (disch := first | omega | decide | (simp only [go_sem]; omega)) only [go_sem, ↓reduceIte, String.reduceEq, String.reduceNe, reduceCtorEq, Int.reduceEq, Nat.reduceAdd, Nat.reduceSub, Nat.reduceMul, Nat.reduceLT, Nat.reduceLeDiff, Nat.reduceEqDiff, Nat.reduceBEq, Int.reduceToNat, Int.reduceLT, Int.reduceLE, Int.reduceGT, Int.reduceGE, Int.reduceAdd, Int.reduceSub, Int.reduceMul, Int.reduceNeg, Int.reduceBEq, Int.reduceBNe, Int.reducePow, Int.reduceDiv, Int.reduceMod, Int.reduceTDiv, Int.reduceTMod, Int.reduceNatCast]
      repeat (with_reducible refine And.intro (by first | assumption | omega | (simp; done) | (simp; omega)) ?_)
      refine callD_X (F53_ok n a0.2.1 (2 : Int) _ h4) (by repeat (first | exact leL_refl _ | refine leL_cons (by first | exact leT_refl _ | exact leT_virt | exact leT_junk _ | exact leT_sl | exact leT_sln | exact leT_nil) ?_)) ?_
      obtain ⟨g5, h⟩ := grd_some h
      obtain ⟨v6, h6, h⟩ := bnd_some h
      try simp -implicitDefEqProofs (maxSteps := 4000000) (disch := first | omega | decide | (simp only [go_sem]; omega)) only [go_sem, ↓reduceIte, String.reduceEq, String.reduceNe, reduceCtorEq, Int.reduceEq, Nat.reduceAdd, Nat.reduceSub, Nat.reduceMul, Nat.reduceLT, Nat.reduceLeDiff, Nat.reduceEqDiff, Nat.reduceBEq, Int.reduceToNat, Int.reduceLT, Int.reduceLE, Int.reduceGT, Int.reduceGE, Int.reduceAdd, Int.reduceSub, Int.reduceMul, Int.reduceNeg, Int.reduceBEq, Int.reduceBNe, Int.reducePow, Int.reduceDiv, Int.reduceMod, Int.reduceTDiv, Int.reduceTMod, Int.reduceNatCast]
      repeat (with_reducible refine And.intro (by first | assumption | omega | (simp; done) | (simp; omega)) ?_)
      refine callD_X (F53_ok n a0.2.2.1 (2 : Int) _ h6) (by repeat (first | exact leL_refl _ | refine leL_cons (by first | exact leT_refl _ | exact leT_virt | exact leT_junk _ | exact leT_sl | exact leT_sln | exact leT_nil) ?_)) ?_
      obtain ⟨g7, h⟩ := grd_some h
      obtain ⟨g8, h⟩ := grd_some h
      obtain ⟨v9, h9, h⟩ := bnd_some h
      try simp -implicitDefEqProofs (maxSteps := 4000000) (disch := first | omega | decide | (simp only [go_sem]; omega)) only [go_sem, ↓reduceIte, String.reduceEq, String.reduceNe, reduceCtorEq, Int.reduceEq, Nat.reduceAdd, Nat.reduceSub, Nat.reduceMul, Nat.reduceLT, Nat.reduceLeDiff, Nat.reduceEqDiff, Nat.reduceBEq, Int.reduceToNat, Int.reduceLT, Int.reduceLE, Int.reduceGT, Int.reduceGE, Int.reduceAdd, Int.reduceSub, Int.reduceMul, Int.reduceNeg, Int.reduceBEq, Int.reduceBNe, Int.reducePow, Int.reduceDiv, Int.reduceMod, Int.reduceTDiv, Int.reduceTMod, Int.reduceNatCast]
      repeat (with_reducible refine And.intro (by first | assumption | omega | (simp; done) | (simp; omega)) ?_)
      refine callD_X (F53_ok n a0.2.2.2.1 (2 : Int) _ h9) (by repeat (first | exact leL_refl _ | refine leL_cons (by first | exact leT_refl _ | exact leT_virt | exact leT_junk _ | exact leT_sl | exact leT_sln | exact leT_nil) ?_)) ?_
      obtain ⟨g10, h⟩ := grd_some h
      obtain ⟨v11, h11, h⟩ := bnd_some h
      try simp -implicitDefEqProofs (maxSteps := 4000000) (disch := first | omega | decide | (simp only [go_sem]; omega)) only [go_sem, ↓reduceIte, String.reduceEq, String.reduceNe, reduceCtorEq, Int.reduceEq, Nat.reduceAdd, Nat.reduceSub, Nat.reduceMul, Nat.reduceLT, Nat.reduceLeDiff, Nat.reduceEqDiff, Nat.reduceBEq, Int.reduceToNat, Int.reduceLT, Int.reduceLE, Int.reduceGT, Int.reduceGE, Int.reduceAdd, Int.reduceSub, Int.reduceMul, Int.reduceNeg, Int.reduceBEq, Int.reduceBNe, Int.reducePow, Int.reduceDiv, Int.reduceMod, Int.reduceTDiv, Int.reduceTMod, Int.reduceNatCast]
      repeat (with_reducible refine And.intro (by first | assumption | omega | (simp; done) | (simp; omega)) ?_)
      refine callD_X (F53_ok n a0.2.2.2.2.1 (2 : Int) _ h11) (by repeat (first | exact leL_refl _ | refine leL_cons (by first | exact leT_refl _ | exact leT_virt | exact leT_junk _ | exact leT_sl | exact leT_sln | exact leT_nil) ?_)) ?_
      obtain ⟨g12, h⟩ := grd_some h
      obtain ⟨v13, h13, h⟩ := bnd_some h
      try simp -implicitDefEqProofs (maxSteps := 4000000) (disch := first | omega | decide | (simp only [go_sem]; omega)) only [go_sem, ↓reduceIte, String.reduceEq, String.reduceNe, reduceCtorEq, Int.reduceEq, Nat.reduceAdd, Nat.reduceSub, Nat.reduceMul, Nat.reduceLT, Nat.reduceLeDiff, Nat.reduceEqDiff, Nat.reduceBEq, Int.reduceToNat, Int.reduceLT, Int.reduceLE, Int.reduceGT, Int.reduceGE, Int.reduceAdd, Int.reduceSub, Int.reduceMul, Int.reduceNeg, Int.reduceBEq, Int.reduceBNe, Int.reducePow, Int.reduceDiv, Int.reduceMod, Int.reduceTDiv, Int.reduceTMod, Int.reduceNatCast]
      repeat (with_reducible refine And.intro (by first | assumption | omega | (simp; done) | (simp; omega)) ?_)
      refine callD_X (F53_ok n a0.2.2.2.2.2 (2 : Int) _ h13) (by repeat (first | exact leL_refl _ | refine leL_cons (by first | exact leT_refl _ | exact leT_virt | exact leT_junk _ | exact leT_sl | exact leT_sln | exact leT_nil) ?_)) ?_
      obtain ⟨g14, h⟩ := grd_some h
      obtain ⟨g15, h⟩ := grd_some h
      try simp -implicitDefEqProofs (maxSteps := 4000000) (disch := first | omega | decide | (simp only [go_sem]; omega)) only [go_sem, ↓reduceIte, String.reduceEq, String.reduceNe, reduceCtorEq, Int.reduceEq, Nat.reduceAdd, Nat.reduceSub, Nat.reduceMul, Nat.reduceLT, Nat.reduceLeDiff, Nat.reduceEqDiff, Nat.reduceBEq, Int.reduceToNat, Int.reduceLT, Int.reduceLE, Int.reduceGT, Int.reduceGE, Int.reduceAdd, Int.reduceSub, Int.reduceMul, Int.reduceNeg, Int.reduceBEq, Int.reduceBNe, Int.reducePow, Int.reduceDiv, Int.reduceMod, Int.reduceTDiv, Int.reduceTMod, Int.reduceNatCast]
      repeat (with_reducible refine And.intro (by first | assumption | omega | (simp; done) | (simp; omega)) ?_)
      refine toEnd hC ?_
      refine endX_seq ?_
      refine runX_ret ?_
      refine endX_q ?_
      obtain rfl := Option.some.inj h
      show RetW _ _ _ _ _
      simp only [RetW]
      (try simp -implicitDefEqProofs (maxSteps := 4000000) (disch := first | omega | decide | (simp only [go_sem]; omega)) only [go_sem, ↓reduceIte, String.reduceEq, String.reduceNe, reduceCtorEq, Int.reduceEq, Nat.reduceAdd, Nat.reduceSub, Nat.reduceMul, Nat.reduceLT, Nat.reduceLeDiff, Nat.reduceEqDiff, Nat.reduceBEq, Int.reduceToNat, Int.reduceLT, Int.reduceLE, Int.reduceGT, Int.reduceGE, Int.reduceAdd, Int.reduceSub, Int.reduceMul, Int.reduceNeg, Int.reduceBEq, Int.reduceBNe, Int.reducePow, Int.reduceDiv, Int.reduceMod, Int.reduceTDiv, Int.reduceTMod, Int.reduceNatCast])
      first | exact leT_refl _ | (refine ⟨rfl, ?_⟩; first | exact leT_refl _ | exact leT_sl | exact leT_sln | exact leT_nil | (refine leT_tup (by repeat (first | exact leL_refl _ | refine leL_cons (by first | exact leT_refl _ | exact leT_virt | exact leT_junk _ | exact leT_sl | exact leT_sln | exact leT_nil) ?_))) | (refine leT_agg (by repeat (first | exact leL_refl _ | refine leL_cons (by first | exact leT_refl _ | exact leT_virt | exact leT_junk _ | exact leT_sl | exact leT_sln | exact leT_nil) ?_)))) | (first | exact leT_refl _ | exact leT_sl | exact leT_sln | exact leT_nil | (refine leT_tup (by repeat (first | exact leL_refl _ | refine leL_cons (by first | exact leT_refl _ | exact leT_virt | exact leT_junk _ | exact leT_sl | exact leT_sln | exact leT_nil) ?_))) | (refine leT_agg (by repeat (first | exact leL_refl _ | refine leL_cons (by first | exact leT_refl _ | exact leT_virt | exact leT_junk _ | exact leT_sl | exact leT_sln | exact leT_nil) ?_))))
end Go.Proofs.YtdfghdppbfabfaaX
