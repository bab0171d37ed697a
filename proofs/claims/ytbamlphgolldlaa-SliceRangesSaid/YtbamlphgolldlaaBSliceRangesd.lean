/- Part of the proof of SliceRanges: walks and plain words, merged. -/
import Derived.Test.YtbamlphgolldlaaBSliceRangesc
import Derived.Test.YtbamlphgolldlaaBSliceRangesb
import Derived.Test.YtbamlphgolldlaaRows
import Derived.Test.YtbamlphgolldlaaChecked
import Derived.WalkKit
import Derived.ProofKit
import Derived.OpenShut
set_option linter.unusedVariables false
set_option linter.unusedSimpArgs false

set_option linter.unusedVariables false
set_option linter.unusedSimpArgs false
namespace Go.Proofs.YtbamlphgolldlaaX
open Go Go.RowKit Go.Proofs
set_option maxRecDepth 100000
attribute [local go_sem ↓] stepsK_build stepsK_build0
attribute [local go_sem] String.reduceEq String.reduceNe reduceCtorEq Int.reduceEq Nat.reduceAdd Nat.reduceSub Nat.reduceMul Nat.reduceLT Nat.reduceLeDiff Nat.reduceEqDiff Nat.reduceBEq Int.reduceToNat Int.reduceLT Int.reduceLE Int.reduceGT Int.reduceGE Int.reduceAdd Int.reduceSub Int.reduceMul Int.reduceNeg Int.reduceBEq Int.reduceBNe Int.reducePow Int.reduceDiv Int.reduceMod Int.reduceTDiv Int.reduceTMod Int.reduceNatCast
/-! ### shadowboxref32.Range -/
def F18_S3 (x2 : Int) (x21 : Int) : St := ⟨[.junk, .imm (.int .i64 x2), .junk, .junk, .junk, .junk, .junk, .junk, .junk, .junk, .junk, .imm (.int .i64 x21), .junk, .junk, .junk, .junk, .junk, .junk, .junk, .junk, .junk, .junk, .junk, .junk, .junk, .junk, .junk, .junk, .junk, .junk, .junk, .junk, .junk, .junk, .junk, .junk, .junk, .junk, .junk, .junk, .junk, .junk, .junk, .junk, .junk, .junk, .junk, .junk, .junk, .junk, .junk, .junk, .junk, .junk, .junk, .junk, .junk, .junk, .junk, .junk, .junk, .junk, .junk, .junk, .junk, .junk, .junk, .junk, .junk, .junk, .junk, .junk, .junk, .junk, .junk, .junk, .junk, .junk, .junk, .junk, .junk, .junk, .junk, .junk, .junk, .junk, .junk, .junk, .junk, .junk, .junk, .junk, .junk, .junk, .junk, .junk, .junk, .junk, .junk, .junk, .junk, .junk, .junk, .junk, .junk, .junk, .junk, .junk, .junk, .junk, .junk, .junk, .junk], []⟩
def F18_S4 (x2 : Int) (x52 : Int) : St := ⟨[.junk, .imm (.int .i64 x2), .junk, .junk, .junk, .junk, .junk, .junk, .junk, .junk, .junk, .imm (.int .i64 x52), .junk, .junk, .junk, .junk, .junk, .junk, .junk, .junk, .junk, .junk, .junk, .junk, .junk, .junk, .junk, .junk, .junk, .junk, .junk, .junk, .junk, .junk, .junk, .junk, .junk, .junk, .junk, .junk, .junk, .junk, .junk, .junk, .junk, .junk, .junk, .junk, .junk, .junk, .junk, .junk, .junk, .junk, .junk, .junk, .junk, .junk, .junk, .junk, .junk, .junk, .junk, .junk, .junk, .junk, .junk, .junk, .junk, .junk, .junk, .junk, .junk, .junk, .junk, .junk, .junk, .junk, .junk, .junk, .junk, .junk, .junk, .junk, .junk, .junk, .junk, .junk, .junk, .junk, .junk, .junk, .junk, .junk, .junk, .junk, .junk, .junk, .junk, .junk, .junk, .junk, .junk, .junk, .junk, .junk, .junk, .junk, .junk, .junk, .junk, .junk, .junk], []⟩
def F18_S2 (a0 : List UInt8) (x2 : Int) (x7 : Int) : St := ⟨[.imm (.string (bs (a0.drop 6))), .imm (.int .i64 x2), .junk, .junk, .junk, .junk, .junk, .junk, .imm (.int .i64 x7), .junk, .junk, .junk, .junk, .junk, .junk, .junk, .junk, .junk, .junk, .junk, .junk, .junk, .junk, .junk, .junk, .junk, .junk, .junk, .junk, .junk, .junk, .junk, .junk, .junk, .junk, .junk, .junk, .junk, .junk, .junk, .junk, .junk, .junk, .junk, .junk, .junk, .junk, .junk, .junk, .junk, .junk, .junk, .junk, .junk, .junk, .junk, .junk, .junk, .junk, .junk, .junk, .junk, .junk, .junk, .junk, .junk, .junk, .junk, .junk, .junk, .junk, .junk, .junk, .junk, .junk, .junk, .junk, .junk, .junk, .junk, .junk, .junk, .junk, .junk, .junk, .junk, .junk, .junk, .junk, .junk, .junk, .junk, .junk, .junk, .junk, .junk, .junk, .junk, .junk, .junk, .junk, .junk, .junk, .junk, .junk, .junk, .junk, .junk, .junk, .junk, .junk, .junk, .junk], []⟩
def F18_S1 (a0 : List UInt8) (x2 : Int) : St := ⟨[.imm (.string (bs a0)), .imm (.int .i64 x2), .junk, .junk, .junk, .junk, .junk, .junk, .junk, .junk, .junk, .junk, .junk, .junk, .junk, .junk, .junk, .junk, .junk, .junk, .junk, .junk, .junk, .junk, .junk, .junk, .junk, .junk, .junk, .junk, .junk, .junk, .junk, .junk, .junk, .junk, .junk, .junk, .junk, .junk, .junk, .junk, .junk, .junk, .junk, .junk, .junk, .junk, .junk, .junk, .junk, .junk, .junk, .junk, .junk, .junk, .junk, .junk, .junk, .junk, .junk, .junk, .junk, .junk, .junk, .junk, .junk, .junk, .junk, .junk, .junk, .junk, .junk, .junk, .junk, .junk, .junk, .junk, .junk, .junk, .junk, .junk, .junk, .junk, .junk, .junk, .junk, .junk, .junk, .junk, .junk, .junk, .junk, .junk, .junk, .junk, .junk, .junk, .junk, .junk, .junk, .junk, .junk, .junk, .junk, .junk, .junk, .junk, .junk, .junk, .junk, .junk, .junk], []⟩
mutual
def F18_J3 (m2 : Nat) (x2 : Int) (x21 : Int) : Option ((Int) × (Int) × (Bool) × (Int)) := some ((IntKind.wrap .i64 (x2 - x21)), x2, true, (0 : Int))
def F18_J4 (m2 : Nat) (x2 : Int) (x52 : Int) : Option ((Int) × (Int) × (Bool) × (Int)) := some ((IntKind.wrap .i64 (x2 - x52)), x2, true, (0 : Int))
def F18_L2 : Nat → (List UInt8) → (Int) → (Int) → Option ((Int) × (Int) × (Bool) × (Int))
  | 0, _, _, _ => none
  | m2 + 1, a0, x2, x7 => iteB (decide (x7 < ((a0.drop 6).length : Int))) (grd (0 ≤ x7 ∧ x7 < ((a0.drop 6).length : Int)) (iteB ((((a0.drop 6).getD x7.toNat 0).toNat : Int) != (45 : Int)) (F18_L2 m2 a0 x2 (IntKind.wrap .i64 (x7 + (1 : Int)))) (iteB (x7 == ((a0.drop 6).length : Int)) (some ((0 : Int), x2, false, (0 : Int))) (grd (0 ≤ x7 ∧ x7 ≤ ((a0.drop 6).length : Int)) ((F55 m2 ((a0.drop 6).take x7.toNat)).bind fun v13 => grd (0 ≤ (IntKind.wrap .i64 (x7 + (1 : Int))) ∧ (IntKind.wrap .i64 (x7 + (1 : Int))) ≤ ((a0.drop 6).length : Int)) ((F55 m2 ((a0.drop 6).drop (IntKind.wrap .i64 (x7 + (1 : Int))).toNat)).bind fun v15 => iteB (x7 == (0 : Int)) (iteB v15.2 (iteB (v15.1 == (0 : Int)) (some ((0 : Int), (0 : Int), false, (20 : Int))) (iteB (x2 == (0 : Int)) (some ((0 : Int), (0 : Int), false, (20 : Int))) (iteB (decide (x2 < v15.1)) (F18_J3 m2 x2 x2) (F18_J3 m2 x2 v15.1)))) (iteB (!v13.2) (some ((0 : Int), x2, false, (0 : Int))) (iteB (!((IntKind.wrap .i64 (x7 + (1 : Int))) == ((a0.drop 6).length : Int))) (iteB (!v15.2) (some ((0 : Int), x2, false, (0 : Int))) (iteB (decide (v15.1 < v13.1)) (some ((0 : Int), x2, false, (0 : Int))) (iteB (decide (x2 ≤ v13.1)) (some ((0 : Int), (0 : Int), false, (20 : Int))) (iteB ((IntKind.wrap .i64 (x7 + (1 : Int))) == ((a0.drop 6).length : Int)) (some (v13.1, x2, true, (0 : Int))) (iteB (decide (x2 ≤ v15.1)) (some (v13.1, x2, true, (0 : Int))) (some (v13.1, (IntKind.wrap .i64 (v15.1 + (1 : Int))), true, (0 : Int)))))))) (iteB (decide (x2 ≤ v13.1)) (some ((0 : Int), (0 : Int), false, (20 : Int))) (iteB ((IntKind.wrap .i64 (x7 + (1 : Int))) == ((a0.drop 6).length : Int)) (some (v13.1, x2, true, (0 : Int))) (iteB (decide (x2 ≤ v15.1)) (some (v13.1, x2, true, (0 : Int))) (some (v13.1, (IntKind.wrap .i64 (v15.1 + (1 : Int))), true, (0 : Int))))))))) (iteB (!v13.2) (some ((0 : Int), x2, false, (0 : Int))) (iteB (!((IntKind.wrap .i64 (x7 + (1 : Int))) == ((a0.drop 6).length : Int))) (iteB (!v15.2) (some ((0 : Int), x2, false, (0 : Int))) (iteB (decide (v15.1 < v13.1)) (some ((0 : Int), x2, false, (0 : Int))) (iteB (decide (x2 ≤ v13.1)) (some ((0 : Int), (0 : Int), false, (20 : Int))) (iteB ((IntKind.wrap .i64 (x7 + (1 : Int))) == ((a0.drop 6).length : Int)) (some (v13.1, x2, true, (0 : Int))) (iteB (decide (x2 ≤ v15.1)) (some (v13.1, x2, true, (0 : Int))) (some (v13.1, (IntKind.wrap .i64 (v15.1 + (1 : Int))), true, (0 : Int)))))))) (iteB (decide (x2 ≤ v13.1)) (some ((0 : Int), (0 : Int), false, (20 : Int))) (iteB ((IntKind.wrap .i64 (x7 + (1 : Int))) == ((a0.drop 6).length : Int)) (some (v13.1, x2, true, (0 : Int))) (iteB (decide (x2 ≤ v15.1)) (some (v13.1, x2, true, (0 : Int))) (some (v13.1, (IntKind.wrap .i64 (v15.1 + (1 : Int))), true, (0 : Int)))))))))))))) (iteB (x7 == ((a0.drop 6).length : Int)) (some ((0 : Int), x2, false, (0 : Int))) (grd (0 ≤ x7 ∧ x7 ≤ ((a0.drop 6).length : Int)) ((F55 m2 ((a0.drop 6).take x7.toNat)).bind fun v44 => grd (0 ≤ (IntKind.wrap .i64 (x7 + (1 : Int))) ∧ (IntKind.wrap .i64 (x7 + (1 : Int))) ≤ ((a0.drop 6).length : Int)) ((F55 m2 ((a0.drop 6).drop (IntKind.wrap .i64 (x7 + (1 : Int))).toNat)).bind fun v46 => iteB (x7 == (0 : Int)) (iteB v46.2 (iteB (v46.1 == (0 : Int)) (some ((0 : Int), (0 : Int), false, (20 : Int))) (iteB (x2 == (0 : Int)) (some ((0 : Int), (0 : Int), false, (20 : Int))) (iteB (decide (x2 < v46.1)) (F18_J4 m2 x2 x2) (F18_J4 m2 x2 v46.1)))) (iteB (!v44.2) (some ((0 : Int), x2, false, (0 : Int))) (iteB (!((IntKind.wrap .i64 (x7 + (1 : Int))) == ((a0.drop 6).length : Int))) (iteB (!v46.2) (some ((0 : Int), x2, false, (0 : Int))) (iteB (decide (v46.1 < v44.1)) (some ((0 : Int), x2, false, (0 : Int))) (iteB (decide (x2 ≤ v44.1)) (some ((0 : Int), (0 : Int), false, (20 : Int))) (iteB ((IntKind.wrap .i64 (x7 + (1 : Int))) == ((a0.drop 6).length : Int)) (some (v44.1, x2, true, (0 : Int))) (iteB (decide (x2 ≤ v46.1)) (some (v44.1, x2, true, (0 : Int))) (some (v44.1, (IntKind.wrap .i64 (v46.1 + (1 : Int))), true, (0 : Int)))))))) (iteB (decide (x2 ≤ v44.1)) (some ((0 : Int), (0 : Int), false, (20 : Int))) (iteB ((IntKind.wrap .i64 (x7 + (1 : Int))) == ((a0.drop 6).length : Int)) (some (v44.1, x2, true, (0 : Int))) (iteB (decide (x2 ≤ v46.1)) (some (v44.1, x2, true, (0 : Int))) (some (v44.1, (IntKind.wrap .i64 (v46.1 + (1 : Int))), true, (0 : Int))))))))) (iteB (!v44.2) (some ((0 : Int), x2, false, (0 : Int))) (iteB (!((IntKind.wrap .i64 (x7 + (1 : Int))) == ((a0.drop 6).length : Int))) (iteB (!v46.2) (some ((0 : Int), x2, false, (0 : Int))) (iteB (decide (v46.1 < v44.1)) (some ((0 : Int), x2, false, (0 : Int))) (iteB (decide (x2 ≤ v44.1)) (some ((0 : Int), (0 : Int), false, (20 : Int))) (iteB ((IntKind.wrap .i64 (x7 + (1 : Int))) == ((a0.drop 6).length : Int)) (some (v44.1, x2, true, (0 : Int))) (iteB (decide (x2 ≤ v46.1)) (some (v44.1, x2, true, (0 : Int))) (some (v44.1, (IntKind.wrap .i64 (v46.1 + (1 : Int))), true, (0 : Int)))))))) (iteB (decide (x2 ≤ v44.1)) (some ((0 : Int), (0 : Int), false, (20 : Int))) (iteB ((IntKind.wrap .i64 (x7 + (1 : Int))) == ((a0.drop 6).length : Int)) (some (v44.1, x2, true, (0 : Int))) (iteB (decide (x2 ≤ v46.1)) (some (v44.1, x2, true, (0 : Int))) (some (v44.1, (IntKind.wrap .i64 (v46.1 + (1 : Int))), true, (0 : Int))))))))))))
def F18_J1 (n : Nat) (a0 : List UInt8) (x2 : Int) : Option ((Int) × (Int) × (Bool) × (Int)) := iteB (decide ((a0.length : Int) < (6 : Int))) (some ((0 : Int), x2, false, (0 : Int))) (grd ((6 : Int) ≤ (a0.length : Int)) (iteB (!((a0.take 6) == ([98, 121, 116, 101, 115, 61] : List UInt8))) (some ((0 : Int), x2, false, (0 : Int))) (grd ((6 : Int) ≤ (a0.length : Int)) (F18_L2 n a0 x2 (0 : Int)))))
end
def F18 (n : Nat) (a0 : List UInt8) (a1 : Int) : Option ((Int) × (Int) × (Bool) × (Int)) := iteB (decide (a1 < (0 : Int))) (F18_J1 n a0 (0 : Int)) (F18_J1 n a0 a1)
set_option maxHeartbeats 4000000 in
theorem F18_ok : ∀ (n : Nat) (a0 : List UInt8) (a1 : Int) (r : (Int) × (Int) × (Bool) × (Int)), F18 n a0 a1 = some r → FnC Try.prog 18 [.imm (.string (bs a0)), .imm (.int .i64 a1)] (.tup [.imm (.int .i64 r.1), .imm (.int .i64 r.2.1), .imm (.bool r.2.2.1), .imm (.int .i64 r.2.2.2)])
  | n, a0, a1, r, h => by
    unfold F18 at h
    refine FnC.goX mixed Try.func18 (by kernel_rfl) rfl ?_
    simp only [Try.ntmps18, List.length_cons, List.length_nil, List.replicate, List.cons_append, List.nil_append, Nat.reduceAdd, Nat.reduceSub]
    refine runX_seq ?_
    refine runX_regionC fun C hC => ?_
    try simp -implicitDefEqProofs (maxSteps := 4000000) (disch := first | omega | decide | (simp only [go_sem]; omega)) only [go_sem, ↓reduceIte]
    repeat (with_reducible refine And.intro (by first | assumption | omega | (simp; done) | (simp; omega)) ?_)
    refine toEnd hC ?_
    refine endX_seq ?_
    refine runX_meet [0, 1] (fun S => ∃ (x2 : Int), S = F18_S1 a0 x2 ∧ F18_J1 n a0 x2 = some r) ?_ ?_
    · refine runX_seq ?_
      refine runX_regionC fun C hC => ?_
      try simp -implicitDefEqProofs (maxSteps := 4000000) (disch := first | omega | decide | (simp only [go_sem]; omega)) only [go_sem, ↓reduceIte]
      repeat (with_reducible refine And.intro (by first | assumption | omega | (simp; done) | (simp; omega)) ?_)
      refine toEnd hC ?_
      refine endX_seq ?_
      rcases iteB_some h with ⟨c1, h⟩ | ⟨c1, h⟩
      · refine runX_condT rfl c1 ?_
        refine runX_regionC fun C hC => ?_
        try simp -implicitDefEqProofs (maxSteps := 4000000) (disch := first | omega | decide | (simp only [go_sem]; omega)) only [go_sem, ↓reduceIte]
        repeat (with_reducible refine And.intro (by first | assumption | omega | (simp; done) | (simp; omega)) ?_)
        refine toEnd hC ?_
        refine endX_q (meetQ_normal ⟨F18_S1 a0 (0 : Int), ?_, (0 : Int), rfl, h⟩)
        simp only [F18_S1]
        (try simp -implicitDefEqProofs (maxSteps := 4000000) (disch := first | omega | decide | (simp only [go_sem]; omega)) only [go_sem, ↓reduceIte])
        first | exact leS_refl _ | (refine leS_le ?_ ?_ <;> first | exact leL_refl _ | exact leOs_refl _ | (repeat (first | exact leL_refl _ | refine leL_cons (by first | exact leT_refl _ | exact leT_virt | exact leT_junk _ | exact leT_sl | exact leT_sln | exact leT_nil) ?_)))
      · refine runX_condF rfl c1 ?_
        refine runX_skip ?_
        refine endX_q (meetQ_normal ⟨F18_S1 a0 a1, ?_, a1, rfl, h⟩)
        simp only [F18_S1]
        (try simp -implicitDefEqProofs (maxSteps := 4000000) (disch := first | omega | decide | (simp only [go_sem]; omega)) only [go_sem, ↓reduceIte])
        first | exact leS_refl _ | (refine leS_le ?_ ?_ <;> first | exact leL_refl _ | exact leOs_refl _ | (repeat (first | exact leL_refl _ | refine leL_cons (by first | exact leT_refl _ | exact leT_virt | exact leT_junk _ | exact leT_sl | exact leT_sln | exact leT_nil) ?_)))
    · clear h
      rintro S ⟨x2, rfl, h⟩
      rw [F18_J1] at h
      simp only [F18_S1]
      refine runX_seq ?_
      refine runX_seq ?_
      refine runX_regionC fun C hC => ?_
      try simp -implicitDefEqProofs (maxSteps := 4000000) (disch := first | omega | decide | (simp only [go_sem]; omega)) only [go_sem, ↓reduceIte]
      repeat (with_reducible refine And.intro (by first | assumption | omega | (simp; done) | (simp; omega)) ?_)
      rcases iteB_some h with ⟨c3, h⟩ | ⟨c3, h⟩
      · refine guardK_F c3 ?_
        try simp -implicitDefEqProofs (maxSteps := 4000000) (disch := first | omega | decide | (simp only [go_sem]; omega)) only [go_sem, ↓reduceIte]
        repeat (with_reducible refine And.intro (by first | assumption | omega | (simp; done) | (simp; omega)) ?_)
        refine toEnd hC ?_
        refine endX_seq ?_
        refine runX_condT rfl rfl ?_
        refine runX_seq ?_
        refine runX_regionC fun C hC => ?_
        try simp -implicitDefEqProofs (maxSteps := 4000000) (disch := first | omega | decide | (simp only [go_sem]; omega)) only [go_sem, ↓reduceIte]
        repeat (with_reducible refine And.intro (by first | assumption | omega | (simp; done) | (simp; omega)) ?_)
        refine toEnd hC ?_
        refine endX_seq ?_
        refine runX_ret ?_
        refine endX_seqR ?_
        refine endX_q ?_
        obtain rfl := Option.some.inj h
        show RetW _ _ _ _ _
        simp only [RetW]
        (try simp -implicitDefEqProofs (maxSteps := 4000000) (disch := first | omega | decide | (simp only [go_sem]; omega)) only [go_sem, ↓reduceIte])
        (try simp (disch := omega) only [if_pos, Nat.sub_zero])
        exact leT_refl _
      · refine guardK_T c3 ?_
        obtain ⟨g4, h⟩ := grd_some h
        try simp -implicitDefEqProofs (maxSteps := 4000000) (disch := first | omega | decide | (simp only [go_sem]; omega)) only [go_sem, ↓reduceIte]
        repeat (with_reducible refine And.intro (by first | assumption | omega | (simp; done) | (simp; omega)) ?_)
        refine toEnd hC ?_
        refine endX_seq ?_
        rcases iteB_some h with ⟨c5, h⟩ | ⟨c5, h⟩
        · refine runX_condT rfl c5 ?_
          refine runX_seq ?_
          refine runX_regionC fun C hC => ?_
          try simp -implicitDefEqProofs (maxSteps := 4000000) (disch := first | omega | decide | (simp only [go_sem]; omega)) only [go_sem, ↓reduceIte]
          repeat (with_reducible refine And.intro (by first | assumption | omega | (simp; done) | (simp; omega)) ?_)
          refine toEnd hC ?_
          refine endX_seq ?_
          refine runX_ret ?_
          refine endX_seqR ?_
          refine endX_q ?_
          obtain rfl := Option.some.inj h
          show RetW _ _ _ _ _
          simp only [RetW]
          (try simp -implicitDefEqProofs (maxSteps := 4000000) (disch := first | omega | decide | (simp only [go_sem]; omega)) only [go_sem, ↓reduceIte])
          (try simp (disch := omega) only [if_pos, Nat.sub_zero])
          exact leT_refl _
        · refine runX_condF rfl c5 ?_
          refine runX_skip ?_
          refine endX_seq ?_
          refine runX_seq ?_
          refine runX_regionC fun C hC => ?_
          obtain ⟨g6, h⟩ := grd_some h
          try simp -implicitDefEqProofs (maxSteps := 4000000) (disch := first | omega | decide | (simp only [go_sem]; omega)) only [go_sem, ↓reduceIte]
          repeat (with_reducible refine And.intro (by first | assumption | omega | (simp; done) | (simp; omega)) ?_)
          refine toEnd hC ?_
          refine endX_seq ?_
          refine runX_seq ?_
          refine runX_regionC fun C hC => ?_
          try simp -implicitDefEqProofs (maxSteps := 4000000) (disch := first | omega | decide | (simp only [go_sem]; omega)) only [go_sem, ↓reduceIte]
          repeat (with_reducible refine And.intro (by first | assumption | omega | (simp; done) | (simp; omega)) ?_)
          refine toEnd hC ?_
          refine endX_seq ?_
          refine runX_seq ?_
          refine runX_block ?_
          refine runX_loop [0, 1, 8] (fun m S => ∃ (x7 : Int), S = F18_S2 a0 x2 x7 ∧ m ≤ n ∧ F18_L2 m a0 x2 x7 = some r) n ⟨F18_S2 a0 x2 (0 : Int), ?_, (0 : Int), rfl, Nat.le_refl _, h⟩ ?_
          · simp only [F18_S2]
            (try simp -implicitDefEqProofs (maxSteps := 4000000) (disch := first | omega | decide | (simp only [go_sem]; omega)) only [go_sem, ↓reduceIte])
            first | exact leS_refl _ | (refine leS_le ?_ ?_ <;> first | exact leL_refl _ | exact leOs_refl _ | (repeat (first | exact leL_refl _ | refine leL_cons (by first | exact leT_refl _ | exact leT_virt | exact leT_junk _ | exact leT_sl | exact leT_sln | exact leT_nil) ?_)))
          · clear h
            rintro m2 S ⟨x7, rfl, hm2, h⟩
            cases m2 with
            | zero => first | cases (show (none : Option _) = some _ from h) | (rw [F18_L2] at h; cases h)
            | succ m2 =>
              rw [F18_L2] at h
              simp only [F18_S2]
              refine runX_seq ?_
              refine runX_seq ?_
              refine runX_regionC fun C hC => ?_
              try simp -implicitDefEqProofs (maxSteps := 4000000) (disch := first | omega | decide | (simp only [go_sem]; omega)) only [go_sem, ↓reduceIte]
              repeat (with_reducible refine And.intro (by first | assumption | omega | (simp; done) | (simp; omega)) ?_)
              rcases iteB_some h with ⟨c8, h⟩ | ⟨c8, h⟩
              · refine guardK_T c8 ?_
                obtain ⟨g9, h⟩ := grd_some h
                try simp -implicitDefEqProofs (maxSteps := 4000000) (disch := first | omega | decide | (simp only [go_sem]; omega)) only [go_sem, ↓reduceIte]
                repeat (with_reducible refine And.intro (by first | assumption | omega | (simp; done) | (simp; omega)) ?_)
                refine toEnd hC ?_
                refine endX_seq ?_
                rcases iteB_some h with ⟨c10, h⟩ | ⟨c10, h⟩
                · refine runX_condT rfl c10 ?_
                  refine runX_skip ?_
                  refine endX_seq ?_
                  refine runX_block ?_
                  refine runX_regionC fun C hC => ?_
                  try simp -implicitDefEqProofs (maxSteps := 4000000) (disch := first | omega | decide | (simp only [go_sem]; omega)) only [go_sem, ↓reduceIte]
                  repeat (with_reducible refine And.intro (by first | assumption | omega | (simp; done) | (simp; omega)) ?_)
                  refine toEnd hC ?_
                  refine endX_blk ?_
                  refine endX_q (roundQ_normal ⟨m2, by omega, F18_S2 a0 x2 (IntKind.wrap .i64 (x7 + (1 : Int))), ?_, (IntKind.wrap .i64 (x7 + (1 : Int))), rfl, by omega, h⟩)
                  simp only [F18_S2]
                  (try simp -implicitDefEqProofs (maxSteps := 4000000) (disch := first | omega | decide | (simp only [go_sem]; omega)) only [go_sem, ↓reduceIte])
                  first | exact leS_refl _ | (refine leS_le ?_ ?_ <;> first | exact leL_refl _ | exact leOs_refl _ | (repeat (first | exact leL_refl _ | refine leL_cons (by first | exact leT_refl _ | exact leT_virt | exact leT_junk _ | exact leT_sl | exact leT_sln | exact leT_nil) ?_)))
                · refine runX_condF rfl c10 ?_
                  refine runX_exit ?_
                  refine endX_seqE ?_
                  refine endX_q (roundQ_exit ?_)
                  refine endX_blkE ?_
                  refine endX_seq ?_
                  refine runX_seq ?_
                  refine runX_seq ?_
                  refine runX_regionC fun C hC => ?_
                  try simp -implicitDefEqProofs (maxSteps := 4000000) (disch := first | omega | decide | (simp only [go_sem]; omega)) only [go_sem, ↓reduceIte]
                  repeat (with_reducible refine And.intro (by first | assumption | omega | (simp; done) | (simp; omega)) ?_)
                  refine toEnd hC ?_
                  refine endX_seq ?_
                  rcases iteB_some h with ⟨c11, h⟩ | ⟨c11, h⟩
                  · refine runX_condT rfl c11 ?_
                    refine runX_seq ?_
                    refine runX_regionC fun C hC => ?_
                    try simp -implicitDefEqProofs (maxSteps := 4000000) (disch := first | omega | decide | (simp only [go_sem]; omega)) only [go_sem, ↓reduceIte]
                    repeat (with_reducible refine And.intro (by first | assumption | omega | (simp; done) | (simp; omega)) ?_)
                    refine toEnd hC ?_
                    refine endX_seq ?_
                    refine runX_ret ?_
                    refine endX_seqR ?_
                    refine endX_q ?_
                    obtain rfl := Option.some.inj h
                    show RetW _ _ _ _ _
                    simp only [RetW]
                    (try simp -implicitDefEqProofs (maxSteps := 4000000) (disch := first | omega | decide | (simp only [go_sem]; omega)) only [go_sem, ↓reduceIte])
                    (try simp (disch := omega) only [if_pos, Nat.sub_zero])
                    exact leT_refl _
                  · refine runX_condF rfl c11 ?_
                    refine runX_skip ?_
                    refine endX_seq ?_
                    refine runX_seq ?_
                    refine runX_regionC fun C hC => ?_
                    obtain ⟨g12, h⟩ := grd_some h
                    obtain ⟨v13, h13, h⟩ := bnd_some h
                    try simp -implicitDefEqProofs (maxSteps := 4000000) (disch := first | omega | decide | (simp only [go_sem]; omega)) only [go_sem, ↓reduceIte]
                    repeat (with_reducible refine And.intro (by first | assumption | omega | (simp; done) | (simp; omega)) ?_)
                    refine callG_X (F55_ok m2 ((a0.drop 6).take x7.toNat) _ h13) (by repeat (first | exact leL_refl _ | refine leL_cons (by first | exact leT_refl _ | exact leT_virt | exact leT_junk _ | exact leT_sl | exact leT_sln | exact leT_nil) ?_)) ?_
                    try simp -implicitDefEqProofs (maxSteps := 4000000) (disch := first | omega | decide | (simp only [go_sem]; omega)) only [go_sem, ↓reduceIte]
                    repeat (with_reducible refine And.intro (by first | assumption | omega | (simp; done) | (simp; omega)) ?_)
                    refine toEnd hC ?_
                    refine endX_seq ?_
                    refine runX_seq ?_
                    refine runX_regionC fun C hC => ?_
                    obtain ⟨g14, h⟩ := grd_some h
                    obtain ⟨v15, h15, h⟩ := bnd_some h
                    try simp -implicitDefEqProofs (maxSteps := 4000000) (disch := first | omega | decide | (simp only [go_sem]; omega)) only [go_sem, ↓reduceIte]
                    repeat (with_reducible refine And.intro (by first | assumption | omega | (simp; done) | (simp; omega)) ?_)
                    refine callG_X (F55_ok m2 ((a0.drop 6).drop (IntKind.wrap .i64 (x7 + (1 : Int))).toNat) _ h15) (by repeat (first | exact leL_refl _ | refine leL_cons (by first | exact leT_refl _ | exact leT_virt | exact leT_junk _ | exact leT_sl | exact leT_sln | exact leT_nil) ?_)) ?_
                    try simp -implicitDefEqProofs (maxSteps := 4000000) (disch := first | omega | decide | (simp only [go_sem]; omega)) only [go_sem, ↓reduceIte]
                    repeat (with_reducible refine And.intro (by first | assumption | omega | (simp; done) | (simp; omega)) ?_)
                    refine toEnd hC ?_
                    refine endX_seq ?_
                    refine runX_seq ?_
                    refine runX_seq ?_
                    refine runX_regionC fun C hC => ?_
                    try simp -implicitDefEqProofs (maxSteps := 4000000) (disch := first | omega | decide | (simp only [go_sem]; omega)) only [go_sem, ↓reduceIte]
                    repeat (with_reducible refine And.intro (by first | assumption | omega | (simp; done) | (simp; omega)) ?_)
                    rcases iteB_some h with ⟨c16, h⟩ | ⟨c16, h⟩
                    · refine guardK_T c16 ?_
                      try simp -implicitDefEqProofs (maxSteps := 4000000) (disch := first | omega | decide | (simp only [go_sem]; omega)) only [go_sem, ↓reduceIte]
                      repeat (with_reducible refine And.intro (by first | assumption | omega | (simp; done) | (simp; omega)) ?_)
                      refine toEnd hC ?_
                      refine endX_seq ?_
                      rcases iteB_some h with ⟨c17, h⟩ | ⟨c17, h⟩
                      · refine runX_condT rfl c17 ?_
                        refine runX_seq ?_
                        refine runX_seq ?_
                        refine runX_regionC fun C hC => ?_
                        try simp -implicitDefEqProofs (maxSteps := 4000000) (disch := first | omega | decide | (simp only [go_sem]; omega)) only [go_sem, ↓reduceIte]
                        repeat (with_reducible refine And.intro (by first | assumption | omega | (simp; done) | (simp; omega)) ?_)
                        rcases iteB_some h with ⟨c18, h⟩ | ⟨c18, h⟩
                        · refine guardK_F c18 ?_
                          try simp -implicitDefEqProofs (maxSteps := 4000000) (disch := first | omega | decide | (simp only [go_sem]; omega)) only [go_sem, ↓reduceIte]
                          repeat (with_reducible refine And.intro (by first | assumption | omega | (simp; done) | (simp; omega)) ?_)
                          refine toEnd hC ?_
                          refine endX_seq ?_
                          refine runX_condT rfl rfl ?_
                          refine runX_seq ?_
                          refine runX_regionC fun C hC => ?_
                          try simp -implicitDefEqProofs (maxSteps := 4000000) (disch := first | omega | decide | (simp only [go_sem]; omega)) only [go_sem, ↓reduceIte]
                          repeat (with_reducible refine And.intro (by first | assumption | omega | (simp; done) | (simp; omega)) ?_)
                          refine toEnd hC ?_
                          refine endX_seq ?_
                          refine runX_ret ?_
                          refine endX_seqR ?_
                          refine endX_seqR ?_
                          refine endX_q ?_
                          obtain rfl := Option.some.inj h
                          show RetW _ _ _ _ _
                          simp only [RetW]
                          (try simp -implicitDefEqProofs (maxSteps := 4000000) (disch := first | omega | decide | (simp only [go_sem]; omega)) only [go_sem, ↓reduceIte])
                          (try simp (disch := omega) only [if_pos, Nat.sub_zero])
                          exact leT_refl _
                        · refine guardK_T c18 ?_
                          try simp -implicitDefEqProofs (maxSteps := 4000000) (disch := first | omega | decide | (simp only [go_sem]; omega)) only [go_sem, ↓reduceIte]
                          repeat (with_reducible refine And.intro (by first | assumption | omega | (simp; done) | (simp; omega)) ?_)
                          refine toEnd hC ?_
                          refine endX_seq ?_
                          rcases iteB_some h with ⟨c19, h⟩ | ⟨c19, h⟩
                          · refine runX_condT rfl c19 ?_
                            refine runX_seq ?_
                            refine runX_regionC fun C hC => ?_
                            try simp -implicitDefEqProofs (maxSteps := 4000000) (disch := first | omega | decide | (simp only [go_sem]; omega)) only [go_sem, ↓reduceIte]
                            repeat (with_reducible refine And.intro (by first | assumption | omega | (simp; done) | (simp; omega)) ?_)
                            refine toEnd hC ?_
                            refine endX_seq ?_
                            refine runX_ret ?_
                            refine endX_seqR ?_
                            refine endX_seqR ?_
                            refine endX_q ?_
                            obtain rfl := Option.some.inj h
                            show RetW _ _ _ _ _
                            simp only [RetW]
                            (try simp -implicitDefEqProofs (maxSteps := 4000000) (disch := first | omega | decide | (simp only [go_sem]; omega)) only [go_sem, ↓reduceIte])
                            (try simp (disch := omega) only [if_pos, Nat.sub_zero])
                            exact leT_refl _
                          · refine runX_condF rfl c19 ?_
                            refine runX_skip ?_
                            refine endX_seq ?_
                            refine runX_meet [1, 11] (fun S => ∃ (x21 : Int), S = F18_S3 x2 x21 ∧ F18_J3 m2 x2 x21 = some r) ?_ ?_
                            · refine runX_seq ?_
                              refine runX_regionC fun C hC => ?_
                              try simp -implicitDefEqProofs (maxSteps := 4000000) (disch := first | omega | decide | (simp only [go_sem]; omega)) only [go_sem, ↓reduceIte]
                              repeat (with_reducible refine And.intro (by first | assumption | omega | (simp; done) | (simp; omega)) ?_)
                              refine toEnd hC ?_
                              refine endX_seq ?_
                              rcases iteB_some h with ⟨c20, h⟩ | ⟨c20, h⟩
                              · refine runX_condT rfl c20 ?_
                                refine runX_regionC fun C hC => ?_
                                try simp -implicitDefEqProofs (maxSteps := 4000000) (disch := first | omega | decide | (simp only [go_sem]; omega)) only [go_sem, ↓reduceIte]
                                repeat (with_reducible refine And.intro (by first | assumption | omega | (simp; done) | (simp; omega)) ?_)
                                refine toEnd hC ?_
                                refine endX_q (meetQ_normal ⟨F18_S3 x2 x2, ?_, x2, rfl, h⟩)
                                simp only [F18_S3]
                                (try simp -implicitDefEqProofs (maxSteps := 4000000) (disch := first | omega | decide | (simp only [go_sem]; omega)) only [go_sem, ↓reduceIte])
                                first | exact leS_refl _ | (refine leS_le ?_ ?_ <;> first | exact leL_refl _ | exact leOs_refl _ | (repeat (first | exact leL_refl _ | refine leL_cons (by first | exact leT_refl _ | exact leT_virt | exact leT_junk _ | exact leT_sl | exact leT_sln | exact leT_nil) ?_)))
                              · refine runX_condF rfl c20 ?_
                                refine runX_skip ?_
                                refine endX_q (meetQ_normal ⟨F18_S3 x2 v15.1, ?_, v15.1, rfl, h⟩)
                                simp only [F18_S3]
                                (try simp -implicitDefEqProofs (maxSteps := 4000000) (disch := first | omega | decide | (simp only [go_sem]; omega)) only [go_sem, ↓reduceIte])
                                first | exact leS_refl _ | (refine leS_le ?_ ?_ <;> first | exact leL_refl _ | exact leOs_refl _ | (repeat (first | exact leL_refl _ | refine leL_cons (by first | exact leT_refl _ | exact leT_virt | exact leT_junk _ | exact leT_sl | exact leT_sln | exact leT_nil) ?_)))
                            · clear h
                              rintro S ⟨x21, rfl, h⟩
                              rw [F18_J3] at h
                              simp only [F18_S3]
                              refine runX_seq ?_
                              refine runX_regionC fun C hC => ?_
                              try simp -implicitDefEqProofs (maxSteps := 4000000) (disch := first | omega | decide | (simp only [go_sem]; omega)) only [go_sem, ↓reduceIte]
                              repeat (with_reducible refine And.intro (by first | assumption | omega | (simp; done) | (simp; omega)) ?_)
                              refine toEnd hC ?_
                              refine endX_seq ?_
                              refine runX_ret ?_
                              refine endX_seqR ?_
                              refine endX_q ?_
                              obtain rfl := Option.some.inj h
                              show RetW _ _ _ _ _
                              simp only [RetW]
                              (try simp -implicitDefEqProofs (maxSteps := 4000000) (disch := first | omega | decide | (simp only [go_sem]; omega)) only [go_sem, ↓reduceIte])
                              (try simp (disch := omega) only [if_pos, Nat.sub_zero])
                              exact leT_refl _
                      · refine runX_condF rfl c17 ?_
                        refine runX_skip ?_
                        refine endX_seq ?_
                        refine runX_seq ?_
                        refine runX_regionC fun C hC => ?_
                        try simp -implicitDefEqProofs (maxSteps := 4000000) (disch := first | omega | decide | (simp only [go_sem]; omega)) only [go_sem, ↓reduceIte]
                        repeat (with_reducible refine And.intro (by first | assumption | omega | (simp; done) | (simp; omega)) ?_)
                        refine toEnd hC ?_
                        refine endX_seq ?_
                        refine runX_seq ?_
                        refine runX_seq ?_
                        refine runX_regionC fun C hC => ?_
                        try simp -implicitDefEqProofs (maxSteps := 4000000) (disch := first | omega | decide | (simp only [go_sem]; omega)) only [go_sem, ↓reduceIte]
                        repeat (with_reducible refine And.intro (by first | assumption | omega | (simp; done) | (simp; omega)) ?_)
                        rcases iteB_some h with ⟨c22, h⟩ | ⟨c22, h⟩
                        · refine guardK_F c22 ?_
                          try simp -implicitDefEqProofs (maxSteps := 4000000) (disch := first | omega | decide | (simp only [go_sem]; omega)) only [go_sem, ↓reduceIte]
                          repeat (with_reducible refine And.intro (by first | assumption | omega | (simp; done) | (simp; omega)) ?_)
                          refine toEnd hC ?_
                          refine endX_seq ?_
                          refine runX_condT rfl rfl ?_
                          refine runX_seq ?_
                          refine runX_regionC fun C hC => ?_
                          try simp -implicitDefEqProofs (maxSteps := 4000000) (disch := first | omega | decide | (simp only [go_sem]; omega)) only [go_sem, ↓reduceIte]
                          repeat (with_reducible refine And.intro (by first | assumption | omega | (simp; done) | (simp; omega)) ?_)
                          refine toEnd hC ?_
                          refine endX_seq ?_
                          refine runX_ret ?_
                          refine endX_seqR ?_
                          refine endX_q ?_
                          obtain rfl := Option.some.inj h
                          show RetW _ _ _ _ _
                          simp only [RetW]
                          (try simp -implicitDefEqProofs (maxSteps := 4000000) (disch := first | omega | decide | (simp only [go_sem]; omega)) only [go_sem, ↓reduceIte])
                          (try simp (disch := omega) only [if_pos, Nat.sub_zero])
                          exact leT_refl _
                        · refine guardK_T c22 ?_
                          try simp -implicitDefEqProofs (maxSteps := 4000000) (disch := first | omega | decide | (simp only [go_sem]; omega)) only [go_sem, ↓reduceIte]
                          repeat (with_reducible refine And.intro (by first | assumption | omega | (simp; done) | (simp; omega)) ?_)
                          rcases iteB_some h with ⟨c23, h⟩ | ⟨c23, h⟩
                          · refine guardK_T c23 ?_
                            try simp -implicitDefEqProofs (maxSteps := 4000000) (disch := first | omega | decide | (simp only [go_sem]; omega)) only [go_sem, ↓reduceIte]
                            repeat (with_reducible refine And.intro (by first | assumption | omega | (simp; done) | (simp; omega)) ?_)
                            rcases iteB_some h with ⟨c24, h⟩ | ⟨c24, h⟩
                            · refine guardK_F c24 ?_
                              try simp -implicitDefEqProofs (maxSteps := 4000000) (disch := first | omega | decide | (simp only [go_sem]; omega)) only [go_sem, ↓reduceIte]
                              repeat (with_reducible refine And.intro (by first | assumption | omega | (simp; done) | (simp; omega)) ?_)
                              refine toEnd hC ?_
                              refine endX_seq ?_
                              refine runX_condT rfl rfl ?_
                              refine runX_seq ?_
                              refine runX_regionC fun C hC => ?_
                              try simp -implicitDefEqProofs (maxSteps := 4000000) (disch := first | omega | decide | (simp only [go_sem]; omega)) only [go_sem, ↓reduceIte]
                              repeat (with_reducible refine And.intro (by first | assumption | omega | (simp; done) | (simp; omega)) ?_)
                              refine toEnd hC ?_
                              refine endX_seq ?_
                              refine runX_ret ?_
                              refine endX_seqR ?_
                              refine endX_q ?_
                              obtain rfl := Option.some.inj h
                              show RetW _ _ _ _ _
                              simp only [RetW]
                              (try simp -implicitDefEqProofs (maxSteps := 4000000) (disch := first | omega | decide | (simp only [go_sem]; omega)) only [go_sem, ↓reduceIte])
                              (try simp (disch := omega) only [if_pos, Nat.sub_zero])
                              exact leT_refl _
                            · refine guardK_T c24 ?_
                              try simp -implicitDefEqProofs (maxSteps := 4000000) (disch := first | omega | decide | (simp only [go_sem]; omega)) only [go_sem, ↓reduceIte]
                              repeat (with_reducible refine And.intro (by first | assumption | omega | (simp; done) | (simp; omega)) ?_)
                              refine toEnd hC ?_
                              refine endX_seq ?_
                              rcases iteB_some h with ⟨c25, h⟩ | ⟨c25, h⟩
                              · refine runX_condT rfl c25 ?_
                                refine runX_seq ?_
                                refine runX_regionC fun C hC => ?_
                                try simp -implicitDefEqProofs (maxSteps := 4000000) (disch := first | omega | decide | (simp only [go_sem]; omega)) only [go_sem, ↓reduceIte]
                                repeat (with_reducible refine And.intro (by first | assumption | omega | (simp; done) | (simp; omega)) ?_)
                                refine toEnd hC ?_
                                refine endX_seq ?_
                                refine runX_ret ?_
                                refine endX_seqR ?_
                                refine endX_q ?_
                                obtain rfl := Option.some.inj h
                                show RetW _ _ _ _ _
                                simp only [RetW]
                                (try simp -implicitDefEqProofs (maxSteps := 4000000) (disch := first | omega | decide | (simp only [go_sem]; omega)) only [go_sem, ↓reduceIte])
                                (try simp (disch := omega) only [if_pos, Nat.sub_zero])
                                exact leT_refl _
                              · refine runX_condF rfl c25 ?_
                                refine runX_skip ?_
                                refine endX_seq ?_
                                refine runX_seq ?_
                                refine runX_seq ?_
                                refine runX_regionC fun C hC => ?_
                                try simp -implicitDefEqProofs (maxSteps := 4000000) (disch := first | omega | decide | (simp only [go_sem]; omega)) only [go_sem, ↓reduceIte]
                                repeat (with_reducible refine And.intro (by first | assumption | omega | (simp; done) | (simp; omega)) ?_)
                                refine toEnd hC ?_
                                refine endX_seq ?_
                                rcases iteB_some h with ⟨c26, h⟩ | ⟨c26, h⟩
                                · refine runX_condT rfl c26 ?_
                                  refine runX_seq ?_
                                  refine runX_regionC fun C hC => ?_
                                  try simp -implicitDefEqProofs (maxSteps := 4000000) (disch := first | omega | decide | (simp only [go_sem]; omega)) only [go_sem, ↓reduceIte]
                                  repeat (with_reducible refine And.intro (by first | assumption | omega | (simp; done) | (simp; omega)) ?_)
                                  refine toEnd hC ?_
                                  refine endX_seq ?_
                                  refine runX_ret ?_
                                  refine endX_seqR ?_
                                  refine endX_q ?_
                                  obtain rfl := Option.some.inj h
                                  show RetW _ _ _ _ _
                                  simp only [RetW]
                                  (try simp -implicitDefEqProofs (maxSteps := 4000000) (disch := first | omega | decide | (simp only [go_sem]; omega)) only [go_sem, ↓reduceIte])
                                  (try simp (disch := omega) only [if_pos, Nat.sub_zero])
                                  exact leT_refl _
                                · refine runX_condF rfl c26 ?_
                                  refine runX_skip ?_
                                  refine endX_seq ?_
                                  refine runX_seq ?_
                                  refine runX_seq ?_
                                  refine runX_regionC fun C hC => ?_
                                  try simp -implicitDefEqProofs (maxSteps := 4000000) (disch := first | omega | decide | (simp only [go_sem]; omega)) only [go_sem, ↓reduceIte]
                                  repeat (with_reducible refine And.intro (by first | assumption | omega | (simp; done) | (simp; omega)) ?_)
                                  rcases iteB_some h with ⟨c27, h⟩ | ⟨c27, h⟩
                                  · refine guardK_F c27 ?_
                                    try simp -implicitDefEqProofs (maxSteps := 4000000) (disch := first | omega | decide | (simp only [go_sem]; omega)) only [go_sem, ↓reduceIte]
                                    repeat (with_reducible refine And.intro (by first | assumption | omega | (simp; done) | (simp; omega)) ?_)
                                    refine toEnd hC ?_
                                    refine endX_seq ?_
                                    refine runX_condT rfl rfl ?_
                                    refine runX_seq ?_
                                    refine runX_regionC fun C hC => ?_
                                    try simp -implicitDefEqProofs (maxSteps := 4000000) (disch := first | omega | decide | (simp only [go_sem]; omega)) only [go_sem, ↓reduceIte]
                                    repeat (with_reducible refine And.intro (by first | assumption | omega | (simp; done) | (simp; omega)) ?_)
                                    refine toEnd hC ?_
                                    refine endX_seq ?_
                                    refine runX_ret ?_
                                    refine endX_seqR ?_
                                    refine endX_q ?_
                                    obtain rfl := Option.some.inj h
                                    show RetW _ _ _ _ _
                                    simp only [RetW]
                                    (try simp -implicitDefEqProofs (maxSteps := 4000000) (disch := first | omega | decide | (simp only [go_sem]; omega)) only [go_sem, ↓reduceIte])
                                    (try simp (disch := omega) only [if_pos, Nat.sub_zero])
                                    exact leT_refl _
                                  · refine guardK_T c27 ?_
                                    try simp -implicitDefEqProofs (maxSteps := 4000000) (disch := first | omega | decide | (simp only [go_sem]; omega)) only [go_sem, ↓reduceIte]
                                    repeat (with_reducible refine And.intro (by first | assumption | omega | (simp; done) | (simp; omega)) ?_)
                                    refine toEnd hC ?_
                                    refine endX_seq ?_
                                    rcases iteB_some h with ⟨c28, h⟩ | ⟨c28, h⟩
                                    · refine runX_condT rfl c28 ?_
                                      refine runX_seq ?_
                                      refine runX_regionC fun C hC => ?_
                                      try simp -implicitDefEqProofs (maxSteps := 4000000) (disch := first | omega | decide | (simp only [go_sem]; omega)) only [go_sem, ↓reduceIte]
                                      repeat (with_reducible refine And.intro (by first | assumption | omega | (simp; done) | (simp; omega)) ?_)
                                      refine toEnd hC ?_
                                      refine endX_seq ?_
                                      refine runX_ret ?_
                                      refine endX_seqR ?_
                                      refine endX_q ?_
                                      obtain rfl := Option.some.inj h
                                      show RetW _ _ _ _ _
                                      simp only [RetW]
                                      (try simp -implicitDefEqProofs (maxSteps := 4000000) (disch := first | omega | decide | (simp only [go_sem]; omega)) only [go_sem, ↓reduceIte])
                                      (try simp (disch := omega) only [if_pos, Nat.sub_zero])
                                      exact leT_refl _
                                    · refine runX_condF rfl c28 ?_
                                      refine runX_skip ?_
                                      refine endX_seq ?_
                                      refine runX_seq ?_
                                      refine runX_regionC fun C hC => ?_
                                      try simp -implicitDefEqProofs (maxSteps := 4000000) (disch := first | omega | decide | (simp only [go_sem]; omega)) only [go_sem, ↓reduceIte]
                                      repeat (with_reducible refine And.intro (by first | assumption | omega | (simp; done) | (simp; omega)) ?_)
                                      refine toEnd hC ?_
                                      refine endX_seq ?_
                                      refine runX_ret ?_
                                      refine endX_q ?_
                                      obtain rfl := Option.some.inj h
                                      show RetW _ _ _ _ _
                                      simp only [RetW]
                                      (try simp -implicitDefEqProofs (maxSteps := 4000000) (disch := first | omega | decide | (simp only [go_sem]; omega)) only [go_sem, ↓reduceIte])
                                      (try simp (disch := omega) only [if_pos, Nat.sub_zero])
                                      exact leT_refl _
                          · refine guardK_F c23 ?_
                            try simp -implicitDefEqProofs (maxSteps := 4000000) (disch := first | omega | decide | (simp only [go_sem]; omega)) only [go_sem, ↓reduceIte]
                            repeat (with_reducible refine And.intro (by first | assumption | omega | (simp; done) | (simp; omega)) ?_)
                            refine toEnd hC ?_
                            refine endX_seq ?_
                            refine runX_condF rfl rfl ?_
                            refine runX_skip ?_
                            refine endX_seq ?_
                            refine runX_seq ?_
                            refine runX_seq ?_
                            refine runX_regionC fun C hC => ?_
                            try simp -implicitDefEqProofs (maxSteps := 4000000) (disch := first | omega | decide | (simp only [go_sem]; omega)) only [go_sem, ↓reduceIte]
                            repeat (with_reducible refine And.intro (by first | assumption | omega | (simp; done) | (simp; omega)) ?_)
                            refine toEnd hC ?_
                            refine endX_seq ?_
                            rcases iteB_some h with ⟨c29, h⟩ | ⟨c29, h⟩
                            · refine runX_condT rfl c29 ?_
                              refine runX_seq ?_
                              refine runX_regionC fun C hC => ?_
                              try simp -implicitDefEqProofs (maxSteps := 4000000) (disch := first | omega | decide | (simp only [go_sem]; omega)) only [go_sem, ↓reduceIte]
                              repeat (with_reducible refine And.intro (by first | assumption | omega | (simp; done) | (simp; omega)) ?_)
                              refine toEnd hC ?_
                              refine endX_seq ?_
                              refine runX_ret ?_
                              refine endX_seqR ?_
                              refine endX_q ?_
                              obtain rfl := Option.some.inj h
                              show RetW _ _ _ _ _
                              simp only [RetW]
                              (try simp -implicitDefEqProofs (maxSteps := 4000000) (disch := first | omega | decide | (simp only [go_sem]; omega)) only [go_sem, ↓reduceIte])
                              (try simp (disch := omega) only [if_pos, Nat.sub_zero])
                              exact leT_refl _
                            · refine runX_condF rfl c29 ?_
                              refine runX_skip ?_
                              refine endX_seq ?_
                              refine runX_seq ?_
                              refine runX_seq ?_
                              refine runX_regionC fun C hC => ?_
                              try simp -implicitDefEqProofs (maxSteps := 4000000) (disch := first | omega | decide | (simp only [go_sem]; omega)) only [go_sem, ↓reduceIte]
                              repeat (with_reducible refine And.intro (by first | assumption | omega | (simp; done) | (simp; omega)) ?_)
                              rcases iteB_some h with ⟨c30, h⟩ | ⟨c30, h⟩
                              · refine guardK_F c30 ?_
                                try simp -implicitDefEqProofs (maxSteps := 4000000) (disch := first | omega | decide | (simp only [go_sem]; omega)) only [go_sem, ↓reduceIte]
                                repeat (with_reducible refine And.intro (by first | assumption | omega | (simp; done) | (simp; omega)) ?_)
                                refine toEnd hC ?_
                                refine endX_seq ?_
                                refine runX_condT rfl rfl ?_
                                refine runX_seq ?_
                                refine runX_regionC fun C hC => ?_
                                try simp -implicitDefEqProofs (maxSteps := 4000000) (disch := first | omega | decide | (simp only [go_sem]; omega)) only [go_sem, ↓reduceIte]
                                repeat (with_reducible refine And.intro (by first | assumption | omega | (simp; done) | (simp; omega)) ?_)
                                refine toEnd hC ?_
                                refine endX_seq ?_
                                refine runX_ret ?_
                                refine endX_seqR ?_
                                refine endX_q ?_
                                obtain rfl := Option.some.inj h
                                show RetW _ _ _ _ _
                                simp only [RetW]
                                (try simp -implicitDefEqProofs (maxSteps := 4000000) (disch := first | omega | decide | (simp only [go_sem]; omega)) only [go_sem, ↓reduceIte])
                                (try simp (disch := omega) only [if_pos, Nat.sub_zero])
                                exact leT_refl _
                              · refine guardK_T c30 ?_
                                try simp -implicitDefEqProofs (maxSteps := 4000000) (disch := first | omega | decide | (simp only [go_sem]; omega)) only [go_sem, ↓reduceIte]
                                repeat (with_reducible refine And.intro (by first | assumption | omega | (simp; done) | (simp; omega)) ?_)
                                refine toEnd hC ?_
                                refine endX_seq ?_
                                rcases iteB_some h with ⟨c31, h⟩ | ⟨c31, h⟩
                                · refine runX_condT rfl c31 ?_
                                  refine runX_seq ?_
                                  refine runX_regionC fun C hC => ?_
                                  try simp -implicitDefEqProofs (maxSteps := 4000000) (disch := first | omega | decide | (simp only [go_sem]; omega)) only [go_sem, ↓reduceIte]
                                  repeat (with_reducible refine And.intro (by first | assumption | omega | (simp; done) | (simp; omega)) ?_)
                                  refine toEnd hC ?_
                                  refine endX_seq ?_
                                  refine runX_ret ?_
                                  refine endX_seqR ?_
                                  refine endX_q ?_
                                  obtain rfl := Option.some.inj h
                                  show RetW _ _ _ _ _
                                  simp only [RetW]
                                  (try simp -implicitDefEqProofs (maxSteps := 4000000) (disch := first | omega | decide | (simp only [go_sem]; omega)) only [go_sem, ↓reduceIte])
                                  (try simp (disch := omega) only [if_pos, Nat.sub_zero])
                                  exact leT_refl _
                                · refine runX_condF rfl c31 ?_
                                  refine runX_skip ?_
                                  refine endX_seq ?_
                                  refine runX_seq ?_
                                  refine runX_regionC fun C hC => ?_
                                  try simp -implicitDefEqProofs (maxSteps := 4000000) (disch := first | omega | decide | (simp only [go_sem]; omega)) only [go_sem, ↓reduceIte]
                                  repeat (with_reducible refine And.intro (by first | assumption | omega | (simp; done) | (simp; omega)) ?_)
                                  refine toEnd hC ?_
                                  refine endX_seq ?_
                                  refine runX_ret ?_
                                  refine endX_q ?_
                                  obtain rfl := Option.some.inj h
                                  show RetW _ _ _ _ _
                                  simp only [RetW]
                                  (try simp -implicitDefEqProofs (maxSteps := 4000000) (disch := first | omega | decide | (simp only [go_sem]; omega)) only [go_sem, ↓reduceIte])
                                  (try simp (disch := omega) only [if_pos, Nat.sub_zero])
                                  exact leT_refl _
                    · refine guardK_F c16 ?_
                      try simp -implicitDefEqProofs (maxSteps := 4000000) (disch := first | omega | decide | (simp only [go_sem]; omega)) only [go_sem, ↓reduceIte]
                      repeat (with_reducible refine And.intro (by first | assumption | omega | (simp; done) | (simp; omega)) ?_)
                      refine toEnd hC ?_
                      refine endX_seq ?_
                      refine runX_condF rfl rfl ?_
                      refine runX_skip ?_
                      refine endX_seq ?_
                      refine runX_seq ?_
                      refine runX_regionC fun C hC => ?_
                      try simp -implicitDefEqProofs (maxSteps := 4000000) (disch := first | omega | decide | (simp only [go_sem]; omega)) only [go_sem, ↓reduceIte]
                      repeat (with_reducible refine And.intro (by first | assumption | omega | (simp; done) | (simp; omega)) ?_)
                      refine toEnd hC ?_
                      refine endX_seq ?_
                      refine runX_seq ?_
                      refine runX_seq ?_
                      refine runX_regionC fun C hC => ?_
                      try simp -implicitDefEqProofs (maxSteps := 4000000) (disch := first | omega | decide | (simp only [go_sem]; omega)) only [go_sem, ↓reduceIte]
                      repeat (with_reducible refine And.intro (by first | assumption | omega | (simp; done) | (simp; omega)) ?_)
                      rcases iteB_some h with ⟨c32, h⟩ | ⟨c32, h⟩
                      · refine guardK_F c32 ?_
                        try simp -implicitDefEqProofs (maxSteps := 4000000) (disch := first | omega | decide | (simp only [go_sem]; omega)) only [go_sem, ↓reduceIte]
                        repeat (with_reducible refine And.intro (by first | assumption | omega | (simp; done) | (simp; omega)) ?_)
                        refine toEnd hC ?_
                        refine endX_seq ?_
                        refine runX_condT rfl rfl ?_
                        refine runX_seq ?_
                        refine runX_regionC fun C hC => ?_
                        try simp -implicitDefEqProofs (maxSteps := 4000000) (disch := first | omega | decide | (simp only [go_sem]; omega)) only [go_sem, ↓reduceIte]
                        repeat (with_reducible refine And.intro (by first | assumption | omega | (simp; done) | (simp; omega)) ?_)
                        refine toEnd hC ?_
                        refine endX_seq ?_
                        refine runX_ret ?_
                        refine endX_seqR ?_
                        refine endX_q ?_
                        obtain rfl := Option.some.inj h
                        show RetW _ _ _ _ _
                        simp only [RetW]
                        (try simp -implicitDefEqProofs (maxSteps := 4000000) (disch := first | omega | decide | (simp only [go_sem]; omega)) only [go_sem, ↓reduceIte])
                        (try simp (disch := omega) only [if_pos, Nat.sub_zero])
                        exact leT_refl _
                      · refine guardK_T c32 ?_
                        try simp -implicitDefEqProofs (maxSteps := 4000000) (disch := first | omega | decide | (simp only [go_sem]; omega)) only [go_sem, ↓reduceIte]
                        repeat (with_reducible refine And.intro (by first | assumption | omega | (simp; done) | (simp; omega)) ?_)
                        rcases iteB_some h with ⟨c33, h⟩ | ⟨c33, h⟩
                        · refine guardK_T c33 ?_
                          try simp -implicitDefEqProofs (maxSteps := 4000000) (disch := first | omega | decide | (simp only [go_sem]; omega)) only [go_sem, ↓reduceIte]
                          repeat (with_reducible refine And.intro (by first | assumption | omega | (simp; done) | (simp; omega)) ?_)
                          rcases iteB_some h with ⟨c34, h⟩ | ⟨c34, h⟩
                          · refine guardK_F c34 ?_
                            try simp -implicitDefEqProofs (maxSteps := 4000000) (disch := first | omega | decide | (simp only [go_sem]; omega)) only [go_sem, ↓reduceIte]
                            repeat (with_reducible refine And.intro (by first | assumption | omega | (simp; done) | (simp; omega)) ?_)
                            refine toEnd hC ?_
                            refine endX_seq ?_
                            refine runX_condT rfl rfl ?_
                            refine runX_seq ?_
                            refine runX_regionC fun C hC => ?_
                            try simp -implicitDefEqProofs (maxSteps := 4000000) (disch := first | omega | decide | (simp only [go_sem]; omega)) only [go_sem, ↓reduceIte]
                            repeat (with_reducible refine And.intro (by first | assumption | omega | (simp; done) | (simp; omega)) ?_)
                            refine toEnd hC ?_
                            refine endX_seq ?_
                            refine runX_ret ?_
                            refine endX_seqR ?_
                            refine endX_q ?_
                            obtain rfl := Option.some.inj h
                            show RetW _ _ _ _ _
                            simp only [RetW]
                            (try simp -implicitDefEqProofs (maxSteps := 4000000) (disch := first | omega | decide | (simp only [go_sem]; omega)) only [go_sem, ↓reduceIte])
                            (try simp (disch := omega) only [if_pos, Nat.sub_zero])
                            exact leT_refl _
                          · refine guardK_T c34 ?_
                            try simp -implicitDefEqProofs (maxSteps := 4000000) (disch := first | omega | decide | (simp only [go_sem]; omega)) only [go_sem, ↓reduceIte]
                            repeat (with_reducible refine And.intro (by first | assumption | omega | (simp; done) | (simp; omega)) ?_)
                            refine toEnd hC ?_
                            refine endX_seq ?_
                            rcases iteB_some h with ⟨c35, h⟩ | ⟨c35, h⟩
                            · refine runX_condT rfl c35 ?_
                              refine runX_seq ?_
                              refine runX_regionC fun C hC => ?_
                              try simp -implicitDefEqProofs (maxSteps := 4000000) (disch := first | omega | decide | (simp only [go_sem]; omega)) only [go_sem, ↓reduceIte]
                              repeat (with_reducible refine And.intro (by first | assumption | omega | (simp; done) | (simp; omega)) ?_)
                              refine toEnd hC ?_
                              refine endX_seq ?_
                              refine runX_ret ?_
                              refine endX_seqR ?_
                              refine endX_q ?_
                              obtain rfl := Option.some.inj h
                              show RetW _ _ _ _ _
                              simp only [RetW]
                              (try simp -implicitDefEqProofs (maxSteps := 4000000) (disch := first | omega | decide | (simp only [go_sem]; omega)) only [go_sem, ↓reduceIte])
                              (try simp (disch := omega) only [if_pos, Nat.sub_zero])
                              exact leT_refl _
                            · refine runX_condF rfl c35 ?_
                              refine runX_skip ?_
                              refine endX_seq ?_
                              refine runX_seq ?_
                              refine runX_seq ?_
                              refine runX_regionC fun C hC => ?_
                              try simp -implicitDefEqProofs (maxSteps := 4000000) (disch := first | omega | decide | (simp only [go_sem]; omega)) only [go_sem, ↓reduceIte]
                              repeat (with_reducible refine And.intro (by first | assumption | omega | (simp; done) | (simp; omega)) ?_)
                              refine toEnd hC ?_
                              refine endX_seq ?_
                              rcases iteB_some h with ⟨c36, h⟩ | ⟨c36, h⟩
                              · refine runX_condT rfl c36 ?_
                                refine runX_seq ?_
                                refine runX_regionC fun C hC => ?_
                                try simp -implicitDefEqProofs (maxSteps := 4000000) (disch := first | omega | decide | (simp only [go_sem]; omega)) only [go_sem, ↓reduceIte]
                                repeat (with_reducible refine And.intro (by first | assumption | omega | (simp; done) | (simp; omega)) ?_)
                                refine toEnd hC ?_
                                refine endX_seq ?_
                                refine runX_ret ?_
                                refine endX_seqR ?_
                                refine endX_q ?_
                                obtain rfl := Option.some.inj h
                                show RetW _ _ _ _ _
                                simp only [RetW]
                                (try simp -implicitDefEqProofs (maxSteps := 4000000) (disch := first | omega | decide | (simp only [go_sem]; omega)) only [go_sem, ↓reduceIte])
                                (try simp (disch := omega) only [if_pos, Nat.sub_zero])
                                exact leT_refl _
                              · refine runX_condF rfl c36 ?_
                                refine runX_skip ?_
                                refine endX_seq ?_
                                refine runX_seq ?_
                                refine runX_seq ?_
                                refine runX_regionC fun C hC => ?_
                                try simp -implicitDefEqProofs (maxSteps := 4000000) (disch := first | omega | decide | (simp only [go_sem]; omega)) only [go_sem, ↓reduceIte]
                                repeat (with_reducible refine And.intro (by first | assumption | omega | (simp; done) | (simp; omega)) ?_)
                                rcases iteB_some h with ⟨c37, h⟩ | ⟨c37, h⟩
                                · refine guardK_F c37 ?_
                                  try simp -implicitDefEqProofs (maxSteps := 4000000) (disch := first | omega | decide | (simp only [go_sem]; omega)) only [go_sem, ↓reduceIte]
                                  repeat (with_reducible refine And.intro (by first | assumption | omega | (simp; done) | (simp; omega)) ?_)
                                  refine toEnd hC ?_
                                  refine endX_seq ?_
                                  refine runX_condT rfl rfl ?_
                                  refine runX_seq ?_
                                  refine runX_regionC fun C hC => ?_
                                  try simp -implicitDefEqProofs (maxSteps := 4000000) (disch := first | omega | decide | (simp only [go_sem]; omega)) only [go_sem, ↓reduceIte]
                                  repeat (with_reducible refine And.intro (by first | assumption | omega | (simp; done) | (simp; omega)) ?_)
                                  refine toEnd hC ?_
                                  refine endX_seq ?_
                                  refine runX_ret ?_
                                  refine endX_seqR ?_
                                  refine endX_q ?_
                                  obtain rfl := Option.some.inj h
                                  show RetW _ _ _ _ _
                                  simp only [RetW]
                                  (try simp -implicitDefEqProofs (maxSteps := 4000000) (disch := first | omega | decide | (simp only [go_sem]; omega)) only [go_sem, ↓reduceIte])
                                  (try simp (disch := omega) only [if_pos, Nat.sub_zero])
                                  exact leT_refl _
                                · refine guardK_T c37 ?_
                                  try simp -implicitDefEqProofs (maxSteps := 4000000) (disch := first | omega | decide | (simp only [go_sem]; omega)) only [go_sem, ↓reduceIte]
                                  repeat (with_reducible refine And.intro (by first | assumption | omega | (simp; done) | (simp; omega)) ?_)
                                  refine toEnd hC ?_
                                  refine endX_seq ?_
                                  rcases iteB_some h with ⟨c38, h⟩ | ⟨c38, h⟩
                                  · refine runX_condT rfl c38 ?_
                                    refine runX_seq ?_
                                    refine runX_regionC fun C hC => ?_
                                    try simp -implicitDefEqProofs (maxSteps := 4000000) (disch := first | omega | decide | (simp only [go_sem]; omega)) only [go_sem, ↓reduceIte]
                                    repeat (with_reducible refine And.intro (by first | assumption | omega | (simp; done) | (simp; omega)) ?_)
                                    refine toEnd hC ?_
                                    refine endX_seq ?_
                                    refine runX_ret ?_
                                    refine endX_seqR ?_
                                    refine endX_q ?_
                                    obtain rfl := Option.some.inj h
                                    show RetW _ _ _ _ _
                                    simp only [RetW]
                                    (try simp -implicitDefEqProofs (maxSteps := 4000000) (disch := first | omega | decide | (simp only [go_sem]; omega)) only [go_sem, ↓reduceIte])
                                    (try simp (disch := omega) only [if_pos, Nat.sub_zero])
                                    exact leT_refl _
                                  · refine runX_condF rfl c38 ?_
                                    refine runX_skip ?_
                                    refine endX_seq ?_
                                    refine runX_seq ?_
                                    refine runX_regionC fun C hC => ?_
                                    try simp -implicitDefEqProofs (maxSteps := 4000000) (disch := first | omega | decide | (simp only [go_sem]; omega)) only [go_sem, ↓reduceIte]
                                    repeat (with_reducible refine And.intro (by first | assumption | omega | (simp; done) | (simp; omega)) ?_)
                                    refine toEnd hC ?_
                                    refine endX_seq ?_
                                    refine runX_ret ?_
                                    refine endX_q ?_
                                    obtain rfl := Option.some.inj h
                                    show RetW _ _ _ _ _
                                    simp only [RetW]
                                    (try simp -implicitDefEqProofs (maxSteps := 4000000) (disch := first | omega | decide | (simp only [go_sem]; omega)) only [go_sem, ↓reduceIte])
                                    (try simp (disch := omega) only [if_pos, Nat.sub_zero])
                                    exact leT_refl _
                        · refine guardK_F c33 ?_
                          try simp -implicitDefEqProofs (maxSteps := 4000000) (disch := first | omega | decide | (simp only [go_sem]; omega)) only [go_sem, ↓reduceIte]
                          repeat (with_reducible refine And.intro (by first | assumption | omega | (simp; done) | (simp; omega)) ?_)
                          refine toEnd hC ?_
                          refine endX_seq ?_
                          refine runX_condF rfl rfl ?_
                          refine runX_skip ?_
                          refine endX_seq ?_
                          refine runX_seq ?_
                          refine runX_seq ?_
                          refine runX_regionC fun C hC => ?_
                          try simp -implicitDefEqProofs (maxSteps := 4000000) (disch := first | omega | decide | (simp only [go_sem]; omega)) only [go_sem, ↓reduceIte]
                          repeat (with_reducible refine And.intro (by first | assumption | omega | (simp; done) | (simp; omega)) ?_)
                          refine toEnd hC ?_
                          refine endX_seq ?_
                          rcases iteB_some h with ⟨c39, h⟩ | ⟨c39, h⟩
                          · refine runX_condT rfl c39 ?_
                            refine runX_seq ?_
                            refine runX_regionC fun C hC => ?_
                            try simp -implicitDefEqProofs (maxSteps := 4000000) (disch := first | omega | decide | (simp only [go_sem]; omega)) only [go_sem, ↓reduceIte]
                            repeat (with_reducible refine And.intro (by first | assumption | omega | (simp; done) | (simp; omega)) ?_)
                            refine toEnd hC ?_
                            refine endX_seq ?_
                            refine runX_ret ?_
                            refine endX_seqR ?_
                            refine endX_q ?_
                            obtain rfl := Option.some.inj h
                            show RetW _ _ _ _ _
                            simp only [RetW]
                            (try simp -implicitDefEqProofs (maxSteps := 4000000) (disch := first | omega | decide | (simp only [go_sem]; omega)) only [go_sem, ↓reduceIte])
                            (try simp (disch := omega) only [if_pos, Nat.sub_zero])
                            exact leT_refl _
                          · refine runX_condF rfl c39 ?_
                            refine runX_skip ?_
                            refine endX_seq ?_
                            refine runX_seq ?_
                            refine runX_seq ?_
                            refine runX_regionC fun C hC => ?_
                            try simp -implicitDefEqProofs (maxSteps := 4000000) (disch := first | omega | decide | (simp only [go_sem]; omega)) only [go_sem, ↓reduceIte]
                            repeat (with_reducible refine And.intro (by first | assumption | omega | (simp; done) | (simp; omega)) ?_)
                            rcases iteB_some h with ⟨c40, h⟩ | ⟨c40, h⟩
                            · refine guardK_F c40 ?_
                              try simp -implicitDefEqProofs (maxSteps := 4000000) (disch := first | omega | decide | (simp only [go_sem]; omega)) only [go_sem, ↓reduceIte]
                              repeat (with_reducible refine And.intro (by first | assumption | omega | (simp; done) | (simp; omega)) ?_)
                              refine toEnd hC ?_
                              refine endX_seq ?_
                              refine runX_condT rfl rfl ?_
                              refine runX_seq ?_
                              refine runX_regionC fun C hC => ?_
                              try simp -implicitDefEqProofs (maxSteps := 4000000) (disch := first | omega | decide | (simp only [go_sem]; omega)) only [go_sem, ↓reduceIte]
                              repeat (with_reducible refine And.intro (by first | assumption | omega | (simp; done) | (simp; omega)) ?_)
                              refine toEnd hC ?_
                              refine endX_seq ?_
                              refine runX_ret ?_
                              refine endX_seqR ?_
                              refine endX_q ?_
                              obtain rfl := Option.some.inj h
                              show RetW _ _ _ _ _
                              simp only [RetW]
                              (try simp -implicitDefEqProofs (maxSteps := 4000000) (disch := first | omega | decide | (simp only [go_sem]; omega)) only [go_sem, ↓reduceIte])
                              (try simp (disch := omega) only [if_pos, Nat.sub_zero])
                              exact leT_refl _
                            · refine guardK_T c40 ?_
                              try simp -implicitDefEqProofs (maxSteps := 4000000) (disch := first | omega | decide | (simp only [go_sem]; omega)) only [go_sem, ↓reduceIte]
                              repeat (with_reducible refine And.intro (by first | assumption | omega | (simp; done) | (simp; omega)) ?_)
                              refine toEnd hC ?_
                              refine endX_seq ?_
                              rcases iteB_some h with ⟨c41, h⟩ | ⟨c41, h⟩
                              · refine runX_condT rfl c41 ?_
                                refine runX_seq ?_
                                refine runX_regionC fun C hC => ?_
                                try simp -implicitDefEqProofs (maxSteps := 4000000) (disch := first | omega | decide | (simp only [go_sem]; omega)) only [go_sem, ↓reduceIte]
                                repeat (with_reducible refine And.intro (by first | assumption | omega | (simp; done) | (simp; omega)) ?_)
                                refine toEnd hC ?_
                                refine endX_seq ?_
                                refine runX_ret ?_
                                refine endX_seqR ?_
                                refine endX_q ?_
                                obtain rfl := Option.some.inj h
                                show RetW _ _ _ _ _
                                simp only [RetW]
                                (try simp -implicitDefEqProofs (maxSteps := 4000000) (disch := first | omega | decide | (simp only [go_sem]; omega)) only [go_sem, ↓reduceIte])
                                (try simp (disch := omega) only [if_pos, Nat.sub_zero])
                                exact leT_refl _
                              · refine runX_condF rfl c41 ?_
                                refine runX_skip ?_
                                refine endX_seq ?_
                                refine runX_seq ?_
                                refine runX_regionC fun C hC => ?_
                                try simp -implicitDefEqProofs (maxSteps := 4000000) (disch := first | omega | decide | (simp only [go_sem]; omega)) only [go_sem, ↓reduceIte]
                                repeat (with_reducible refine And.intro (by first | assumption | omega | (simp; done) | (simp; omega)) ?_)
                                refine toEnd hC ?_
                                refine endX_seq ?_
                                refine runX_ret ?_
                                refine endX_q ?_
                                obtain rfl := Option.some.inj h
                                show RetW _ _ _ _ _
                                simp only [RetW]
                                (try simp -implicitDefEqProofs (maxSteps := 4000000) (disch := first | omega | decide | (simp only [go_sem]; omega)) only [go_sem, ↓reduceIte])
                                (try simp (disch := omega) only [if_pos, Nat.sub_zero])
                                exact leT_refl _
              · refine guardK_F c8 ?_
                try simp -implicitDefEqProofs (maxSteps := 4000000) (disch := first | omega | decide | (simp only [go_sem]; omega)) only [go_sem, ↓reduceIte]
                repeat (with_reducible refine And.intro (by first | assumption | omega | (simp; done) | (simp; omega)) ?_)
                refine toEnd hC ?_
                refine endX_seq ?_
                refine runX_condF rfl rfl ?_
                refine runX_exit ?_
                refine endX_seqE ?_
                refine endX_q (roundQ_exit ?_)
                refine endX_blkE ?_
                refine endX_seq ?_
                refine runX_seq ?_
                refine runX_seq ?_
                refine runX_regionC fun C hC => ?_
                try simp -implicitDefEqProofs (maxSteps := 4000000) (disch := first | omega | decide | (simp only [go_sem]; omega)) only [go_sem, ↓reduceIte]
                repeat (with_reducible refine And.intro (by first | assumption | omega | (simp; done) | (simp; omega)) ?_)
                refine toEnd hC ?_
                refine endX_seq ?_
                rcases iteB_some h with ⟨c42, h⟩ | ⟨c42, h⟩
                · refine runX_condT rfl c42 ?_
                  refine runX_seq ?_
                  refine runX_regionC fun C hC => ?_
                  try simp -implicitDefEqProofs (maxSteps := 4000000) (disch := first | omega | decide | (simp only [go_sem]; omega)) only [go_sem, ↓reduceIte]
                  repeat (with_reducible refine And.intro (by first | assumption | omega | (simp; done) | (simp; omega)) ?_)
                  refine toEnd hC ?_
                  refine endX_seq ?_
                  refine runX_ret ?_
                  refine endX_seqR ?_
                  refine endX_q ?_
                  obtain rfl := Option.some.inj h
                  show RetW _ _ _ _ _
                  simp only [RetW]
                  (try simp -implicitDefEqProofs (maxSteps := 4000000) (disch := first | omega | decide | (simp only [go_sem]; omega)) only [go_sem, ↓reduceIte])
                  (try simp (disch := omega) only [if_pos, Nat.sub_zero])
                  exact leT_refl _
                · refine runX_condF rfl c42 ?_
                  refine runX_skip ?_
                  refine endX_seq ?_
                  refine runX_seq ?_
                  refine runX_regionC fun C hC => ?_
                  obtain ⟨g43, h⟩ := grd_some h
                  obtain ⟨v44, h44, h⟩ := bnd_some h
                  try simp -implicitDefEqProofs (maxSteps := 4000000) (disch := first | omega | decide | (simp only [go_sem]; omega)) only [go_sem, ↓reduceIte]
                  repeat (with_reducible refine And.intro (by first | assumption | omega | (simp; done) | (simp; omega)) ?_)
                  refine callG_X (F55_ok m2 ((a0.drop 6).take x7.toNat) _ h44) (by repeat (first | exact leL_refl _ | refine leL_cons (by first | exact leT_refl _ | exact leT_virt | exact leT_junk _ | exact leT_sl | exact leT_sln | exact leT_nil) ?_)) ?_
                  try simp -implicitDefEqProofs (maxSteps := 4000000) (disch := first | omega | decide | (simp only [go_sem]; omega)) only [go_sem, ↓reduceIte]
                  repeat (with_reducible refine And.intro (by first | assumption | omega | (simp; done) | (simp; omega)) ?_)
                  refine toEnd hC ?_
                  refine endX_seq ?_
                  refine runX_seq ?_
                  refine runX_regionC fun C hC => ?_
                  obtain ⟨g45, h⟩ := grd_some h
                  obtain ⟨v46, h46, h⟩ := bnd_some h
                  try simp -implicitDefEqProofs (maxSteps := 4000000) (disch := first | omega | decide | (simp only [go_sem]; omega)) only [go_sem, ↓reduceIte]
                  repeat (with_reducible refine And.intro (by first | assumption | omega | (simp; done) | (simp; omega)) ?_)
                  refine callG_X (F55_ok m2 ((a0.drop 6).drop (IntKind.wrap .i64 (x7 + (1 : Int))).toNat) _ h46) (by repeat (first | exact leL_refl _ | refine leL_cons (by first | exact leT_refl _ | exact leT_virt | exact leT_junk _ | exact leT_sl | exact leT_sln | exact leT_nil) ?_)) ?_
                  try simp -implicitDefEqProofs (maxSteps := 4000000) (disch := first | omega | decide | (simp only [go_sem]; omega)) only [go_sem, ↓reduceIte]
                  repeat (with_reducible refine And.intro (by first | assumption | omega | (simp; done) | (simp; omega)) ?_)
                  refine toEnd hC ?_
                  refine endX_seq ?_
                  refine runX_seq ?_
                  refine runX_seq ?_
                  refine runX_regionC fun C hC => ?_
                  try simp -implicitDefEqProofs (maxSteps := 4000000) (disch := first | omega | decide | (simp only [go_sem]; omega)) only [go_sem, ↓reduceIte]
                  repeat (with_reducible refine And.intro (by first | assumption | omega | (simp; done) | (simp; omega)) ?_)
                  rcases iteB_some h with ⟨c47, h⟩ | ⟨c47, h⟩
                  · refine guardK_T c47 ?_
                    try simp -implicitDefEqProofs (maxSteps := 4000000) (disch := first | omega | decide | (simp only [go_sem]; omega)) only [go_sem, ↓reduceIte]
                    repeat (with_reducible refine And.intro (by first | assumption | omega | (simp; done) | (simp; omega)) ?_)
                    refine toEnd hC ?_
                    refine endX_seq ?_
                    rcases iteB_some h with ⟨c48, h⟩ | ⟨c48, h⟩
                    · refine runX_condT rfl c48 ?_
                      refine runX_seq ?_
                      refine runX_seq ?_
                      refine runX_regionC fun C hC => ?_
                      try simp -implicitDefEqProofs (maxSteps := 4000000) (disch := first | omega | decide | (simp only [go_sem]; omega)) only [go_sem, ↓reduceIte]
                      repeat (with_reducible refine And.intro (by first | assumption | omega | (simp; done) | (simp; omega)) ?_)
                      rcases iteB_some h with ⟨c49, h⟩ | ⟨c49, h⟩
                      · refine guardK_F c49 ?_
                        try simp -implicitDefEqProofs (maxSteps := 4000000) (disch := first | omega | decide | (simp only [go_sem]; omega)) only [go_sem, ↓reduceIte]
                        repeat (with_reducible refine And.intro (by first | assumption | omega | (simp; done) | (simp; omega)) ?_)
                        refine toEnd hC ?_
                        refine endX_seq ?_
                        refine runX_condT rfl rfl ?_
                        refine runX_seq ?_
                        refine runX_regionC fun C hC => ?_
                        try simp -implicitDefEqProofs (maxSteps := 4000000) (disch := first | omega | decide | (simp only [go_sem]; omega)) only [go_sem, ↓reduceIte]
                        repeat (with_reducible refine And.intro (by first | assumption | omega | (simp; done) | (simp; omega)) ?_)
                        refine toEnd hC ?_
                        refine endX_seq ?_
                        refine runX_ret ?_
                        refine endX_seqR ?_
                        refine endX_seqR ?_
                        refine endX_q ?_
                        obtain rfl := Option.some.inj h
                        show RetW _ _ _ _ _
                        simp only [RetW]
                        (try simp -implicitDefEqProofs (maxSteps := 4000000) (disch := first | omega | decide | (simp only [go_sem]; omega)) only [go_sem, ↓reduceIte])
                        (try simp (disch := omega) only [if_pos, Nat.sub_zero])
                        exact leT_refl _
                      · refine guardK_T c49 ?_
                        try simp -implicitDefEqProofs (maxSteps := 4000000) (disch := first | omega | decide | (simp only [go_sem]; omega)) only [go_sem, ↓reduceIte]
                        repeat (with_reducible refine And.intro (by first | assumption | omega | (simp; done) | (simp; omega)) ?_)
                        refine toEnd hC ?_
                        refine endX_seq ?_
                        rcases iteB_some h with ⟨c50, h⟩ | ⟨c50, h⟩
                        · refine runX_condT rfl c50 ?_
                          refine runX_seq ?_
                          refine runX_regionC fun C hC => ?_
                          try simp -implicitDefEqProofs (maxSteps := 4000000) (disch := first | omega | decide | (simp only [go_sem]; omega)) only [go_sem, ↓reduceIte]
                          repeat (with_reducible refine And.intro (by first | assumption | omega | (simp; done) | (simp; omega)) ?_)
                          refine toEnd hC ?_
                          refine endX_seq ?_
                          refine runX_ret ?_
                          refine endX_seqR ?_
                          refine endX_seqR ?_
                          refine endX_q ?_
                          obtain rfl := Option.some.inj h
                          show RetW _ _ _ _ _
                          simp only [RetW]
                          (try simp -implicitDefEqProofs (maxSteps := 4000000) (disch := first | omega | decide | (simp only [go_sem]; omega)) only [go_sem, ↓reduceIte])
                          (try simp (disch := omega) only [if_pos, Nat.sub_zero])
                          exact leT_refl _
                        · refine runX_condF rfl c50 ?_
                          refine runX_skip ?_
                          refine endX_seq ?_
                          refine runX_meet [1, 11] (fun S => ∃ (x52 : Int), S = F18_S4 x2 x52 ∧ F18_J4 m2 x2 x52 = some r) ?_ ?_
                          · refine runX_seq ?_
                            refine runX_regionC fun C hC => ?_
                            try simp -implicitDefEqProofs (maxSteps := 4000000) (disch := first | omega | decide | (simp only [go_sem]; omega)) only [go_sem, ↓reduceIte]
                            repeat (with_reducible refine And.intro (by first | assumption | omega | (simp; done) | (simp; omega)) ?_)
                            refine toEnd hC ?_
                            refine endX_seq ?_
                            rcases iteB_some h with ⟨c51, h⟩ | ⟨c51, h⟩
                            · refine runX_condT rfl c51 ?_
                              refine runX_regionC fun C hC => ?_
                              try simp -implicitDefEqProofs (maxSteps := 4000000) (disch := first | omega | decide | (simp only [go_sem]; omega)) only [go_sem, ↓reduceIte]
                              repeat (with_reducible refine And.intro (by first | assumption | omega | (simp; done) | (simp; omega)) ?_)
                              refine toEnd hC ?_
                              refine endX_q (meetQ_normal ⟨F18_S4 x2 x2, ?_, x2, rfl, h⟩)
                              simp only [F18_S4]
                              (try simp -implicitDefEqProofs (maxSteps := 4000000) (disch := first | omega | decide | (simp only [go_sem]; omega)) only [go_sem, ↓reduceIte])
                              first | exact leS_refl _ | (refine leS_le ?_ ?_ <;> first | exact leL_refl _ | exact leOs_refl _ | (repeat (first | exact leL_refl _ | refine leL_cons (by first | exact leT_refl _ | exact leT_virt | exact leT_junk _ | exact leT_sl | exact leT_sln | exact leT_nil) ?_)))
                            · refine runX_condF rfl c51 ?_
                              refine runX_skip ?_
                              refine endX_q (meetQ_normal ⟨F18_S4 x2 v46.1, ?_, v46.1, rfl, h⟩)
                              simp only [F18_S4]
                              (try simp -implicitDefEqProofs (maxSteps := 4000000) (disch := first | omega | decide | (simp only [go_sem]; omega)) only [go_sem, ↓reduceIte])
                              first | exact leS_refl _ | (refine leS_le ?_ ?_ <;> first | exact leL_refl _ | exact leOs_refl _ | (repeat (first | exact leL_refl _ | refine leL_cons (by first | exact leT_refl _ | exact leT_virt | exact leT_junk _ | exact leT_sl | exact leT_sln | exact leT_nil) ?_)))
                          · clear h
                            rintro S ⟨x52, rfl, h⟩
                            rw [F18_J4] at h
                            simp only [F18_S4]
                            refine runX_seq ?_
                            refine runX_regionC fun C hC => ?_
                            try simp -implicitDefEqProofs (maxSteps := 4000000) (disch := first | omega | decide | (simp only [go_sem]; omega)) only [go_sem, ↓reduceIte]
                            repeat (with_reducible refine And.intro (by first | assumption | omega | (simp; done) | (simp; omega)) ?_)
                            refine toEnd hC ?_
                            refine endX_seq ?_
                            refine runX_ret ?_
                            refine endX_seqR ?_
                            refine endX_q ?_
                            obtain rfl := Option.some.inj h
                            show RetW _ _ _ _ _
                            simp only [RetW]
                            (try simp -implicitDefEqProofs (maxSteps := 4000000) (disch := first | omega | decide | (simp only [go_sem]; omega)) only [go_sem, ↓reduceIte])
                            (try simp (disch := omega) only [if_pos, Nat.sub_zero])
                            exact leT_refl _
                    · refine runX_condF rfl c48 ?_
                      refine runX_skip ?_
                      refine endX_seq ?_
                      refine runX_seq ?_
                      refine runX_regionC fun C hC => ?_
                      try simp -implicitDefEqProofs (maxSteps := 4000000) (disch := first | omega | decide | (simp only [go_sem]; omega)) only [go_sem, ↓reduceIte]
                      repeat (with_reducible refine And.intro (by first | assumption | omega | (simp; done) | (simp; omega)) ?_)
                      refine toEnd hC ?_
                      refine endX_seq ?_
                      refine runX_seq ?_
                      refine runX_seq ?_
                      refine runX_regionC fun C hC => ?_
                      try simp -implicitDefEqProofs (maxSteps := 4000000) (disch := first | omega | decide | (simp only [go_sem]; omega)) only [go_sem, ↓reduceIte]
                      repeat (with_reducible refine And.intro (by first | assumption | omega | (simp; done) | (simp; omega)) ?_)
                      rcases iteB_some h with ⟨c53, h⟩ | ⟨c53, h⟩
                      · refine guardK_F c53 ?_
                        try simp -implicitDefEqProofs (maxSteps := 4000000) (disch := first | omega | decide | (simp only [go_sem]; omega)) only [go_sem, ↓reduceIte]
                        repeat (with_reducible refine And.intro (by first | assumption | omega | (simp; done) | (simp; omega)) ?_)
                        refine toEnd hC ?_
                        refine endX_seq ?_
                        refine runX_condT rfl rfl ?_
                        refine runX_seq ?_
                        refine runX_regionC fun C hC => ?_
                        try simp -implicitDefEqProofs (maxSteps := 4000000) (disch := first | omega | decide | (simp only [go_sem]; omega)) only [go_sem, ↓reduceIte]
                        repeat (with_reducible refine And.intro (by first | assumption | omega | (simp; done) | (simp; omega)) ?_)
                        refine toEnd hC ?_
                        refine endX_seq ?_
                        refine runX_ret ?_
                        refine endX_seqR ?_
                        refine endX_q ?_
                        obtain rfl := Option.some.inj h
                        show RetW _ _ _ _ _
                        simp only [RetW]
                        (try simp -implicitDefEqProofs (maxSteps := 4000000) (disch := first | omega | decide | (simp only [go_sem]; omega)) only [go_sem, ↓reduceIte])
                        (try simp (disch := omega) only [if_pos, Nat.sub_zero])
                        exact leT_refl _
                      · refine guardK_T c53 ?_
                        try simp -implicitDefEqProofs (maxSteps := 4000000) (disch := first | omega | decide | (simp only [go_sem]; omega)) only [go_sem, ↓reduceIte]
                        repeat (with_reducible refine And.intro (by first | assumption | omega | (simp; done) | (simp; omega)) ?_)
                        rcases iteB_some h with ⟨c54, h⟩ | ⟨c54, h⟩
                        · refine guardK_T c54 ?_
                          try simp -implicitDefEqProofs (maxSteps := 4000000) (disch := first | omega | decide | (simp only [go_sem]; omega)) only [go_sem, ↓reduceIte]
                          repeat (with_reducible refine And.intro (by first | assumption | omega | (simp; done) | (simp; omega)) ?_)
                          rcases iteB_some h with ⟨c55, h⟩ | ⟨c55, h⟩
                          · refine guardK_F c55 ?_
                            try simp -implicitDefEqProofs (maxSteps := 4000000) (disch := first | omega | decide | (simp only [go_sem]; omega)) only [go_sem, ↓reduceIte]
                            repeat (with_reducible refine And.intro (by first | assumption | omega | (simp; done) | (simp; omega)) ?_)
                            refine toEnd hC ?_
                            refine endX_seq ?_
                            refine runX_condT rfl rfl ?_
                            refine runX_seq ?_
                            refine runX_regionC fun C hC => ?_
                            try simp -implicitDefEqProofs (maxSteps := 4000000) (disch := first | omega | decide | (simp only [go_sem]; omega)) only [go_sem, ↓reduceIte]
                            repeat (with_reducible refine And.intro (by first | assumption | omega | (simp; done) | (simp; omega)) ?_)
                            refine toEnd hC ?_
                            refine endX_seq ?_
                            refine runX_ret ?_
                            refine endX_seqR ?_
                            refine endX_q ?_
                            obtain rfl := Option.some.inj h
                            show RetW _ _ _ _ _
                            simp only [RetW]
                            (try simp -implicitDefEqProofs (maxSteps := 4000000) (disch := first | omega | decide | (simp only [go_sem]; omega)) only [go_sem, ↓reduceIte])
                            (try simp (disch := omega) only [if_pos, Nat.sub_zero])
                            exact leT_refl _
                          · refine guardK_T c55 ?_
                            try simp -implicitDefEqProofs (maxSteps := 4000000) (disch := first | omega | decide | (simp only [go_sem]; omega)) only [go_sem, ↓reduceIte]
                            repeat (with_reducible refine And.intro (by first | assumption | omega | (simp; done) | (simp; omega)) ?_)
                            refine toEnd hC ?_
                            refine endX_seq ?_
                            rcases iteB_some h with ⟨c56, h⟩ | ⟨c56, h⟩
                            · refine runX_condT rfl c56 ?_
                              refine runX_seq ?_
                              refine runX_regionC fun C hC => ?_
                              try simp -implicitDefEqProofs (maxSteps := 4000000) (disch := first | omega | decide | (simp only [go_sem]; omega)) only [go_sem, ↓reduceIte]
                              repeat (with_reducible refine And.intro (by first | assumption | omega | (simp; done) | (simp; omega)) ?_)
                              refine toEnd hC ?_
                              refine endX_seq ?_
                              refine runX_ret ?_
                              refine endX_seqR ?_
                              refine endX_q ?_
                              obtain rfl := Option.some.inj h
                              show RetW _ _ _ _ _
                              simp only [RetW]
                              (try simp -implicitDefEqProofs (maxSteps := 4000000) (disch := first | omega | decide | (simp only [go_sem]; omega)) only [go_sem, ↓reduceIte])
                              (try simp (disch := omega) only [if_pos, Nat.sub_zero])
                              exact leT_refl _
                            · refine runX_condF rfl c56 ?_
                              refine runX_skip ?_
                              refine endX_seq ?_
                              refine runX_seq ?_
                              refine runX_seq ?_
                              refine runX_regionC fun C hC => ?_
                              try simp -implicitDefEqProofs (maxSteps := 4000000) (disch := first | omega | decide | (simp only [go_sem]; omega)) only [go_sem, ↓reduceIte]
                              repeat (with_reducible refine And.intro (by first | assumption | omega | (simp; done) | (simp; omega)) ?_)
                              refine toEnd hC ?_
                              refine endX_seq ?_
                              rcases iteB_some h with ⟨c57, h⟩ | ⟨c57, h⟩
                              · refine runX_condT rfl c57 ?_
                                refine runX_seq ?_
                                refine runX_regionC fun C hC => ?_
                                try simp -implicitDefEqProofs (maxSteps := 4000000) (disch := first | omega | decide | (simp only [go_sem]; omega)) only [go_sem, ↓reduceIte]
                                repeat (with_reducible refine And.intro (by first | assumption | omega | (simp; done) | (simp; omega)) ?_)
                                refine toEnd hC ?_
                                refine endX_seq ?_
                                refine runX_ret ?_
                                refine endX_seqR ?_
                                refine endX_q ?_
                                obtain rfl := Option.some.inj h
                                show RetW _ _ _ _ _
                                simp only [RetW]
                                (try simp -implicitDefEqProofs (maxSteps := 4000000) (disch := first | omega | decide | (simp only [go_sem]; omega)) only [go_sem, ↓reduceIte])
                                (try simp (disch := omega) only [if_pos, Nat.sub_zero])
                                exact leT_refl _
                              · refine runX_condF rfl c57 ?_
                                refine runX_skip ?_
                                refine endX_seq ?_
                                refine runX_seq ?_
                                refine runX_seq ?_
                                refine runX_regionC fun C hC => ?_
                                try simp -implicitDefEqProofs (maxSteps := 4000000) (disch := first | omega | decide | (simp only [go_sem]; omega)) only [go_sem, ↓reduceIte]
                                repeat (with_reducible refine And.intro (by first | assumption | omega | (simp; done) | (simp; omega)) ?_)
                                rcases iteB_some h with ⟨c58, h⟩ | ⟨c58, h⟩
                                · refine guardK_F c58 ?_
                                  try simp -implicitDefEqProofs (maxSteps := 4000000) (disch := first | omega | decide | (simp only [go_sem]; omega)) only [go_sem, ↓reduceIte]
                                  repeat (with_reducible refine And.intro (by first | assumption | omega | (simp; done) | (simp; omega)) ?_)
                                  refine toEnd hC ?_
                                  refine endX_seq ?_
                                  refine runX_condT rfl rfl ?_
                                  refine runX_seq ?_
                                  refine runX_regionC fun C hC => ?_
                                  try simp -implicitDefEqProofs (maxSteps := 4000000) (disch := first | omega | decide | (simp only [go_sem]; omega)) only [go_sem, ↓reduceIte]
                                  repeat (with_reducible refine And.intro (by first | assumption | omega | (simp; done) | (simp; omega)) ?_)
                                  refine toEnd hC ?_
                                  refine endX_seq ?_
                                  refine runX_ret ?_
                                  refine endX_seqR ?_
                                  refine endX_q ?_
                                  obtain rfl := Option.some.inj h
                                  show RetW _ _ _ _ _
                                  simp only [RetW]
                                  (try simp -implicitDefEqProofs (maxSteps := 4000000) (disch := first | omega | decide | (simp only [go_sem]; omega)) only [go_sem, ↓reduceIte])
                                  (try simp (disch := omega) only [if_pos, Nat.sub_zero])
                                  exact leT_refl _
                                · refine guardK_T c58 ?_
                                  try simp -implicitDefEqProofs (maxSteps := 4000000) (disch := first | omega | decide | (simp only [go_sem]; omega)) only [go_sem, ↓reduceIte]
                                  repeat (with_reducible refine And.intro (by first | assumption | omega | (simp; done) | (simp; omega)) ?_)
                                  refine toEnd hC ?_
                                  refine endX_seq ?_
                                  rcases iteB_some h with ⟨c59, h⟩ | ⟨c59, h⟩
                                  · refine runX_condT rfl c59 ?_
                                    refine runX_seq ?_
                                    refine runX_regionC fun C hC => ?_
                                    try simp -implicitDefEqProofs (maxSteps := 4000000) (disch := first | omega | decide | (simp only [go_sem]; omega)) only [go_sem, ↓reduceIte]
                                    repeat (with_reducible refine And.intro (by first | assumption | omega | (simp; done) | (simp; omega)) ?_)
                                    refine toEnd hC ?_
                                    refine endX_seq ?_
                                    refine runX_ret ?_
                                    refine endX_seqR ?_
                                    refine endX_q ?_
                                    obtain rfl := Option.some.inj h
                                    show RetW _ _ _ _ _
                                    simp only [RetW]
                                    (try simp -implicitDefEqProofs (maxSteps := 4000000) (disch := first | omega | decide | (simp only [go_sem]; omega)) only [go_sem, ↓reduceIte])
                                    (try simp (disch := omega) only [if_pos, Nat.sub_zero])
                                    exact leT_refl _
                                  · refine runX_condF rfl c59 ?_
                                    refine runX_skip ?_
                                    refine endX_seq ?_
                                    refine runX_seq ?_
                                    refine runX_regionC fun C hC => ?_
                                    try simp -implicitDefEqProofs (maxSteps := 4000000) (disch := first | omega | decide | (simp only [go_sem]; omega)) only [go_sem, ↓reduceIte]
                                    repeat (with_reducible refine And.intro (by first | assumption | omega | (simp; done) | (simp; omega)) ?_)
                                    refine toEnd hC ?_
                                    refine endX_seq ?_
                                    refine runX_ret ?_
                                    refine endX_q ?_
                                    obtain rfl := Option.some.inj h
                                    show RetW _ _ _ _ _
                                    simp only [RetW]
                                    (try simp -implicitDefEqProofs (maxSteps := 4000000) (disch := first | omega | decide | (simp only [go_sem]; omega)) only [go_sem, ↓reduceIte])
                                    (try simp (disch := omega) only [if_pos, Nat.sub_zero])
                                    exact leT_refl _
                        · refine guardK_F c54 ?_
                          try simp -implicitDefEqProofs (maxSteps := 4000000) (disch := first | omega | decide | (simp only [go_sem]; omega)) only [go_sem, ↓reduceIte]
                          repeat (with_reducible refine And.intro (by first | assumption | omega | (simp; done) | (simp; omega)) ?_)
                          refine toEnd hC ?_
                          refine endX_seq ?_
                          refine runX_condF rfl rfl ?_
                          refine runX_skip ?_
                          refine endX_seq ?_
                          refine runX_seq ?_
                          refine runX_seq ?_
                          refine runX_regionC fun C hC => ?_
                          try simp -implicitDefEqProofs (maxSteps := 4000000) (disch := first | omega | decide | (simp only [go_sem]; omega)) only [go_sem, ↓reduceIte]
                          repeat (with_reducible refine And.intro (by first | assumption | omega | (simp; done) | (simp; omega)) ?_)
                          refine toEnd hC ?_
                          refine endX_seq ?_
                          rcases iteB_some h with ⟨c60, h⟩ | ⟨c60, h⟩
                          · refine runX_condT rfl c60 ?_
                            refine runX_seq ?_
                            refine runX_regionC fun C hC => ?_
                            try simp -implicitDefEqProofs (maxSteps := 4000000) (disch := first | omega | decide | (simp only [go_sem]; omega)) only [go_sem, ↓reduceIte]
                            repeat (with_reducible refine And.intro (by first | assumption | omega | (simp; done) | (simp; omega)) ?_)
                            refine toEnd hC ?_
                            refine endX_seq ?_
                            refine runX_ret ?_
                            refine endX_seqR ?_
                            refine endX_q ?_
                            obtain rfl := Option.some.inj h
                            show RetW _ _ _ _ _
                            simp only [RetW]
                            (try simp -implicitDefEqProofs (maxSteps := 4000000) (disch := first | omega | decide | (simp only [go_sem]; omega)) only [go_sem, ↓reduceIte])
                            (try simp (disch := omega) only [if_pos, Nat.sub_zero])
                            exact leT_refl _
                          · refine runX_condF rfl c60 ?_
                            refine runX_skip ?_
                            refine endX_seq ?_
                            refine runX_seq ?_
                            refine runX_seq ?_
                            refine runX_regionC fun C hC => ?_
                            try simp -implicitDefEqProofs (maxSteps := 4000000) (disch := first | omega | decide | (simp only [go_sem]; omega)) only [go_sem, ↓reduceIte]
                            repeat (with_reducible refine And.intro (by first | assumption | omega | (simp; done) | (simp; omega)) ?_)
                            rcases iteB_some h with ⟨c61, h⟩ | ⟨c61, h⟩
                            · refine guardK_F c61 ?_
                              try simp -implicitDefEqProofs (maxSteps := 4000000) (disch := first | omega | decide | (simp only [go_sem]; omega)) only [go_sem, ↓reduceIte]
                              repeat (with_reducible refine And.intro (by first | assumption | omega | (simp; done) | (simp; omega)) ?_)
                              refine toEnd hC ?_
                              refine endX_seq ?_
                              refine runX_condT rfl rfl ?_
                              refine runX_seq ?_
                              refine runX_regionC fun C hC => ?_
                              try simp -implicitDefEqProofs (maxSteps := 4000000) (disch := first | omega | decide | (simp only [go_sem]; omega)) only [go_sem, ↓reduceIte]
                              repeat (with_reducible refine And.intro (by first | assumption | omega | (simp; done) | (simp; omega)) ?_)
                              refine toEnd hC ?_
                              refine endX_seq ?_
                              refine runX_ret ?_
                              refine endX_seqR ?_
                              refine endX_q ?_
                              obtain rfl := Option.some.inj h
                              show RetW _ _ _ _ _
                              simp only [RetW]
                              (try simp -implicitDefEqProofs (maxSteps := 4000000) (disch := first | omega | decide | (simp only [go_sem]; omega)) only [go_sem, ↓reduceIte])
                              (try simp (disch := omega) only [if_pos, Nat.sub_zero])
                              exact leT_refl _
                            · refine guardK_T c61 ?_
                              try simp -implicitDefEqProofs (maxSteps := 4000000) (disch := first | omega | decide | (simp only [go_sem]; omega)) only [go_sem, ↓reduceIte]
                              repeat (with_reducible refine And.intro (by first | assumption | omega | (simp; done) | (simp; omega)) ?_)
                              refine toEnd hC ?_
                              refine endX_seq ?_
                              rcases iteB_some h with ⟨c62, h⟩ | ⟨c62, h⟩
                              · refine runX_condT rfl c62 ?_
                                refine runX_seq ?_
                                refine runX_regionC fun C hC => ?_
                                try simp -implicitDefEqProofs (maxSteps := 4000000) (disch := first | omega | decide | (simp only [go_sem]; omega)) only [go_sem, ↓reduceIte]
                                repeat (with_reducible refine And.intro (by first | assumption | omega | (simp; done) | (simp; omega)) ?_)
                                refine toEnd hC ?_
                                refine endX_seq ?_
                                refine runX_ret ?_
                                refine endX_seqR ?_
                                refine endX_q ?_
                                obtain rfl := Option.some.inj h
                                show RetW _ _ _ _ _
                                simp only [RetW]
                                (try simp -implicitDefEqProofs (maxSteps := 4000000) (disch := first | omega | decide | (simp only [go_sem]; omega)) only [go_sem, ↓reduceIte])
                                (try simp (disch := omega) only [if_pos, Nat.sub_zero])
                                exact leT_refl _
                              · refine runX_condF rfl c62 ?_
                                refine runX_skip ?_
                                refine endX_seq ?_
                                refine runX_seq ?_
                                refine runX_regionC fun C hC => ?_
                                try simp -implicitDefEqProofs (maxSteps := 4000000) (disch := first | omega | decide | (simp only [go_sem]; omega)) only [go_sem, ↓reduceIte]
                                repeat (with_reducible refine And.intro (by first | assumption | omega | (simp; done) | (simp; omega)) ?_)
                                refine toEnd hC ?_
                                refine endX_seq ?_
                                refine runX_ret ?_
                                refine endX_q ?_
                                obtain rfl := Option.some.inj h
                                show RetW _ _ _ _ _
                                simp only [RetW]
                                (try simp -implicitDefEqProofs (maxSteps := 4000000) (disch := first | omega | decide | (simp only [go_sem]; omega)) only [go_sem, ↓reduceIte])
                                (try simp (disch := omega) only [if_pos, Nat.sub_zero])
                                exact leT_refl _
                  · refine guardK_F c47 ?_
                    try simp -implicitDefEqProofs (maxSteps := 4000000) (disch := first | omega | decide | (simp only [go_sem]; omega)) only [go_sem, ↓reduceIte]
                    repeat (with_reducible refine And.intro (by first | assumption | omega | (simp; done) | (simp; omega)) ?_)
                    refine toEnd hC ?_
                    refine endX_seq ?_
                    refine runX_condF rfl rfl ?_
                    refine runX_skip ?_
                    refine endX_seq ?_
                    refine runX_seq ?_
                    refine runX_regionC fun C hC => ?_
                    try simp -implicitDefEqProofs (maxSteps := 4000000) (disch := first | omega | decide | (simp only [go_sem]; omega)) only [go_sem, ↓reduceIte]
                    repeat (with_reducible refine And.intro (by first | assumption | omega | (simp; done) | (simp; omega)) ?_)
                    refine toEnd hC ?_
                    refine endX_seq ?_
                    refine runX_seq ?_
                    refine runX_seq ?_
                    refine runX_regionC fun C hC => ?_
                    try simp -implicitDefEqProofs (maxSteps := 4000000) (disch := first | omega | decide | (simp only [go_sem]; omega)) only [go_sem, ↓reduceIte]
                    repeat (with_reducible refine And.intro (by first | assumption | omega | (simp; done) | (simp; omega)) ?_)
                    rcases iteB_some h with ⟨c63, h⟩ | ⟨c63, h⟩
                    · refine guardK_F c63 ?_
                      try simp -implicitDefEqProofs (maxSteps := 4000000) (disch := first | omega | decide | (simp only [go_sem]; omega)) only [go_sem, ↓reduceIte]
                      repeat (with_reducible refine And.intro (by first | assumption | omega | (simp; done) | (simp; omega)) ?_)
                      refine toEnd hC ?_
                      refine endX_seq ?_
                      refine runX_condT rfl rfl ?_
                      refine runX_seq ?_
                      refine runX_regionC fun C hC => ?_
                      try simp -implicitDefEqProofs (maxSteps := 4000000) (disch := first | omega | decide | (simp only [go_sem]; omega)) only [go_sem, ↓reduceIte]
                      repeat (with_reducible refine And.intro (by first | assumption | omega | (simp; done) | (simp; omega)) ?_)
                      refine toEnd hC ?_
                      refine endX_seq ?_
                      refine runX_ret ?_
                      refine endX_seqR ?_
                      refine endX_q ?_
                      obtain rfl := Option.some.inj h
                      show RetW _ _ _ _ _
                      simp only [RetW]
                      (try simp -implicitDefEqProofs (maxSteps := 4000000) (disch := first | omega | decide | (simp only [go_sem]; omega)) only [go_sem, ↓reduceIte])
                      (try simp (disch := omega) only [if_pos, Nat.sub_zero])
                      exact leT_refl _
                    · refine guardK_T c63 ?_
                      try simp -implicitDefEqProofs (maxSteps := 4000000) (disch := first | omega | decide | (simp only [go_sem]; omega)) only [go_sem, ↓reduceIte]
                      repeat (with_reducible refine And.intro (by first | assumption | omega | (simp; done) | (simp; omega)) ?_)
                      rcases iteB_some h with ⟨c64, h⟩ | ⟨c64, h⟩
                      · refine guardK_T c64 ?_
                        try simp -implicitDefEqProofs (maxSteps := 4000000) (disch := first | omega | decide | (simp only [go_sem]; omega)) only [go_sem, ↓reduceIte]
                        repeat (with_reducible refine And.intro (by first | assumption | omega | (simp; done) | (simp; omega)) ?_)
                        rcases iteB_some h with ⟨c65, h⟩ | ⟨c65, h⟩
                        · refine guardK_F c65 ?_
                          try simp -implicitDefEqProofs (maxSteps := 4000000) (disch := first | omega | decide | (simp only [go_sem]; omega)) only [go_sem, ↓reduceIte]
                          repeat (with_reducible refine And.intro (by first | assumption | omega | (simp; done) | (simp; omega)) ?_)
                          refine toEnd hC ?_
                          refine endX_seq ?_
                          refine runX_condT rfl rfl ?_
                          refine runX_seq ?_
                          refine runX_regionC fun C hC => ?_
                          try simp -implicitDefEqProofs (maxSteps := 4000000) (disch := first | omega | decide | (simp only [go_sem]; omega)) only [go_sem, ↓reduceIte]
                          repeat (with_reducible refine And.intro (by first | assumption | omega | (simp; done) | (simp; omega)) ?_)
                          refine toEnd hC ?_
                          refine endX_seq ?_
                          refine runX_ret ?_
                          refine endX_seqR ?_
                          refine endX_q ?_
                          obtain rfl := Option.some.inj h
                          show RetW _ _ _ _ _
                          simp only [RetW]
                          (try simp -implicitDefEqProofs (maxSteps := 4000000) (disch := first | omega | decide | (simp only [go_sem]; omega)) only [go_sem, ↓reduceIte])
                          (try simp (disch := omega) only [if_pos, Nat.sub_zero])
                          exact leT_refl _
                        · refine guardK_T c65 ?_
                          try simp -implicitDefEqProofs (maxSteps := 4000000) (disch := first | omega | decide | (simp only [go_sem]; omega)) only [go_sem, ↓reduceIte]
                          repeat (with_reducible refine And.intro (by first | assumption | omega | (simp; done) | (simp; omega)) ?_)
                          refine toEnd hC ?_
                          refine endX_seq ?_
                          rcases iteB_some h with ⟨c66, h⟩ | ⟨c66, h⟩
                          · refine runX_condT rfl c66 ?_
                            refine runX_seq ?_
                            refine runX_regionC fun C hC => ?_
                            try simp -implicitDefEqProofs (maxSteps := 4000000) (disch := first | omega | decide | (simp only [go_sem]; omega)) only [go_sem, ↓reduceIte]
                            repeat (with_reducible refine And.intro (by first | assumption | omega | (simp; done) | (simp; omega)) ?_)
                            refine toEnd hC ?_
                            refine endX_seq ?_
                            refine runX_ret ?_
                            refine endX_seqR ?_
                            refine endX_q ?_
                            obtain rfl := Option.some.inj h
                            show RetW _ _ _ _ _
                            simp only [RetW]
                            (try simp -implicitDefEqProofs (maxSteps := 4000000) (disch := first | omega | decide | (simp only [go_sem]; omega)) only [go_sem, ↓reduceIte])
                            (try simp (disch := omega) only [if_pos, Nat.sub_zero])
                            exact leT_refl _
                          · refine runX_condF rfl c66 ?_
                            refine runX_skip ?_
                            refine endX_seq ?_
                            refine runX_seq ?_
                            refine runX_seq ?_
                            refine runX_regionC fun C hC => ?_
                            try simp -implicitDefEqProofs (maxSteps := 4000000) (disch := first | omega | decide | (simp only [go_sem]; omega)) only [go_sem, ↓reduceIte]
                            repeat (with_reducible refine And.intro (by first | assumption | omega | (simp; done) | (simp; omega)) ?_)
                            refine toEnd hC ?_
                            refine endX_seq ?_
                            rcases iteB_some h with ⟨c67, h⟩ | ⟨c67, h⟩
                            · refine runX_condT rfl c67 ?_
                              refine runX_seq ?_
                              refine runX_regionC fun C hC => ?_
                              try simp -implicitDefEqProofs (maxSteps := 4000000) (disch := first | omega | decide | (simp only [go_sem]; omega)) only [go_sem, ↓reduceIte]
                              repeat (with_reducible refine And.intro (by first | assumption | omega | (simp; done) | (simp; omega)) ?_)
                              refine toEnd hC ?_
                              refine endX_seq ?_
                              refine runX_ret ?_
                              refine endX_seqR ?_
                              refine endX_q ?_
                              obtain rfl := Option.some.inj h
                              show RetW _ _ _ _ _
                              simp only [RetW]
                              (try simp -implicitDefEqProofs (maxSteps := 4000000) (disch := first | omega | decide | (simp only [go_sem]; omega)) only [go_sem, ↓reduceIte])
                              (try simp (disch := omega) only [if_pos, Nat.sub_zero])
                              exact leT_refl _
                            · refine runX_condF rfl c67 ?_
                              refine runX_skip ?_
                              refine endX_seq ?_
                              refine runX_seq ?_
                              refine runX_seq ?_
                              refine runX_regionC fun C hC => ?_
                              try simp -implicitDefEqProofs (maxSteps := 4000000) (disch := first | omega | decide | (simp only [go_sem]; omega)) only [go_sem, ↓reduceIte]
                              repeat (with_reducible refine And.intro (by first | assumption | omega | (simp; done) | (simp; omega)) ?_)
                              rcases iteB_some h with ⟨c68, h⟩ | ⟨c68, h⟩
                              · refine guardK_F c68 ?_
                                try simp -implicitDefEqProofs (maxSteps := 4000000) (disch := first | omega | decide | (simp only [go_sem]; omega)) only [go_sem, ↓reduceIte]
                                repeat (with_reducible refine And.intro (by first | assumption | omega | (simp; done) | (simp; omega)) ?_)
                                refine toEnd hC ?_
                                refine endX_seq ?_
                                refine runX_condT rfl rfl ?_
                                refine runX_seq ?_
                                refine runX_regionC fun C hC => ?_
                                try simp -implicitDefEqProofs (maxSteps := 4000000) (disch := first | omega | decide | (simp only [go_sem]; omega)) only [go_sem, ↓reduceIte]
                                repeat (with_reducible refine And.intro (by first | assumption | omega | (simp; done) | (simp; omega)) ?_)
                                refine toEnd hC ?_
                                refine endX_seq ?_
                                refine runX_ret ?_
                                refine endX_seqR ?_
                                refine endX_q ?_
                                obtain rfl := Option.some.inj h
                                show RetW _ _ _ _ _
                                simp only [RetW]
                                (try simp -implicitDefEqProofs (maxSteps := 4000000) (disch := first | omega | decide | (simp only [go_sem]; omega)) only [go_sem, ↓reduceIte])
                                (try simp (disch := omega) only [if_pos, Nat.sub_zero])
                                exact leT_refl _
                              · refine guardK_T c68 ?_
                                try simp -implicitDefEqProofs (maxSteps := 4000000) (disch := first | omega | decide | (simp only [go_sem]; omega)) only [go_sem, ↓reduceIte]
                                repeat (with_reducible refine And.intro (by first | assumption | omega | (simp; done) | (simp; omega)) ?_)
                                refine toEnd hC ?_
                                refine endX_seq ?_
                                rcases iteB_some h with ⟨c69, h⟩ | ⟨c69, h⟩
                                · refine runX_condT rfl c69 ?_
                                  refine runX_seq ?_
                                  refine runX_regionC fun C hC => ?_
                                  try simp -implicitDefEqProofs (maxSteps := 4000000) (disch := first | omega | decide | (simp only [go_sem]; omega)) only [go_sem, ↓reduceIte]
                                  repeat (with_reducible refine And.intro (by first | assumption | omega | (simp; done) | (simp; omega)) ?_)
                                  refine toEnd hC ?_
                                  refine endX_seq ?_
                                  refine runX_ret ?_
                                  refine endX_seqR ?_
                                  refine endX_q ?_
                                  obtain rfl := Option.some.inj h
                                  show RetW _ _ _ _ _
                                  simp only [RetW]
                                  (try simp -implicitDefEqProofs (maxSteps := 4000000) (disch := first | omega | decide | (simp only [go_sem]; omega)) only [go_sem, ↓reduceIte])
                                  (try simp (disch := omega) only [if_pos, Nat.sub_zero])
                                  exact leT_refl _
                                · refine runX_condF rfl c69 ?_
                                  refine runX_skip ?_
                                  refine endX_seq ?_
                                  refine runX_seq ?_
                                  refine runX_regionC fun C hC => ?_
                                  try simp -implicitDefEqProofs (maxSteps := 4000000) (disch := first | omega | decide | (simp only [go_sem]; omega)) only [go_sem, ↓reduceIte]
                                  repeat (with_reducible refine And.intro (by first | assumption | omega | (simp; done) | (simp; omega)) ?_)
                                  refine toEnd hC ?_
                                  refine endX_seq ?_
                                  refine runX_ret ?_
                                  refine endX_q ?_
                                  obtain rfl := Option.some.inj h
                                  show RetW _ _ _ _ _
                                  simp only [RetW]
                                  (try simp -implicitDefEqProofs (maxSteps := 4000000) (disch := first | omega | decide | (simp only [go_sem]; omega)) only [go_sem, ↓reduceIte])
                                  (try simp (disch := omega) only [if_pos, Nat.sub_zero])
                                  exact leT_refl _
                      · refine guardK_F c64 ?_
                        try simp -implicitDefEqProofs (maxSteps := 4000000) (disch := first | omega | decide | (simp only [go_sem]; omega)) only [go_sem, ↓reduceIte]
                        repeat (with_reducible refine And.intro (by first | assumption | omega | (simp; done) | (simp; omega)) ?_)
                        refine toEnd hC ?_
                        refine endX_seq ?_
                        refine runX_condF rfl rfl ?_
                        refine runX_skip ?_
                        refine endX_seq ?_
                        refine runX_seq ?_
                        refine runX_seq ?_
                        refine runX_regionC fun C hC => ?_
                        try simp -implicitDefEqProofs (maxSteps := 4000000) (disch := first | omega | decide | (simp only [go_sem]; omega)) only [go_sem, ↓reduceIte]
                        repeat (with_reducible refine And.intro (by first | assumption | omega | (simp; done) | (simp; omega)) ?_)
                        refine toEnd hC ?_
                        refine endX_seq ?_
                        rcases iteB_some h with ⟨c70, h⟩ | ⟨c70, h⟩
                        · refine runX_condT rfl c70 ?_
                          refine runX_seq ?_
                          refine runX_regionC fun C hC => ?_
                          try simp -implicitDefEqProofs (maxSteps := 4000000) (disch := first | omega | decide | (simp only [go_sem]; omega)) only [go_sem, ↓reduceIte]
                          repeat (with_reducible refine And.intro (by first | assumption | omega | (simp; done) | (simp; omega)) ?_)
                          refine toEnd hC ?_
                          refine endX_seq ?_
                          refine runX_ret ?_
                          refine endX_seqR ?_
                          refine endX_q ?_
                          obtain rfl := Option.some.inj h
                          show RetW _ _ _ _ _
                          simp only [RetW]
                          (try simp -implicitDefEqProofs (maxSteps := 4000000) (disch := first | omega | decide | (simp only [go_sem]; omega)) only [go_sem, ↓reduceIte])
                          (try simp (disch := omega) only [if_pos, Nat.sub_zero])
                          exact leT_refl _
                        · refine runX_condF rfl c70 ?_
                          refine runX_skip ?_
                          refine endX_seq ?_
                          refine runX_seq ?_
                          refine runX_seq ?_
                          refine runX_regionC fun C hC => ?_
                          try simp -implicitDefEqProofs (maxSteps := 4000000) (disch := first | omega | decide | (simp only [go_sem]; omega)) only [go_sem, ↓reduceIte]
                          repeat (with_reducible refine And.intro (by first | assumption | omega | (simp; done) | (simp; omega)) ?_)
                          rcases iteB_some h with ⟨c71, h⟩ | ⟨c71, h⟩
                          · refine guardK_F c71 ?_
                            try simp -implicitDefEqProofs (maxSteps := 4000000) (disch := first | omega | decide | (simp only [go_sem]; omega)) only [go_sem, ↓reduceIte]
                            repeat (with_reducible refine And.intro (by first | assumption | omega | (simp; done) | (simp; omega)) ?_)
                            refine toEnd hC ?_
                            refine endX_seq ?_
                            refine runX_condT rfl rfl ?_
                            refine runX_seq ?_
                            refine runX_regionC fun C hC => ?_
                            try simp -implicitDefEqProofs (maxSteps := 4000000) (disch := first | omega | decide | (simp only [go_sem]; omega)) only [go_sem, ↓reduceIte]
                            repeat (with_reducible refine And.intro (by first | assumption | omega | (simp; done) | (simp; omega)) ?_)
                            refine toEnd hC ?_
                            refine endX_seq ?_
                            refine runX_ret ?_
                            refine endX_seqR ?_
                            refine endX_q ?_
                            obtain rfl := Option.some.inj h
                            show RetW _ _ _ _ _
                            simp only [RetW]
                            (try simp -implicitDefEqProofs (maxSteps := 4000000) (disch := first | omega | decide | (simp only [go_sem]; omega)) only [go_sem, ↓reduceIte])
                            (try simp (disch := omega) only [if_pos, Nat.sub_zero])
                            exact leT_refl _
                          · refine guardK_T c71 ?_
                            try simp -implicitDefEqProofs (maxSteps := 4000000) (disch := first | omega | decide | (simp only [go_sem]; omega)) only [go_sem, ↓reduceIte]
                            repeat (with_reducible refine And.intro (by first | assumption | omega | (simp; done) | (simp; omega)) ?_)
                            refine toEnd hC ?_
                            refine endX_seq ?_
                            rcases iteB_some h with ⟨c72, h⟩ | ⟨c72, h⟩
                            · refine runX_condT rfl c72 ?_
                              refine runX_seq ?_
                              refine runX_regionC fun C hC => ?_
                              try simp -implicitDefEqProofs (maxSteps := 4000000) (disch := first | omega | decide | (simp only [go_sem]; omega)) only [go_sem, ↓reduceIte]
                              repeat (with_reducible refine And.intro (by first | assumption | omega | (simp; done) | (simp; omega)) ?_)
                              refine toEnd hC ?_
                              refine endX_seq ?_
                              refine runX_ret ?_
                              refine endX_seqR ?_
                              refine endX_q ?_
                              obtain rfl := Option.some.inj h
                              show RetW _ _ _ _ _
                              simp only [RetW]
                              (try simp -implicitDefEqProofs (maxSteps := 4000000) (disch := first | omega | decide | (simp only [go_sem]; omega)) only [go_sem, ↓reduceIte])
                              (try simp (disch := omega) only [if_pos, Nat.sub_zero])
                              exact leT_refl _
                            · refine runX_condF rfl c72 ?_
                              refine runX_skip ?_
                              refine endX_seq ?_
                              refine runX_seq ?_
                              refine runX_regionC fun C hC => ?_
                              try simp -implicitDefEqProofs (maxSteps := 4000000) (disch := first | omega | decide | (simp only [go_sem]; omega)) only [go_sem, ↓reduceIte]
                              repeat (with_reducible refine And.intro (by first | assumption | omega | (simp; done) | (simp; omega)) ?_)
                              refine toEnd hC ?_
                              refine endX_seq ?_
                              refine runX_ret ?_
                              refine endX_q ?_
                              obtain rfl := Option.some.inj h
                              show RetW _ _ _ _ _
                              simp only [RetW]
                              (try simp -implicitDefEqProofs (maxSteps := 4000000) (disch := first | omega | decide | (simp only [go_sem]; omega)) only [go_sem, ↓reduceIte])
                              (try simp (disch := omega) only [if_pos, Nat.sub_zero])
                              exact leT_refl _
end Go.Proofs.YtbamlphgolldlaaX

set_option linter.unusedVariables false
set_option linter.unusedSimpArgs false
namespace Go.Proofs.YtbamlphgolldlaaX
open Go Go.RowKit Go.Proofs
set_option maxRecDepth 100000
attribute [local go_sem ↓] stepsK_build stepsK_build0
attribute [local go_sem] String.reduceEq String.reduceNe reduceCtorEq Int.reduceEq Nat.reduceAdd Nat.reduceSub Nat.reduceMul Nat.reduceLT Nat.reduceLeDiff Nat.reduceEqDiff Nat.reduceBEq Int.reduceToNat Int.reduceLT Int.reduceLE Int.reduceGT Int.reduceGE Int.reduceAdd Int.reduceSub Int.reduceMul Int.reduceNeg Int.reduceBEq Int.reduceBNe Int.reducePow Int.reduceDiv Int.reduceMod Int.reduceTDiv Int.reduceTMod Int.reduceNatCast
/-! ### hex.Decimal -/
def F51_S4 (x11 : Int) (x12 : Int) (x13 : List (Int)) : St := ⟨[.junk, .junk, .junk, .junk, .rsl 0 1 0 x13.length, .imm (.int .i64 x11), .imm (.int .i64 x12), .junk, .junk, .junk, .junk, .junk, .junk, .junk, .junk, .junk, .junk, .junk, .junk, .junk, .junk, .junk, .junk, .junk, .junk, .junk, .junk, .junk, .junk, .junk, .junk, .junk, .junk, .junk, .junk, .junk, .junk, .junk, .junk, .junk, .junk, .junk, .junk, .junk, .junk, .junk, .junk, .junk, .junk, .junk, .junk, .junk, .junk, .junk], [some (.buf 5 1 (List.map byteT x13) 0)]⟩
def F51_S3 (x10 : List (Int)) : St := ⟨[.junk, .junk, .junk, .junk, .rsl 0 1 0 x10.length, .junk, .junk, .junk, .junk, .junk, .junk, .junk, .junk, .junk, .junk, .junk, .junk, .junk, .junk, .junk, .junk, .junk, .junk, .junk, .junk, .junk, .junk, .junk, .junk, .junk, .junk, .junk, .junk, .junk, .junk, .junk, .junk, .junk, .junk, .junk, .junk, .junk, .junk, .junk, .junk, .junk, .junk, .junk, .junk, .junk, .junk, .junk, .junk, .junk], [some (.buf 5 1 (List.map byteT x10) 0)]⟩
def F51_S2 (a0 : Int) (x3 : Int) (x4 : List (Int)) : St := ⟨[.imm (.int .i64 a0), .junk, .junk, .imm (.int .u64 x3), .rsl 0 1 0 x4.length, .junk, .junk, .junk, .junk, .junk, .junk, .junk, .junk, .junk, .junk, .junk, .junk, .junk, .junk, .junk, .junk, .junk, .junk, .junk, .junk, .junk, .junk, .junk, .junk, .junk, .junk, .junk, .junk, .junk, .junk, .junk, .junk, .junk, .junk, .junk, .junk, .junk, .junk, .junk, .junk, .junk, .junk, .junk, .junk, .junk, .junk, .junk, .junk, .junk], [some (.buf 5 1 (List.map byteT x4) 0)]⟩
def F51_S1 (a0 : Int) (x2 : Int) : St := ⟨[.imm (.int .i64 a0), .junk, .junk, .imm (.int .u64 x2), .junk, .junk, .junk, .junk, .junk, .junk, .junk, .junk, .junk, .junk, .junk, .junk, .junk, .junk, .junk, .junk, .junk, .junk, .junk, .junk, .junk, .junk, .junk, .junk, .junk, .junk, .junk, .junk, .junk, .junk, .junk, .junk, .junk, .junk, .junk, .junk, .junk, .junk, .junk, .junk, .junk, .junk, .junk, .junk, .junk, .junk, .junk, .junk, .junk, .junk], []⟩
mutual
def F51_L4 : Nat → (Int) → (Int) → (List (Int)) → Option (List UInt8)
  | 0, _, _, _ => none
  | m4 + 1, x11, x12, x13 => iteB (decide (x11 < x12)) (grd (0 ≤ x12 ∧ x12 < (x13.length : Int)) (grd (x12.toNat < x13.length) (grd (0 ≤ x11 ∧ x11 < (x13.length : Int)) (grd (x11.toNat < x13.length) (grd (0 ≤ x11 ∧ x11 < (x13.length : Int)) (grd (x11.toNat < x13.length) (grd (0 ≤ x12 ∧ x12 < (x13.length : Int)) (grd (x12.toNat < x13.length) (F51_L4 m4 (IntKind.wrap .i64 (x11 + (1 : Int))) (IntKind.wrap .i64 (x12 - (1 : Int))) (List.set (List.set x13 x11.toNat (x13.getD x12.toNat default)) x12.toNat (x13.getD x11.toNat default))))))))))) (some (x13.map toB))
def F51_J3 (m2 : Nat) (x10 : List (Int)) : Option (List UInt8) := F51_L4 m2 (0 : Int) (IntKind.wrap .i64 ((x10.length : Int) - (1 : Int))) x10
def F51_L2 : Nat → (Int) → (Int) → (List (Int)) → Option (List UInt8)
  | 0, _, _, _ => none
  | m2 + 1, a0, x3, x4 => grd (0 ≤ (x3.tmod (10 : Int)) ∧ (x3.tmod (10 : Int)) < (16 : Int)) (grd ((x4.length + 1) ≤ 549755813888) (iteB ((IntKind.wrap .u64 (x3.tdiv (10 : Int))) == (0 : Int)) (iteB (decide (a0 < (0 : Int))) (grd ((x4.length + 2) ≤ 549755813888) (F51_J3 m2 ((x4 ++ ([((([48, 49, 50, 51, 52, 53, 54, 55, 56, 57, 97, 98, 99, 100, 101, 102] : List UInt8).getD (x3.tmod (10 : Int)).toNat 0).toNat : Int)])) ++ [(45 : Int)]))) (F51_J3 m2 (x4 ++ ([((([48, 49, 50, 51, 52, 53, 54, 55, 56, 57, 97, 98, 99, 100, 101, 102] : List UInt8).getD (x3.tmod (10 : Int)).toNat 0).toNat : Int)])))) (F51_L2 m2 a0 (IntKind.wrap .u64 (x3.tdiv (10 : Int))) (x4 ++ ([((([48, 49, 50, 51, 52, 53, 54, 55, 56, 57, 97, 98, 99, 100, 101, 102] : List UInt8).getD (x3.tmod (10 : Int)).toNat 0).toNat : Int)])))))
def F51_J1 (n : Nat) (a0 : Int) (x2 : Int) : Option (List UInt8) := F51_L2 n a0 x2 []
end
def F51 (n : Nat) (a0 : Int) : Option (List UInt8) := iteB (decide (a0 < (0 : Int))) (F51_J1 n a0 (IntKind.wrap .u64 ((0 : Int) - (IntKind.wrap .u64 (a0))))) (F51_J1 n a0 (IntKind.wrap .u64 (a0)))
set_option maxHeartbeats 4000000 in
theorem F51_ok : ∀ (n : Nat) (a0 : Int) (r : List UInt8), F51 n a0 = some r → FnC Try.prog 51 [.imm (.int .i64 a0)] (.imm (.string (bs r)))
  | n, a0, r, h => by
    unfold F51 at h
    refine FnC.goX mixed Try.func51 (by kernel_rfl) rfl ?_
    simp only [Try.ntmps51, List.length_cons, List.length_nil, List.replicate, List.cons_append, List.nil_append, Nat.reduceAdd, Nat.reduceSub]
    refine runX_seq ?_
    refine runX_regionC fun C hC => ?_
    try simp -implicitDefEqProofs (maxSteps := 4000000) (disch := first | omega | decide | (simp only [go_sem]; omega)) only [go_sem, ↓reduceIte]
    repeat (with_reducible refine And.intro (by first | assumption | omega | (simp; done) | (simp; omega)) ?_)
    refine toEnd hC ?_
    refine endX_seq ?_
    refine runX_seq ?_
    refine runX_regionC fun C hC => ?_
    try simp -implicitDefEqProofs (maxSteps := 4000000) (disch := first | omega | decide | (simp only [go_sem]; omega)) only [go_sem, ↓reduceIte]
    repeat (with_reducible refine And.intro (by first | assumption | omega | (simp; done) | (simp; omega)) ?_)
    refine toEnd hC ?_
    refine endX_seq ?_
    refine runX_meet [0, 3] (fun S => ∃ (x2 : Int), S = F51_S1 a0 x2 ∧ F51_J1 n a0 x2 = some r) ?_ ?_
    · refine runX_seq ?_
      refine runX_regionC fun C hC => ?_
      try simp -implicitDefEqProofs (maxSteps := 4000000) (disch := first | omega | decide | (simp only [go_sem]; omega)) only [go_sem, ↓reduceIte]
      repeat (with_reducible refine And.intro (by first | assumption | omega | (simp; done) | (simp; omega)) ?_)
      refine toEnd hC ?_
      refine endX_seq ?_
      rcases iteB_some h with ⟨c1, h⟩ | ⟨c1, h⟩
      · refine runX_condT rfl c1 ?_
        refine runX_regionC fun C hC => ?_
        try simp -implicitDefEqProofs (maxSteps := 4000000) (disch := first | omega | decide | (simp only [go_sem]; omega)) only [go_sem, ↓reduceIte]
        repeat (with_reducible refine And.intro (by first | assumption | omega | (simp; done) | (simp; omega)) ?_)
        refine toEnd hC ?_
        refine endX_q (meetQ_normal ⟨F51_S1 a0 (IntKind.wrap .u64 ((0 : Int) - (IntKind.wrap .u64 (a0)))), ?_, (IntKind.wrap .u64 ((0 : Int) - (IntKind.wrap .u64 (a0)))), rfl, h⟩)
        simp only [F51_S1]
        (try simp -implicitDefEqProofs (maxSteps := 4000000) (disch := first | omega | decide | (simp only [go_sem]; omega)) only [go_sem, ↓reduceIte])
        first | exact leS_refl _ | (refine leS_le ?_ ?_ <;> first | exact leL_refl _ | exact leOs_refl _ | (repeat (first | exact leL_refl _ | refine leL_cons (by first | exact leT_refl _ | exact leT_virt | exact leT_junk _ | exact leT_sl | exact leT_sln | exact leT_nil) ?_)))
      · refine runX_condF rfl c1 ?_
        refine runX_skip ?_
        refine endX_q (meetQ_normal ⟨F51_S1 a0 (IntKind.wrap .u64 (a0)), ?_, (IntKind.wrap .u64 (a0)), rfl, h⟩)
        simp only [F51_S1]
        (try simp -implicitDefEqProofs (maxSteps := 4000000) (disch := first | omega | decide | (simp only [go_sem]; omega)) only [go_sem, ↓reduceIte])
        first | exact leS_refl _ | (refine leS_le ?_ ?_ <;> first | exact leL_refl _ | exact leOs_refl _ | (repeat (first | exact leL_refl _ | refine leL_cons (by first | exact leT_refl _ | exact leT_virt | exact leT_junk _ | exact leT_sl | exact leT_sln | exact leT_nil) ?_)))
    · clear h
      rintro S ⟨x2, rfl, h⟩
      rw [F51_J1] at h
      simp only [F51_S1]
      refine runX_seq ?_
      refine runX_regionC fun C hC => ?_
      try simp -implicitDefEqProofs (maxSteps := 4000000) (disch := first | omega | decide | (simp only [go_sem]; omega)) only [go_sem, ↓reduceIte]
      repeat (with_reducible refine And.intro (by first | assumption | omega | (simp; done) | (simp; omega)) ?_)
      refine toEnd hC ?_
      refine endX_seq ?_
      refine runX_seq ?_
      refine runX_block ?_
      refine runX_loop [0, 3, 4] (fun m S => ∃ (x3 : Int) (x4 : List (Int)), S = F51_S2 a0 x3 x4 ∧ m ≤ n ∧ F51_L2 m a0 x3 x4 = some r) n ⟨F51_S2 a0 x2 [], ?_, x2, [], rfl, Nat.le_refl _, h⟩ ?_
      · (try simp -implicitDefEqProofs (maxSteps := 4000000) (disch := first | omega | decide | (simp only [go_sem]; omega)) only [go_sem, ↓reduceIte])
        simp only [F51_S2]
        refine leS_trans (leS_pad _ _ 1) ?_
        simp only [List.replicate, List.cons_append, List.nil_append]
        refine leS_virt 0 5 1 rfl ?_ ?_ rfl
        · repeat (first | exact leL_refl _ | refine leL_cons (by first | exact leT_refl _ | exact leT_virt | exact leT_junk _ | exact leT_sl | exact leT_sln | exact leT_nil) ?_)
        · repeat (first | exact leOs_refl _ | refine leOs.cons (by first | exact leO.same _ | (refine leO.box (leT_agg (by repeat (first | exact leL_refl _ | refine leL_cons (by first | exact leT_refl _ | exact leT_virt | exact leT_junk _ | exact leT_sl | exact leT_sln | exact leT_nil) ?_))) rfl)) ?_)
      · clear h
        rintro m2 S ⟨x3, x4, rfl, hm2, h⟩
        cases m2 with
        | zero => first | cases (show (none : Option _) = some _ from h) | (rw [F51_L2] at h; cases h)
        | succ m2 =>
          rw [F51_L2] at h
          simp only [F51_S2]
          refine runX_block ?_
          refine runX_seq ?_
          refine runX_regionC fun C hC => ?_
          obtain ⟨g5, h⟩ := grd_some h
          try simp -implicitDefEqProofs (maxSteps := 4000000) (disch := first | omega | decide | (simp only [go_sem]; omega)) only [go_sem, ↓reduceIte]
          repeat (with_reducible refine And.intro (by first | assumption | omega | (simp; done) | (simp; omega)) ?_)
          refine buildX_val ?_
          obtain ⟨g6, h⟩ := grd_some h
          try simp -implicitDefEqProofs (maxSteps := 4000000) (disch := first | omega | decide | (simp only [go_sem]; omega)) only [go_sem, ↓reduceIte]
          repeat (with_reducible refine And.intro (by first | assumption | omega | (simp; done) | (simp; omega)) ?_)
          refine toEnd hC ?_
          refine endX_seq ?_
          refine runX_seq ?_
          refine runX_regionC fun C hC => ?_
          try simp -implicitDefEqProofs (maxSteps := 4000000) (disch := first | omega | decide | (simp only [go_sem]; omega)) only [go_sem, ↓reduceIte]
          repeat (with_reducible refine And.intro (by first | assumption | omega | (simp; done) | (simp; omega)) ?_)
          refine toEnd hC ?_
          refine endX_seq ?_
          refine runX_seq ?_
          refine runX_regionC fun C hC => ?_
          try simp -implicitDefEqProofs (maxSteps := 4000000) (disch := first | omega | decide | (simp only [go_sem]; omega)) only [go_sem, ↓reduceIte]
          repeat (with_reducible refine And.intro (by first | assumption | omega | (simp; done) | (simp; omega)) ?_)
          refine toEnd hC ?_
          refine endX_seq ?_
          rcases iteB_some h with ⟨c7, h⟩ | ⟨c7, h⟩
          · refine runX_condT rfl c7 ?_
            refine runX_exit ?_
            refine endX_blkO (by decide) ?_
            refine endX_q (roundQ_exit ?_)
            refine endX_blkE ?_
            refine endX_seq ?_
            refine runX_meet [4] (fun S => ∃ (x10 : List (Int)), S = F51_S3 x10 ∧ F51_J3 m2 x10 = some r) ?_ ?_
            · refine runX_seq ?_
              refine runX_regionC fun C hC => ?_
              try simp -implicitDefEqProofs (maxSteps := 4000000) (disch := first | omega | decide | (simp only [go_sem]; omega)) only [go_sem, ↓reduceIte]
              repeat (with_reducible refine And.intro (by first | assumption | omega | (simp; done) | (simp; omega)) ?_)
              refine toEnd hC ?_
              refine endX_seq ?_
              rcases iteB_some h with ⟨c8, h⟩ | ⟨c8, h⟩
              · refine runX_condT rfl c8 ?_
                refine runX_regionC fun C hC => ?_
                try simp -implicitDefEqProofs (maxSteps := 4000000) (disch := first | omega | decide | (simp only [go_sem]; omega)) only [go_sem, ↓reduceIte]
                repeat (with_reducible refine And.intro (by first | assumption | omega | (simp; done) | (simp; omega)) ?_)
                refine buildX_val ?_
                obtain ⟨g9, h⟩ := grd_some h
                try simp -implicitDefEqProofs (maxSteps := 4000000) (disch := first | omega | decide | (simp only [go_sem]; omega)) only [go_sem, ↓reduceIte]
                repeat (with_reducible refine And.intro (by first | assumption | omega | (simp; done) | (simp; omega)) ?_)
                refine toEnd hC ?_
                refine endX_q (meetQ_normal ⟨F51_S3 ((x4 ++ ([((([48, 49, 50, 51, 52, 53, 54, 55, 56, 57, 97, 98, 99, 100, 101, 102] : List UInt8).getD (x3.tmod (10 : Int)).toNat 0).toNat : Int)])) ++ [(45 : Int)]), ?_, ((x4 ++ ([((([48, 49, 50, 51, 52, 53, 54, 55, 56, 57, 97, 98, 99, 100, 101, 102] : List UInt8).getD (x3.tmod (10 : Int)).toNat 0).toNat : Int)])) ++ [(45 : Int)]), rfl, h⟩)
                simp only [F51_S3]
                (try simp -implicitDefEqProofs (maxSteps := 4000000) (disch := first | omega | decide | (simp only [go_sem]; omega)) only [go_sem, ↓reduceIte])
                first | exact leS_refl _ | (refine leS_le ?_ ?_ <;> first | exact leL_refl _ | exact leOs_refl _ | (repeat (first | exact leL_refl _ | refine leL_cons (by first | exact leT_refl _ | exact leT_virt | exact leT_junk _ | exact leT_sl | exact leT_sln | exact leT_nil) ?_)))
              · refine runX_condF rfl c8 ?_
                refine runX_skip ?_
                refine endX_q (meetQ_normal ⟨F51_S3 (x4 ++ ([((([48, 49, 50, 51, 52, 53, 54, 55, 56, 57, 97, 98, 99, 100, 101, 102] : List UInt8).getD (x3.tmod (10 : Int)).toNat 0).toNat : Int)])), ?_, (x4 ++ ([((([48, 49, 50, 51, 52, 53, 54, 55, 56, 57, 97, 98, 99, 100, 101, 102] : List UInt8).getD (x3.tmod (10 : Int)).toNat 0).toNat : Int)])), rfl, h⟩)
                simp only [F51_S3]
                (try simp -implicitDefEqProofs (maxSteps := 4000000) (disch := first | omega | decide | (simp only [go_sem]; omega)) only [go_sem, ↓reduceIte])
                first | exact leS_refl _ | (refine leS_le ?_ ?_ <;> first | exact leL_refl _ | exact leOs_refl _ | (repeat (first | exact leL_refl _ | refine leL_cons (by first | exact leT_refl _ | exact leT_virt | exact leT_junk _ | exact leT_sl | exact leT_sln | exact leT_nil) ?_)))
            · clear h
              rintro S ⟨x10, rfl, h⟩
              rw [F51_J3] at h
              simp only [F51_S3]
              refine runX_seq ?_
              refine runX_seq ?_
              refine runX_regionC fun C hC => ?_
              try simp -implicitDefEqProofs (maxSteps := 4000000) (disch := first | omega | decide | (simp only [go_sem]; omega)) only [go_sem, ↓reduceIte]
              repeat (with_reducible refine And.intro (by first | assumption | omega | (simp; done) | (simp; omega)) ?_)
              refine toEnd hC ?_
              refine endX_seq ?_
              refine runX_block ?_
              refine runX_loop [4, 5, 6] (fun m S => ∃ (x11 : Int) (x12 : Int) (x13 : List (Int)), S = F51_S4 x11 x12 x13 ∧ m ≤ m2 ∧ F51_L4 m x11 x12 x13 = some r) m2 ⟨F51_S4 (0 : Int) (IntKind.wrap .i64 ((x10.length : Int) - (1 : Int))) x10, ?_, (0 : Int), (IntKind.wrap .i64 ((x10.length : Int) - (1 : Int))), x10, rfl, Nat.le_refl _, h⟩ ?_
              · simp only [F51_S4]
                (try simp -implicitDefEqProofs (maxSteps := 4000000) (disch := first | omega | decide | (simp only [go_sem]; omega)) only [go_sem, ↓reduceIte])
                first | exact leS_refl _ | (refine leS_le ?_ ?_ <;> first | exact leL_refl _ | exact leOs_refl _ | (repeat (first | exact leL_refl _ | refine leL_cons (by first | exact leT_refl _ | exact leT_virt | exact leT_junk _ | exact leT_sl | exact leT_sln | exact leT_nil) ?_)))
              · clear h
                rintro m4 S ⟨x11, x12, x13, rfl, hm4, h⟩
                cases m4 with
                | zero => first | cases (show (none : Option _) = some _ from h) | (rw [F51_L4] at h; cases h)
                | succ m4 =>
                  rw [F51_L4] at h
                  simp only [F51_S4]
                  refine runX_seq ?_
                  refine runX_seq ?_
                  refine runX_regionC fun C hC => ?_
                  try simp -implicitDefEqProofs (maxSteps := 4000000) (disch := first | omega | decide | (simp only [go_sem]; omega)) only [go_sem, ↓reduceIte]
                  repeat (with_reducible refine And.intro (by first | assumption | omega | (simp; done) | (simp; omega)) ?_)
                  refine toEnd hC ?_
                  refine endX_seq ?_
                  rcases iteB_some h with ⟨c14, h⟩ | ⟨c14, h⟩
                  · refine runX_condT rfl c14 ?_
                    refine runX_skip ?_
                    refine endX_seq ?_
                    refine runX_seq ?_
                    refine runX_block ?_
                    refine runX_draw2C mixed [2, 3] (by kernel_rfl) fun C hC => ?_
                    obtain ⟨g15, h⟩ := grd_some h
                    obtain ⟨g16, h⟩ := grd_some h
                    obtain ⟨g17, h⟩ := grd_some h
                    obtain ⟨g18, h⟩ := grd_some h
                    obtain ⟨g19, h⟩ := grd_some h
                    obtain ⟨g20, h⟩ := grd_some h
                    obtain ⟨g21, h⟩ := grd_some h
                    obtain ⟨g22, h⟩ := grd_some h
                    try simp -implicitDefEqProofs (maxSteps := 4000000) (disch := first | omega | decide | (simp only [go_sem]; omega)) only [go_sem, ↓reduceIte]
                    repeat (with_reducible refine And.intro (by first | assumption | omega | (simp; done) | (simp; omega)) ?_)
                    refine toEnd hC ?_
                    refine endX_blk ?_
                    refine endX_seq ?_
                    refine runX_regionC fun C hC => ?_
                    try simp -implicitDefEqProofs (maxSteps := 4000000) (disch := first | omega | decide | (simp only [go_sem]; omega)) only [go_sem, ↓reduceIte]
                    repeat (with_reducible refine And.intro (by first | assumption | omega | (simp; done) | (simp; omega)) ?_)
                    refine toEnd hC ?_
                    refine endX_q (roundQ_normal ⟨m4, by omega, F51_S4 (IntKind.wrap .i64 (x11 + (1 : Int))) (IntKind.wrap .i64 (x12 - (1 : Int))) (List.set (List.set x13 x11.toNat (x13.getD x12.toNat default)) x12.toNat (x13.getD x11.toNat default)), ?_, (IntKind.wrap .i64 (x11 + (1 : Int))), (IntKind.wrap .i64 (x12 - (1 : Int))), (List.set (List.set x13 x11.toNat (x13.getD x12.toNat default)) x12.toNat (x13.getD x11.toNat default)), rfl, by omega, h⟩)
                    simp only [F51_S4]
                    (try simp -implicitDefEqProofs (maxSteps := 4000000) (disch := first | omega | decide | (simp only [go_sem]; omega)) only [go_sem, ↓reduceIte])
                    first | exact leS_refl _ | (refine leS_le ?_ ?_ <;> first | exact leL_refl _ | exact leOs_refl _ | (repeat (first | exact leL_refl _ | refine leL_cons (by first | exact leT_refl _ | exact leT_virt | exact leT_junk _ | exact leT_sl | exact leT_sln | exact leT_nil) ?_)))
                  · refine runX_condF rfl c14 ?_
                    refine runX_exit ?_
                    refine endX_seqE ?_
                    refine endX_q (roundQ_exit ?_)
                    refine endX_blkE ?_
                    refine endX_seq ?_
                    refine runX_seq ?_
                    refine runX_regionC fun C hC => ?_
                    try simp -implicitDefEqProofs (maxSteps := 4000000) (disch := first | omega | decide | (simp only [go_sem]; omega)) only [go_sem, ↓reduceIte]
                    repeat (with_reducible refine And.intro (by first | assumption | omega | (simp; done) | (simp; omega)) ?_)
                    refine toEnd hC ?_
                    refine endX_seq ?_
                    refine runX_ret ?_
                    refine endX_q ?_
                    obtain rfl := Option.some.inj h
                    show RetW _ _ _ _ _
                    simp only [RetW]
                    (try simp -implicitDefEqProofs (maxSteps := 4000000) (disch := first | omega | decide | (simp only [go_sem]; omega)) only [go_sem, ↓reduceIte])
                    (try simp (disch := omega) only [if_pos, Nat.sub_zero])
                    exact leT_refl _
          · refine runX_condF rfl c7 ?_
            refine runX_skip ?_
            refine endX_blk ?_
            refine endX_q (roundQ_normal ⟨m2, by omega, F51_S2 a0 (IntKind.wrap .u64 (x3.tdiv (10 : Int))) (x4 ++ ([((([48, 49, 50, 51, 52, 53, 54, 55, 56, 57, 97, 98, 99, 100, 101, 102] : List UInt8).getD (x3.tmod (10 : Int)).toNat 0).toNat : Int)])), ?_, (IntKind.wrap .u64 (x3.tdiv (10 : Int))), (x4 ++ ([((([48, 49, 50, 51, 52, 53, 54, 55, 56, 57, 97, 98, 99, 100, 101, 102] : List UInt8).getD (x3.tmod (10 : Int)).toNat 0).toNat : Int)])), rfl, by omega, h⟩)
            simp only [F51_S2]
            (try simp -implicitDefEqProofs (maxSteps := 4000000) (disch := first | omega | decide | (simp only [go_sem]; omega)) only [go_sem, ↓reduceIte])
            first | exact leS_refl _ | (refine leS_le ?_ ?_ <;> first | exact leL_refl _ | exact leOs_refl _ | (repeat (first | exact leL_refl _ | refine leL_cons (by first | exact leT_refl _ | exact leT_virt | exact leT_junk _ | exact leT_sl | exact leT_sln | exact leT_nil) ?_)))
end Go.Proofs.YtbamlphgolldlaaX

set_option linter.unusedVariables false
set_option linter.unusedSimpArgs false
namespace Go.Proofs.YtbamlphgolldlaaX
open Go Go.RowKit Go.Proofs
set_option maxRecDepth 100000
attribute [local go_sem ↓] stepsK_build stepsK_build0
attribute [local go_sem] String.reduceEq String.reduceNe reduceCtorEq Int.reduceEq Nat.reduceAdd Nat.reduceSub Nat.reduceMul Nat.reduceLT Nat.reduceLeDiff Nat.reduceEqDiff Nat.reduceBEq Int.reduceToNat Int.reduceLT Int.reduceLE Int.reduceGT Int.reduceGE Int.reduceAdd Int.reduceSub Int.reduceMul Int.reduceNeg Int.reduceBEq Int.reduceBNe Int.reducePow Int.reduceDiv Int.reduceMod Int.reduceTDiv Int.reduceTMod Int.reduceNatCast
/-! ### slice.None -/
def F19 (n : Nat) (a0 : Int) : Option (List UInt8) := (F51 n a0).bind fun v1 => grd (8 + v1.length ≤ 9223372036854775807) (some (([98, 121, 116, 101, 115, 32, 42, 47] : List UInt8) ++ v1))
set_option maxHeartbeats 4000000 in
theorem F19_ok : ∀ (n : Nat) (a0 : Int) (r : List UInt8), F19 n a0 = some r → FnC Try.prog 19 [.imm (.int .i64 a0)] (.imm (.string (bs r)))
  | n, a0, r, h => by
    unfold F19 at h
    refine FnC.goX mixed Try.func19 (by kernel_rfl) rfl ?_
    simp only [Try.ntmps19, List.length_cons, List.length_nil, List.replicate, List.cons_append, List.nil_append, Nat.reduceAdd, Nat.reduceSub]
    refine runX_seq ?_
    refine runX_regionC fun C hC => ?_
    try simp -implicitDefEqProofs (maxSteps := 4000000) (disch := first | omega | decide | (simp only [go_sem]; omega)) only [go_sem, ↓reduceIte]
    repeat (with_reducible refine And.intro (by first | assumption | omega | (simp; done) | (simp; omega)) ?_)
    refine toEnd hC ?_
    refine endX_seq ?_
    refine runX_seq ?_
    refine runX_regionC fun C hC => ?_
    obtain ⟨v1, h1, h⟩ := bnd_some h
    try simp -implicitDefEqProofs (maxSteps := 4000000) (disch := first | omega | decide | (simp only [go_sem]; omega)) only [go_sem, ↓reduceIte]
    repeat (with_reducible refine And.intro (by first | assumption | omega | (simp; done) | (simp; omega)) ?_)
    refine callG_X (F51_ok n a0 _ h1) (by repeat (first | exact leL_refl _ | refine leL_cons (by first | exact leT_refl _ | exact leT_virt | exact leT_junk _ | exact leT_sl | exact leT_sln | exact leT_nil) ?_)) ?_
    obtain ⟨g2, h⟩ := grd_some h
    try simp -implicitDefEqProofs (maxSteps := 4000000) (disch := first | omega | decide | (simp only [go_sem]; omega)) only [go_sem, ↓reduceIte]
    repeat (with_reducible refine And.intro (by first | assumption | omega | (simp; done) | (simp; omega)) ?_)
    refine toEnd hC ?_
    refine endX_seq ?_
    refine runX_ret ?_
    refine endX_q ?_
    obtain rfl := Option.some.inj h
    show RetW _ _ _ _ _
    simp only [RetW]
    (try simp -implicitDefEqProofs (maxSteps := 4000000) (disch := first | omega | decide | (simp only [go_sem]; omega)) only [go_sem, ↓reduceIte])
    (try simp (disch := omega) only [if_pos, Nat.sub_zero])
    exact leT_refl _
end Go.Proofs.YtbamlphgolldlaaX

set_option linter.unusedVariables false
set_option linter.unusedSimpArgs false
namespace Go.Proofs.YtbamlphgolldlaaX
open Go Go.RowKit Go.Proofs
set_option maxRecDepth 100000
attribute [local go_sem ↓] stepsK_build stepsK_build0
attribute [local go_sem] String.reduceEq String.reduceNe reduceCtorEq Int.reduceEq Nat.reduceAdd Nat.reduceSub Nat.reduceMul Nat.reduceLT Nat.reduceLeDiff Nat.reduceEqDiff Nat.reduceBEq Int.reduceToNat Int.reduceLT Int.reduceLE Int.reduceGT Int.reduceGE Int.reduceAdd Int.reduceSub Int.reduceMul Int.reduceNeg Int.reduceBEq Int.reduceBNe Int.reducePow Int.reduceDiv Int.reduceMod Int.reduceTDiv Int.reduceTMod Int.reduceNatCast
/-! ### slice.Told -/
def F20 (n : Nat) (a0 : (Int) × (Int)) (a1 : Int) : Option (List UInt8) := (F51 n a0.1).bind fun v1 => grd (6 + v1.length ≤ 9223372036854775807) (grd ((v1.length + 6) + 1 ≤ 9223372036854775807) ((F51 n (IntKind.wrap .i64 (a0.2 - (1 : Int)))).bind fun v4 => grd ((v1.length + 7) + v4.length ≤ 9223372036854775807) (grd ((v1.length + v4.length + 7) + 1 ≤ 9223372036854775807) ((F51 n a1).bind fun v7 => grd ((v1.length + v4.length + 8) + v7.length ≤ 9223372036854775807) (some (((((([98, 121, 116, 101, 115, 32] : List UInt8) ++ v1) ++ ([45] : List UInt8)) ++ v4) ++ ([47] : List UInt8)) ++ v7))))))
set_option maxHeartbeats 4000000 in
theorem F20_ok : ∀ (n : Nat) (a0 : (Int) × (Int)) (a1 : Int) (r : List UInt8), F20 n a0 a1 = some r → FnC Try.prog 20 [.agg [.imm (.int .i64 a0.1), .imm (.int .i64 a0.2)], .imm (.int .i64 a1)] (.imm (.string (bs r)))
  | n, a0, a1, r, h => by
    unfold F20 at h
    refine FnC.goX mixed Try.func20 (by kernel_rfl) rfl ?_
    simp only [Try.ntmps20, List.length_cons, List.length_nil, List.replicate, List.cons_append, List.nil_append, Nat.reduceAdd, Nat.reduceSub]
    refine runX_seq ?_
    refine runX_regionC fun C hC => ?_
    try simp -implicitDefEqProofs (maxSteps := 4000000) (disch := first | omega | decide | (simp only [go_sem]; omega)) only [go_sem, ↓reduceIte]
    repeat (with_reducible refine And.intro (by first | assumption | omega | (simp; done) | (simp; omega)) ?_)
    refine toEnd hC ?_
    refine endX_seq ?_
    refine runX_seq ?_
    refine runX_drawC mixed (by kernel_rfl) fun C hC => ?_
    obtain ⟨v1, h1, h⟩ := bnd_some h
    try simp -implicitDefEqProofs (maxSteps := 4000000) (disch := first | omega | decide | (simp only [go_sem]; omega)) only [go_sem, ↓reduceIte]
    repeat (with_reducible refine And.intro (by first | assumption | omega | (simp; done) | (simp; omega)) ?_)
    refine callD_X (F51_ok n a0.1 _ h1) (by repeat (first | exact leL_refl _ | refine leL_cons (by first | exact leT_refl _ | exact leT_virt | exact leT_junk _ | exact leT_sl | exact leT_sln | exact leT_nil) ?_)) ?_
    obtain ⟨g2, h⟩ := grd_some h
    obtain ⟨g3, h⟩ := grd_some h
    obtain ⟨v4, h4, h⟩ := bnd_some h
    try simp -implicitDefEqProofs (maxSteps := 4000000) (disch := first | omega | decide | (simp only [go_sem]; omega)) only [go_sem, ↓reduceIte]
    repeat (with_reducible refine And.intro (by first | assumption | omega | (simp; done) | (simp; omega)) ?_)
    refine callD_X (F51_ok n (IntKind.wrap .i64 (a0.2 - (1 : Int))) _ h4) (by repeat (first | exact leL_refl _ | refine leL_cons (by first | exact leT_refl _ | exact leT_virt | exact leT_junk _ | exact leT_sl | exact leT_sln | exact leT_nil) ?_)) ?_
    obtain ⟨g5, h⟩ := grd_some h
    obtain ⟨g6, h⟩ := grd_some h
    obtain ⟨v7, h7, h⟩ := bnd_some h
    try simp -implicitDefEqProofs (maxSteps := 4000000) (disch := first | omega | decide | (simp only [go_sem]; omega)) only [go_sem, ↓reduceIte]
    repeat (with_reducible refine And.intro (by first | assumption | omega | (simp; done) | (simp; omega)) ?_)
    refine callD_X (F51_ok n a1 _ h7) (by repeat (first | exact leL_refl _ | refine leL_cons (by first | exact leT_refl _ | exact leT_virt | exact leT_junk _ | exact leT_sl | exact leT_sln | exact leT_nil) ?_)) ?_
    obtain ⟨g8, h⟩ := grd_some h
    try simp -implicitDefEqProofs (maxSteps := 4000000) (disch := first | omega | decide | (simp only [go_sem]; omega)) only [go_sem, ↓reduceIte]
    repeat (with_reducible refine And.intro (by first | assumption | omega | (simp; done) | (simp; omega)) ?_)
    refine toEnd hC ?_
    refine endX_seq ?_
    refine runX_ret ?_
    refine endX_q ?_
    obtain rfl := Option.some.inj h
    show RetW _ _ _ _ _
    simp only [RetW]
    (try simp -implicitDefEqProofs (maxSteps := 4000000) (disch := first | omega | decide | (simp only [go_sem]; omega)) only [go_sem, ↓reduceIte])
    (try simp (disch := omega) only [if_pos, Nat.sub_zero])
    exact leT_refl _
end Go.Proofs.YtbamlphgolldlaaX

set_option linter.unusedVariables false
set_option linter.unusedSimpArgs false
namespace Go.Proofs.YtbamlphgolldlaaX
open Go Go.RowKit Go.Proofs
set_option maxRecDepth 100000
attribute [local go_sem ↓] stepsK_build stepsK_build0
attribute [local go_sem] String.reduceEq String.reduceNe reduceCtorEq Int.reduceEq Nat.reduceAdd Nat.reduceSub Nat.reduceMul Nat.reduceLT Nat.reduceLeDiff Nat.reduceEqDiff Nat.reduceBEq Int.reduceToNat Int.reduceLT Int.reduceLE Int.reduceGT Int.reduceGE Int.reduceAdd Int.reduceSub Int.reduceMul Int.reduceNeg Int.reduceBEq Int.reduceBNe Int.reducePow Int.reduceDiv Int.reduceMod Int.reduceTDiv Int.reduceTMod Int.reduceNatCast
/-! ### shadowboxlaw32.SliceRanges -/
def F6_S1 (a1 : Int) (x3 : List UInt8) : St := ⟨[.imm (.string (bs x3)), .imm (.int .i64 a1), .junk, .junk, .junk, .junk, .junk, .junk, .junk, .junk, .junk, .junk, .junk, .junk, .junk, .junk, .junk, .junk, .junk, .junk, .junk, .junk, .junk, .junk, .junk, .junk, .junk, .junk, .junk, .junk, .junk, .junk, .junk, .junk, .junk, .junk, .junk, .junk, .junk, .junk, .junk, .junk, .junk, .junk, .junk, .junk, .junk, .junk, .junk, .junk, .junk, .junk, .junk, .junk, .junk, .junk, .junk, .junk, .junk, .junk, .junk, .junk, .junk, .junk, .junk, .junk, .junk, .junk, .junk, .junk, .junk, .junk, .junk], []⟩
def F6_J1 (n : Nat) (a1 : Int) (x3 : List UInt8) : Option (Bool) := (F16 n x3 a1).bind fun v4 => (F18 n x3 a1).bind fun v5 => (F16 n ([98, 121, 116, 101, 115, 61, 50, 45, 51] : List UInt8) (10 : Int)).bind fun v6 => iteB ((v4.1.1 == v5.1) && (v4.1.2 == v5.2.1)) (iteB (v4.2.1 == v5.2.2.1) (iteB (v4.2.2 == v5.2.2.2) ((F19 n a1).bind fun v10 => (F17 n a1).bind fun v11 => grd (8 + v11.length ≤ 9223372036854775807) (iteB (v10 == (([98, 121, 116, 101, 115, 32, 42, 47] : List UInt8) ++ v11)) (iteB (v6.1.2 == (4 : Int)) ((F20 n (v6.1.1, v6.1.2) (10 : Int)).bind fun v15 => some (v15 == ([98, 121, 116, 101, 115, 32, 50, 45, 51, 47, 49, 48] : List UInt8))) (some false)) (some false))) (some false)) (some false)) (some false)
def F6 (n : Nat) (a0 : List UInt8) (a1 : Int) : Option (Bool) := iteB (decide ((200 : Int) < (a0.length : Int))) (grd ((200 : Int) ≤ (a0.length : Int)) (F6_J1 n a1 (a0.take 200))) (F6_J1 n a1 a0)
set_option maxHeartbeats 4000000 in
theorem F6_ok : ∀ (n : Nat) (a0 : List UInt8) (a1 : Int) (r : Bool), F6 n a0 a1 = some r → FnC Try.prog 6 [.imm (.string (bs a0)), .imm (.int .i64 a1)] (.imm (.bool r))
  | n, a0, a1, r, h => by
    unfold F6 at h
    refine FnC.goX mixed Try.func6 (by kernel_rfl) rfl ?_
    simp only [Try.ntmps6, List.length_cons, List.length_nil, List.replicate, List.cons_append, List.nil_append, Nat.reduceAdd, Nat.reduceSub]
    refine runX_seq ?_
    refine runX_regionC fun C hC => ?_
    try simp -implicitDefEqProofs (maxSteps := 4000000) (disch := first | omega | decide | (simp only [go_sem]; omega)) only [go_sem, ↓reduceIte]
    repeat (with_reducible refine And.intro (by first | assumption | omega | (simp; done) | (simp; omega)) ?_)
    refine toEnd hC ?_
    refine endX_seq ?_
    refine runX_meet [0, 1] (fun S => ∃ (x3 : List UInt8), S = F6_S1 a1 x3 ∧ F6_J1 n a1 x3 = some r) ?_ ?_
    · refine runX_seq ?_
      refine runX_regionC fun C hC => ?_
      try simp -implicitDefEqProofs (maxSteps := 4000000) (disch := first | omega | decide | (simp only [go_sem]; omega)) only [go_sem, ↓reduceIte]
      repeat (with_reducible refine And.intro (by first | assumption | omega | (simp; done) | (simp; omega)) ?_)
      refine toEnd hC ?_
      refine endX_seq ?_
      rcases iteB_some h with ⟨c1, h⟩ | ⟨c1, h⟩
      · refine runX_condT rfl c1 ?_
        refine runX_regionC fun C hC => ?_
        obtain ⟨g2, h⟩ := grd_some h
        try simp -implicitDefEqProofs (maxSteps := 4000000) (disch := first | omega | decide | (simp only [go_sem]; omega)) only [go_sem, ↓reduceIte]
        repeat (with_reducible refine And.intro (by first | assumption | omega | (simp; done) | (simp; omega)) ?_)
        refine toEnd hC ?_
        refine endX_q (meetQ_normal ⟨F6_S1 a1 (a0.take 200), ?_, (a0.take 200), rfl, h⟩)
        simp only [F6_S1]
        (try simp -implicitDefEqProofs (maxSteps := 4000000) (disch := first | omega | decide | (simp only [go_sem]; omega)) only [go_sem, ↓reduceIte])
        first | exact leS_refl _ | (refine leS_le ?_ ?_ <;> first | exact leL_refl _ | exact leOs_refl _ | (repeat (first | exact leL_refl _ | refine leL_cons (by first | exact leT_refl _ | exact leT_virt | exact leT_junk _ | exact leT_sl | exact leT_sln | exact leT_nil) ?_)))
      · refine runX_condF rfl c1 ?_
        refine runX_skip ?_
        refine endX_q (meetQ_normal ⟨F6_S1 a1 a0, ?_, a0, rfl, h⟩)
        simp only [F6_S1]
        (try simp -implicitDefEqProofs (maxSteps := 4000000) (disch := first | omega | decide | (simp only [go_sem]; omega)) only [go_sem, ↓reduceIte])
        first | exact leS_refl _ | (refine leS_le ?_ ?_ <;> first | exact leL_refl _ | exact leOs_refl _ | (repeat (first | exact leL_refl _ | refine leL_cons (by first | exact leT_refl _ | exact leT_virt | exact leT_junk _ | exact leT_sl | exact leT_sln | exact leT_nil) ?_)))
    · clear h
      rintro S ⟨x3, rfl, h⟩
      rw [F6_J1] at h
      simp only [F6_S1]
      refine runX_seq ?_
      refine runX_regionC fun C hC => ?_
      obtain ⟨v4, h4, h⟩ := bnd_some h
      try simp -implicitDefEqProofs (maxSteps := 4000000) (disch := first | omega | decide | (simp only [go_sem]; omega)) only [go_sem, ↓reduceIte]
      repeat (with_reducible refine And.intro (by first | assumption | omega | (simp; done) | (simp; omega)) ?_)
      refine callG_X (F16_ok n x3 a1 _ h4) (by repeat (first | exact leL_refl _ | refine leL_cons (by first | exact leT_refl _ | exact leT_virt | exact leT_junk _ | exact leT_sl | exact leT_sln | exact leT_nil) ?_)) ?_
      try simp -implicitDefEqProofs (maxSteps := 4000000) (disch := first | omega | decide | (simp only [go_sem]; omega)) only [go_sem, ↓reduceIte]
      repeat (with_reducible refine And.intro (by first | assumption | omega | (simp; done) | (simp; omega)) ?_)
      refine toEnd hC ?_
      refine endX_seq ?_
      refine runX_seq ?_
      refine runX_regionC fun C hC => ?_
      obtain ⟨v5, h5, h⟩ := bnd_some h
      try simp -implicitDefEqProofs (maxSteps := 4000000) (disch := first | omega | decide | (simp only [go_sem]; omega)) only [go_sem, ↓reduceIte]
      repeat (with_reducible refine And.intro (by first | assumption | omega | (simp; done) | (simp; omega)) ?_)
      refine callG_X (F18_ok n x3 a1 _ h5) (by repeat (first | exact leL_refl _ | refine leL_cons (by first | exact leT_refl _ | exact leT_virt | exact leT_junk _ | exact leT_sl | exact leT_sln | exact leT_nil) ?_)) ?_
      try simp -implicitDefEqProofs (maxSteps := 4000000) (disch := first | omega | decide | (simp only [go_sem]; omega)) only [go_sem, ↓reduceIte]
      repeat (with_reducible refine And.intro (by first | assumption | omega | (simp; done) | (simp; omega)) ?_)
      refine toEnd hC ?_
      refine endX_seq ?_
      refine runX_seq ?_
      refine runX_regionC fun C hC => ?_
      simp only [runK_region, runK_draw, liteL, liteL2, dstsL, gL, List.getD_cons_zero, List.getD_cons_succ]
      obtain ⟨v6, h6, h⟩ := bnd_some h
      try simp -implicitDefEqProofs (maxSteps := 4000000) (disch := first | omega | decide | (simp only [go_sem]; omega)) only [go_sem, ↓reduceIte]
      repeat (with_reducible refine And.intro (by first | assumption | omega | (simp; done) | (simp; omega)) ?_)
      refine callG_X (F16_ok n ([98, 121, 116, 101, 115, 61, 50, 45, 51] : List UInt8) (10 : Int) _ h6) (by repeat (first | exact leL_refl _ | refine leL_cons (by first | exact leT_refl _ | exact leT_virt | exact leT_junk _ | exact leT_sl | exact leT_sln | exact leT_nil) ?_)) ?_
      try simp -implicitDefEqProofs (maxSteps := 4000000) (disch := first | omega | decide | (simp only [go_sem]; omega)) only [go_sem, ↓reduceIte]
      repeat (with_reducible refine And.intro (by first | assumption | omega | (simp; done) | (simp; omega)) ?_)
      refine toEnd hC ?_
      refine endX_seq ?_
      refine runX_seq ?_
      refine runX_regionC fun C hC => ?_
      try simp -implicitDefEqProofs (maxSteps := 4000000) (disch := first | omega | decide | (simp only [go_sem]; omega)) only [go_sem, ↓reduceIte]
      repeat (with_reducible refine And.intro (by first | assumption | omega | (simp; done) | (simp; omega)) ?_)
      refine bldG_of [.imm (.int .i64 v5.1), .imm (.int .i64 v5.2.1)] (by kernel_rfl) ?_
      try simp -implicitDefEqProofs (maxSteps := 4000000) (disch := first | omega | decide | (simp only [go_sem]; omega)) only [go_sem, ↓reduceIte]
      repeat (with_reducible refine And.intro (by first | assumption | omega | (simp; done) | (simp; omega)) ?_)
      rcases iteB_some h with ⟨c7, h⟩ | ⟨c7, h⟩
      · refine guardK_T c7 ?_
        try simp -implicitDefEqProofs (maxSteps := 4000000) (disch := first | omega | decide | (simp only [go_sem]; omega)) only [go_sem, ↓reduceIte]
        repeat (with_reducible refine And.intro (by first | assumption | omega | (simp; done) | (simp; omega)) ?_)
        rcases iteB_some h with ⟨c8, h⟩ | ⟨c8, h⟩
        · refine guardK_T c8 ?_
          try simp -implicitDefEqProofs (maxSteps := 4000000) (disch := first | omega | decide | (simp only [go_sem]; omega)) only [go_sem, ↓reduceIte]
          repeat (with_reducible refine And.intro (by first | assumption | omega | (simp; done) | (simp; omega)) ?_)
          rcases iteB_some h with ⟨c9, h⟩ | ⟨c9, h⟩
          · refine guardK_T c9 ?_
            obtain ⟨v10, h10, h⟩ := bnd_some h
            try simp -implicitDefEqProofs (maxSteps := 4000000) (disch := first | omega | decide | (simp only [go_sem]; omega)) only [go_sem, ↓reduceIte]
            repeat (with_reducible refine And.intro (by first | assumption | omega | (simp; done) | (simp; omega)) ?_)
            refine callG_X (F19_ok n a1 _ h10) (by repeat (first | exact leL_refl _ | refine leL_cons (by first | exact leT_refl _ | exact leT_virt | exact leT_junk _ | exact leT_sl | exact leT_sln | exact leT_nil) ?_)) ?_
            obtain ⟨v11, h11, h⟩ := bnd_some h
            try simp -implicitDefEqProofs (maxSteps := 4000000) (disch := first | omega | decide | (simp only [go_sem]; omega)) only [go_sem, ↓reduceIte]
            repeat (with_reducible refine And.intro (by first | assumption | omega | (simp; done) | (simp; omega)) ?_)
            refine callG_X (F17_ok n a1 _ h11) (by repeat (first | exact leL_refl _ | refine leL_cons (by first | exact leT_refl _ | exact leT_virt | exact leT_junk _ | exact leT_sl | exact leT_sln | exact leT_nil) ?_)) ?_
            obtain ⟨g12, h⟩ := grd_some h
            try simp -implicitDefEqProofs (maxSteps := 4000000) (disch := first | omega | decide | (simp only [go_sem]; omega)) only [go_sem, ↓reduceIte]
            repeat (with_reducible refine And.intro (by first | assumption | omega | (simp; done) | (simp; omega)) ?_)
            rcases iteB_some h with ⟨c13, h⟩ | ⟨c13, h⟩
            · refine guardK_T c13 ?_
              try simp -implicitDefEqProofs (maxSteps := 4000000) (disch := first | omega | decide | (simp only [go_sem]; omega)) only [go_sem, ↓reduceIte]
              repeat (with_reducible refine And.intro (by first | assumption | omega | (simp; done) | (simp; omega)) ?_)
              rcases iteB_some h with ⟨c14, h⟩ | ⟨c14, h⟩
              · refine guardK_T c14 ?_
                obtain ⟨v15, h15, h⟩ := bnd_some h
                try simp -implicitDefEqProofs (maxSteps := 4000000) (disch := first | omega | decide | (simp only [go_sem]; omega)) only [go_sem, ↓reduceIte]
                repeat (with_reducible refine And.intro (by first | assumption | omega | (simp; done) | (simp; omega)) ?_)
                refine callG_X (F20_ok n (v6.1.1, v6.1.2) (10 : Int) _ h15) (by repeat (first | exact leL_refl _ | refine leL_cons (by first | exact leT_refl _ | exact leT_virt | exact leT_junk _ | exact leT_sl | exact leT_sln | exact leT_nil) ?_)) ?_
                try simp -implicitDefEqProofs (maxSteps := 4000000) (disch := first | omega | decide | (simp only [go_sem]; omega)) only [go_sem, ↓reduceIte]
                repeat (with_reducible refine And.intro (by first | assumption | omega | (simp; done) | (simp; omega)) ?_)
                refine toEnd hC ?_
                refine endX_seq ?_
                refine runX_ret ?_
                refine endX_q ?_
                obtain rfl := Option.some.inj h
                show RetW _ _ _ _ _
                simp only [RetW]
                (try simp -implicitDefEqProofs (maxSteps := 4000000) (disch := first | omega | decide | (simp only [go_sem]; omega)) only [go_sem, ↓reduceIte])
                (try simp (disch := omega) only [if_pos, Nat.sub_zero])
                exact leT_refl _
              · refine guardK_F c14 ?_
                try simp -implicitDefEqProofs (maxSteps := 4000000) (disch := first | omega | decide | (simp only [go_sem]; omega)) only [go_sem, ↓reduceIte]
                repeat (with_reducible refine And.intro (by first | assumption | omega | (simp; done) | (simp; omega)) ?_)
                refine toEnd hC ?_
                refine endX_seq ?_
                refine runX_ret ?_
                refine endX_q ?_
                obtain rfl := Option.some.inj h
                show RetW _ _ _ _ _
                simp only [RetW]
                (try simp -implicitDefEqProofs (maxSteps := 4000000) (disch := first | omega | decide | (simp only [go_sem]; omega)) only [go_sem, ↓reduceIte])
                (try simp (disch := omega) only [if_pos, Nat.sub_zero])
                exact leT_refl _
            · refine guardK_F c13 ?_
              try simp -implicitDefEqProofs (maxSteps := 4000000) (disch := first | omega | decide | (simp only [go_sem]; omega)) only [go_sem, ↓reduceIte]
              repeat (with_reducible refine And.intro (by first | assumption | omega | (simp; done) | (simp; omega)) ?_)
              refine toEnd hC ?_
              refine endX_seq ?_
              refine runX_ret ?_
              refine endX_q ?_
              obtain rfl := Option.some.inj h
              show RetW _ _ _ _ _
              simp only [RetW]
              (try simp -implicitDefEqProofs (maxSteps := 4000000) (disch := first | omega | decide | (simp only [go_sem]; omega)) only [go_sem, ↓reduceIte])
              (try simp (disch := omega) only [if_pos, Nat.sub_zero])
              exact leT_refl _
          · refine guardK_F c9 ?_
            try simp -implicitDefEqProofs (maxSteps := 4000000) (disch := first | omega | decide | (simp only [go_sem]; omega)) only [go_sem, ↓reduceIte]
            repeat (with_reducible refine And.intro (by first | assumption | omega | (simp; done) | (simp; omega)) ?_)
            refine toEnd hC ?_
            refine endX_seq ?_
            refine runX_ret ?_
            refine endX_q ?_
            obtain rfl := Option.some.inj h
            show RetW _ _ _ _ _
            simp only [RetW]
            (try simp -implicitDefEqProofs (maxSteps := 4000000) (disch := first | omega | decide | (simp only [go_sem]; omega)) only [go_sem, ↓reduceIte])
            (try simp (disch := omega) only [if_pos, Nat.sub_zero])
            exact leT_refl _
        · refine guardK_F c8 ?_
          try simp -implicitDefEqProofs (maxSteps := 4000000) (disch := first | omega | decide | (simp only [go_sem]; omega)) only [go_sem, ↓reduceIte]
          repeat (with_reducible refine And.intro (by first | assumption | omega | (simp; done) | (simp; omega)) ?_)
          refine toEnd hC ?_
          refine endX_seq ?_
          refine runX_ret ?_
          refine endX_q ?_
          obtain rfl := Option.some.inj h
          show RetW _ _ _ _ _
          simp only [RetW]
          (try simp -implicitDefEqProofs (maxSteps := 4000000) (disch := first | omega | decide | (simp only [go_sem]; omega)) only [go_sem, ↓reduceIte])
          (try simp (disch := omega) only [if_pos, Nat.sub_zero])
          exact leT_refl _
      · refine guardK_F c7 ?_
        try simp -implicitDefEqProofs (maxSteps := 4000000) (disch := first | omega | decide | (simp only [go_sem]; omega)) only [go_sem, ↓reduceIte]
        repeat (with_reducible refine And.intro (by first | assumption | omega | (simp; done) | (simp; omega)) ?_)
        refine toEnd hC ?_
        refine endX_seq ?_
        refine runX_ret ?_
        refine endX_q ?_
        obtain rfl := Option.some.inj h
        show RetW _ _ _ _ _
        simp only [RetW]
        (try simp -implicitDefEqProofs (maxSteps := 4000000) (disch := first | omega | decide | (simp only [go_sem]; omega)) only [go_sem, ↓reduceIte])
        (try simp (disch := omega) only [if_pos, Nat.sub_zero])
        exact leT_refl _
end Go.Proofs.YtbamlphgolldlaaX

/- Shapes of arguments, as plain values. Of no program. -/
set_option linter.unusedVariables false
namespace Go.Proofs.YtbamlphgolldlaaX
open Go Go.RowKit
theorem RepR.le {E : Env} {sz : Nat} : ∀ {l l' : List T} {c : List Value}, l.length = l'.length → (∀ i, leT anyE (l.getD i .junk) (l'.getD i .junk)) → RepR E sz l c → RepR E sz l' c
  | [], [], c, _, _, h => h
  | x :: l, y :: l', c, hl, hi, h => by
    simp only [RepR] at h ⊢
    obtain ⟨u, c', h1, h2, h3, h4⟩ := h
    exact ⟨u, c', h1, h2, by simpa using hi 0 E true u trivial (by simpa using h3), RepR.le (by simpa using hl) (fun i => by simpa using hi (i + 1)) h4⟩
  | [], _ :: _, c, hl, _, _ => by simp at hl
  | _ :: _, [], c, hl, _, _ => by simp at hl
theorem leT_slE {sz : Nat} {f : Bool} {l l' : List T} (hl : l.length = l'.length) (h : ∀ i, leT anyE (l.getD i .junk) (l'.getD i .junk)) : leT anyE (.sl sz f l) (.sl sz false l') := fun E cl v hp k => by
  simp only [Rep] at k ⊢
  obtain ⟨a, cap, c, h1, h2, h3, h4, h5⟩ := k
  exact ⟨a, cap, c, by rw [h1, hl], by rw [← hl]; exact h2, (fun h => by cases h), RepR.le hl h h4, h5⟩
theorem elems_shape {α : Type} (enc : α → T) (ok : α → Prop) : ∀ (l : List T), (∀ y ∈ l, ∃ v, leT anyE y (enc v) ∧ ok v) → ∃ vs : List α, vs.length = l.length ∧ (∀ i, leT anyE (l.getD i .junk) ((vs.map enc).getD i .junk)) ∧ ∀ v ∈ vs, ok v
  | [], _ => ⟨[], rfl, fun i => by simp [leT_refl], fun v hv => by simp at hv⟩
  | y :: l, h => by
    obtain ⟨v, h1, h2⟩ := h y (by simp)
    obtain ⟨vs, h3, h4, h5⟩ := elems_shape enc ok l fun z hz => h z (by simp [hz])
    refine ⟨v :: vs, by simp [h3], fun i => ?_, fun w hw => ?_⟩
    · cases i with
      | zero => simpa using h1
      | succ i => simpa using h4 i
    · rcases List.mem_cons.1 hw with rfl | hw
      · exact h2
      · exact h5 w hw
theorem sl_shape {α : Type} (enc : α → T) (ok : α → Prop) (l : List T) (h : ∀ y ∈ l, ∃ v, leT anyE y (enc v) ∧ ok v) {sz : Nat} {f : Bool} : ∃ vs : List α, leT anyE (.sl sz f l) (.sl sz false (vs.map enc)) ∧ vs.length = l.length ∧ ∀ v ∈ vs, ok v := by
  obtain ⟨vs, h1, h2, h3⟩ := elems_shape enc ok l h
  exact ⟨vs, leT_slE (by simp [h1]) h2, h1, h3⟩
theorem arr_shape {α : Type} (enc : α → T) (ok : α → Prop) : ∀ (l : List T), (∀ y ∈ l, ∃ v, y = enc v ∧ T.cells y = [y] ∧ ok v) → ∃ vs : List α, l.flatMap T.cells = vs.map enc ∧ vs.length = l.length ∧ ∀ v ∈ vs, ok v
  | [], _ => ⟨[], rfl, rfl, fun v hv => by simp at hv⟩
  | y :: l, h => by
    obtain ⟨v, rfl, hc, h2⟩ := h y (by simp)
    obtain ⟨vs, h3, h4, h5⟩ := arr_shape enc ok l fun z hz => h z (by simp [hz])
    refine ⟨v :: vs, by rw [List.flatMap_cons, hc, h3]; rfl, by simp [h4], fun w hw => ?_⟩
    rcases List.mem_cons.1 hw with rfl | hw
    · exact h2
    · exact h5 w hw
end Go.Proofs.YtbamlphgolldlaaX

set_option linter.unusedVariables false
set_option linter.unusedSimpArgs false
namespace Go.Proofs.YtbamlphgolldlaaX
open Go Go.RowKit Go.Proofs
set_option maxRecDepth 100000
def okT9 (v : List UInt8) : Prop := v.length ≤ 9223372036854775807
def okT3 (v : Int) : Prop := (-9223372036854775808 : Int) ≤ v ∧ v ≤ 9223372036854775807
theorem shp9 : ∀ (n : Nat) (x : T), ShapeW Try.prog n 9 x → ∃ v : List UInt8, x = .imm (.string (bs v)) ∧ okT9 v
  | 0, x, h => h.elim
  | n + 1, x, h => by
    simp only [ShapeW, Try.underlying9] at h
    obtain ⟨s, rfl, hs⟩ := h
    exact ⟨s.data.toList, by rw [← of_bs], hs⟩
theorem shp3 : ∀ (n : Nat) (x : T), ShapeW Try.prog n 3 x → ∃ v : Int, x = .imm (.int .i64 v) ∧ okT3 v
  | 0, x, h => h.elim
  | n + 1, x, h => by
    simp only [ShapeW, Try.underlying3] at h
    obtain ⟨i, rfl, hi⟩ := h
    exact ⟨i, rfl, wf_of hi⟩
theorem shapedSliceRanges (main : ∀ (v0 : List UInt8) (v1 : Int), okT9 v0 → okT3 v1 → ∃ n, F6 n v0 v1 = some true) (xs : List T) (h : ShapesW Try.prog [9, 3] xs) : FnC Try.prog 6 xs (tb true) := by
  obtain ⟨x0, xs0, rfl, ⟨n0, h0⟩, x1, xs1, rfl, ⟨n1, h1⟩, rfl⟩ := h
  obtain ⟨v0, rfl, k0⟩ := shp9 _ _ h0
  obtain ⟨v1, rfl, k1⟩ := shp3 _ _ h1
  obtain ⟨N, hN⟩ := main v0 v1 k0 k1
  exact (F6_ok N v0 v1 true hN).le (leL_cons (leT_refl _) (leL_cons (leT_refl _) (leL_nil))) (leT_refl _)

end Go.Proofs.YtbamlphgolldlaaX

/- Plain functions with fuel: what they come to. Of no program. -/
set_option linter.unusedVariables false
set_option linter.unusedSimpArgs false
namespace Go.Proofs.YtbamlphgolldlaaX
open Go

/-- With fuel enough the answer is this. -/
def Ev {α : Type} (f : Nat → Option α) (r : α) : Prop := ∃ N, ∀ n, N ≤ n → f n = some r
theorem Ev.pure {α : Type} {r : α} : Ev (fun _ => some r) r := ⟨0, fun _ _ => rfl⟩
theorem Ev.const {α : Type} {x : Option α} {r : α} (h : x = some r) : Ev (fun _ => x) r := ⟨0, fun _ _ => h⟩
theorem Ev.bind {α β : Type} {f : Nat → Option α} {g : Nat → α → Option β} {v : α} {r : β} (h : Ev f v) (h' : Ev (fun n => g n v) r) : Ev (fun n => (f n).bind (g n)) r := by
  obtain ⟨N, h⟩ := h
  obtain ⟨M, h'⟩ := h'
  exact ⟨max N M, fun n hn => by show (f n).bind (g n) = _; rw [h n (by omega)]; exact h' n (by omega)⟩
theorem Ev.step {α : Type} {f : Nat → Option α} {r : α} (h : Ev (fun n => f (n + 1)) r) : Ev f r := by
  obtain ⟨N, h⟩ := h
  refine ⟨N + 1, fun n hn => ?_⟩
  obtain ⟨m, rfl⟩ : ∃ m, n = m + 1 := ⟨n - 1, by omega⟩
  exact h m (by omega)
theorem Ev.congr {α : Type} {f g : Nat → Option α} {r : α} (h : Ev g r) (e : ∀ n, f n = g n) : Ev f r := by
  obtain ⟨N, h⟩ := h
  exact ⟨N, fun n hn => (e n).trans (h n hn)⟩
theorem Ev.grd {α : Type} {p : Prop} [Decidable p] {f : Nat → Option α} {r : α} (hp : p) (h : Ev f r) : Ev (fun n => grd p (f n)) r := h.congr fun n => if_pos hp
theorem Ev.ofT {α : Type} {b : Bool} {f g : Nat → Option α} {r : α} (hb : b = true) (h : Ev f r) : Ev (fun n => iteB b (f n) (g n)) r := h.congr fun n => by rw [hb]; rfl
theorem Ev.ofF {α : Type} {b : Bool} {f g : Nat → Option α} {r : α} (hb : b = false) (h : Ev g r) : Ev (fun n => iteB b (f n) (g n)) r := h.congr fun n => by rw [hb]; rfl
theorem Ev.ite {α : Type} {b : Bool} {f g : Nat → Option α} {r : α} (h1 : b = true → Ev f r) (h2 : b = false → Ev g r) : Ev (fun n => iteB b (f n) (g n)) r := by
  cases hb : b with
  | true => exact (h1 hb).congr fun n => rfl
  | false => exact (h2 hb).congr fun n => rfl
theorem iteB_t {α : Type} (x y : Option α) : iteB true x y = x := rfl
theorem iteB_f {α : Type} (x y : Option α) : iteB false x y = y := rfl
theorem grd_t {α : Type} {p : Prop} [Decidable p] (x : Option α) (h : p) : grd p x = x := if_pos h
theorem grd_True {α : Type} [Decidable True] (x : Option α) : grd True x = x := if_pos trivial
theorem bind_some' {α β : Type} (v : α) (g : α → Option β) : (some v).bind g = g v := rfl
theorem w64 {n : Int} (h : -9223372036854775808 ≤ n ∧ n ≤ 9223372036854775807) : IntKind.wrap .i64 n = n := Go.IntWalk.i64_in _ h
theorem w32 {n : Int} (h : -2147483648 ≤ n ∧ n ≤ 2147483647) : IntKind.wrap .i32 n = n := Go.IntWalk.i32_in _ h
theorem wu8 {n : Int} (h : 0 ≤ n ∧ n ≤ 255) : IntKind.wrap .u8 n = n := Go.IntWalk.u8_in _ h
theorem wu32 {n : Int} (h : 0 ≤ n ∧ n ≤ 4294967295) : IntKind.wrap .u32 n = n := Go.IntWalk.u32_in _ h
theorem wu64 {n : Int} (h : 0 ≤ n ∧ n ≤ 18446744073709551615) : IntKind.wrap .u64 n = n := Go.IntWalk.u64_in _ h
/-- Bytes as numbers. -/
theorem u8_beq (a b : UInt8) : ((a.toNat : Int) == (b.toNat : Int)) = (a == b) := by
  rw [Bool.eq_iff_iff, beq_iff_eq, beq_iff_eq]
  exact ⟨fun h => UInt8.toNat_inj.1 (by omega), fun h => by rw [h]⟩
theorem u8_lit (a : UInt8) (k : Nat) (hk : k < 256) : ((a.toNat : Int) == ((k : Nat) : Int)) = (a == UInt8.ofNat k) := by
  rw [Bool.eq_iff_iff, beq_iff_eq, beq_iff_eq]
  constructor
  · intro h
    apply UInt8.toNat_inj.1
    rw [UInt8.toNat_ofNat']
    omega
  · intro h
    subst h
    rw [UInt8.toNat_ofNat']
    omega
theorem u8_lt (a : UInt8) : (0 : Int) ≤ (a.toNat : Int) ∧ (a.toNat : Int) ≤ 255 := by
  have := a.toNat_lt; omega
theorem drop_cons {α : Type} (l : List α) (i : Nat) (d : α) (h : i < l.length) : l.drop i = l.getD i d :: l.drop (i + 1) := by
  rw [List.drop_eq_getElem_cons h, List.getD_eq_getElem?_getD, List.getElem?_eq_getElem h]; rfl
theorem toNat_nat (n : Nat) : ((n : Int)).toNat = n := rfl
end Go.Proofs.YtbamlphgolldlaaX

/- Texts cut at a byte. -/
set_option linter.unusedVariables false
set_option linter.unusedSimpArgs false
namespace Go.Proofs.YtbamlphgolldlaaX
open Go

def splitB (c : UInt8) : List UInt8 → List (List UInt8)
  | [] => [[]]
  | x :: l => if x = c then [] :: splitB c l else match splitB c l with
    | [] => [[x]]
    | y :: ys => (x :: y) :: ys
theorem split_ne (c : UInt8) : ∀ l, splitB c l ≠ []
  | [] => by simp [splitB]
  | x :: l => by
    rw [splitB]
    split
    · simp
    · split <;> simp
/-- Where a byte first stands. -/
theorem idx_cases (c : UInt8) : ∀ s : List UInt8, (Lib.indexByte s c = -1 ∧ c ∉ s ∧ s.count c = 0 ∧ splitB c s = [s]) ∨
    ∃ m : Nat, m < s.length ∧ Lib.indexByte s c = (m : Int) ∧ c ∉ s.take m ∧ s = s.take m ++ c :: s.drop (m + 1) ∧ s.count c = 1 + (s.drop (m + 1)).count c ∧ splitB c s = s.take m :: splitB c (s.drop (m + 1))
  | [] => .inl ⟨rfl, by simp, rfl, rfl⟩
  | x :: l => by
    by_cases h : x = c
    · subst h
      refine .inr ⟨0, by simp, ?_, by simp, by simp, by simp; omega, by simp [splitB]⟩
      rw [Lib.indexByte, beq_self_eq_true, if_pos rfl]; rfl
    · have hb : (x == c) = false := by rw [beq_eq_false_iff_ne]; exact h
      rcases idx_cases c l with ⟨h1, h2, h3, h4⟩ | ⟨m, h1, h2, h3, h4, h5, h6⟩
      · refine .inl ⟨?_, ?_, ?_, ?_⟩
        · rw [Lib.indexByte, hb, h1]; rfl
        · simp only [List.mem_cons, not_or]; exact ⟨fun e => h e.symm, h2⟩
        · rw [List.count_cons_of_ne h, h3]
        · rw [splitB, if_neg h, h4]
      · refine .inr ⟨m + 1, by simp; omega, ?_, ?_, ?_, ?_, ?_⟩
        · rw [Lib.indexByte, hb, h2]
          simp only [Bool.false_eq_true, if_false]
          rw [if_neg (by rw [beq_iff_eq]; omega)]; omega
        · rw [List.take_succ_cons]; simp only [List.mem_cons, not_or]; exact ⟨fun e => h e.symm, h3⟩
        · rw [List.take_succ_cons, List.drop_succ_cons, List.cons_append, ← h4]
        · rw [List.count_cons_of_ne h, List.drop_succ_cons, h5]
        · rw [splitB, if_neg h, h6, List.take_succ_cons, List.drop_succ_cons]
theorem Index_eq (n : Nat) (s : List UInt8) (c : UInt8) : F110 n s [c] = some (Lib.indexByte s c) := by
  rw [F110]
  show iteB false _ _ = _
  rw [iteB_f]
  by_cases h : ([c] : List UInt8) = s
  · rw [show (([c] : List UInt8) == s) = true by rw [beq_iff_eq]; exact h, iteB_t, ← h, Lib.indexByte, beq_self_eq_true]; rfl
  · rw [show (([c] : List UInt8) == s) = false by rw [beq_eq_false_iff_ne]; exact h, iteB_f]
    show iteB true _ _ = _
    rw [iteB_t, grd_t _ (by simp), F109, bind_some']
    show some (Lib.indexByte s (((c.toNat : Nat) : Int).toNat.toUInt8)) = _
    rw [toNat_nat, show c.toNat.toUInt8 = c by simp]
def cutB (c : UInt8) (s : List UInt8) : List UInt8 × List UInt8 × Bool := if c ∈ s then (s.take (Lib.indexByte s c).toNat, s.drop ((Lib.indexByte s c).toNat + 1), true) else (s, [], false)
theorem Cut_eq (n : Nat) (s : List UInt8) (c : UInt8) (hs : s.length ≤ 1000000) : F69 n s [c] = some (cutB c s) := by
  unfold cutB
  rw [F69, F94, Index_eq, bind_some', show (([c] : List UInt8).length : Int) = 1 from rfl]
  rcases idx_cases c s with ⟨h1, h2, h3, h4⟩ | ⟨m, h1, h2, h3, h4, h5, h6⟩
  · rw [if_neg h2, h1]; rfl
  · have hm : c ∈ s := by rw [h4]; simp
    rw [if_pos hm, h2, decide_eq_true (by omega), iteB_t, w64 (by omega), grd_t _ (by omega), grd_t _ (by omega), bind_some', show ((m : Int) + 1).toNat = m + 1 by omega, toNat_nat]
/-- Where a byte is not ahead of its first place. -/
theorem idx_app (c : UInt8) (b : List UInt8) : ∀ a : List UInt8, c ∉ a → Lib.indexByte (a ++ c :: b) c = (a.length : Int)
  | [], _ => by rw [List.nil_append, Lib.indexByte, beq_self_eq_true, if_pos rfl]; rfl
  | x :: a, h => by
    simp only [List.mem_cons, not_or] at h
    rw [List.cons_append, Lib.indexByte, show (x == c) = false by (rw [beq_eq_false_iff_ne]; exact fun e => h.1 e.symm), idx_app c b a h.2]
    simp only [Bool.false_eq_true, if_false]
    rw [if_neg (by rw [beq_iff_eq]; omega), List.length_cons]; omega
theorem cut_app (c : UInt8) (a b : List UInt8) (h : c ∉ a) : cutB c (a ++ c :: b) = (a, b, true) := by
  unfold cutB
  rw [if_pos (by simp), idx_app c b a h, toNat_nat, List.take_left']
  · rw [show a.length + 1 = (a ++ [c]).length by simp, show a ++ c :: b = (a ++ [c]) ++ b by simp, List.drop_left']; rfl
  · rfl
theorem cut_none (c : UInt8) (a : List UInt8) (h : c ∉ a) : cutB c a = (a, [], false) := by unfold cutB; rw [if_neg h]
end Go.Proofs.YtbamlphgolldlaaX

/- hex.ReadDecimal. -/
set_option linter.unusedVariables false
set_option linter.unusedSimpArgs false
namespace Go.Proofs.YtbamlphgolldlaaX
open Go

def decP : List UInt8 → Int → Int × Bool
  | [], n => (n, true)
  | c :: l, n => if kindOf (c.toNat : Int) = 1 then decP l (n * 10 + ((c.toNat : Int) - 48)) else (0, false)
theorem kind_one {c : Int} (h : kindOf c = 1) : 48 ≤ c ∧ c ≤ 57 := by
  unfold kindOf at h
  split at h
  · assumption
  · split at h
    · omega
    · split at h
      · omega
      · split at h <;> omega
theorem pow10 (i : Nat) (h : i ≤ 17) : 1 ≤ (10 : Int) ^ i ∧ (10 : Int) ^ i ≤ 100000000000000000 ∧ (10 : Int) ^ (i + 1) = 10 ^ i * 10 := by
  have h1 : (10 : Nat) ^ i ≤ 10 ^ 17 := Nat.pow_le_pow_right (by omega) h
  have h2 : 1 ≤ (10 : Nat) ^ i := Nat.pos_of_ne_zero (by simp)
  have h3 : ((10 : Nat) ^ i : Nat) = ((10 : Int) ^ i) := by simp
  refine ⟨by omega, by omega, Int.pow_succ _ _⟩
theorem ev_dec_l (l : List UInt8) (hl : l.length ≤ 18) : ∀ (d i : Nat) (x : Int), i + d = l.length → 0 ≤ x ∧ x < (10 : Int) ^ i → Ev (fun k => F74_L1 k l x (i : Int)) (decP (l.drop i) x) := by
  intro d
  induction d with
  | zero =>
    intro i x hi hx
    rw [List.drop_of_length_le (by omega)]
    refine Ev.step (Ev.pure.congr fun k => ?_)
    rw [F74_L1, decide_eq_false (by omega), iteB_f]; rfl
  | succ d ih =>
    intro i x hi hx
    rw [drop_cons l i 0 (by omega), decP]
    obtain ⟨p1, p2, p3⟩ := pow10 i (by omega)
    have hb := u8_lt (l.getD i 0)
    have w1 : IntKind.wrap .i64 ((i : Int) + 1) = ((i + 1 : Nat) : Int) := by rw [w64 (by omega)]; omega
    generalize hc : l.getD i 0 = c at *
    by_cases hk : kindOf (c.toNat : Int) = 1
    · rw [if_pos hk]
      have hk' := kind_one hk
      have e := ih (i + 1) (x * 10 + ((c.toNat : Int) - 48)) (by omega) (by rw [p3]; omega)
      refine Ev.step (e.congr fun k => ?_)
      rw [F74_L1, decide_eq_true (by omega), iteB_t, grd_t _ (by omega), toNat_nat, hc, F66, bind_some', hk]
      show iteB false _ _ = _
      rw [iteB_f, grd_t _ (by omega), wu8 (by omega), w64 (n := (c.toNat : Int) - 48) (by omega), w64 (n := x * 10) (by omega), w64 (n := x * 10 + _) (by omega), w1]
    · rw [if_neg hk]
      refine Ev.step (Ev.pure.congr fun k => ?_)
      rw [F74_L1, decide_eq_true (by omega), iteB_t, grd_t _ (by omega), toNat_nat, hc, F66, bind_some', show (kindOf (c.toNat : Int) != 1) = true by rw [bne_iff_ne]; exact hk, iteB_t]
def readD (l : List UInt8) : Int × Bool := if l = [] ∨ 18 < l.length then (0, false) else decP l 0
theorem ev_ReadDecimal (l : List UInt8) : Ev (fun k => F74 k l) (readD l) := by
  unfold readD
  cases l with
  | nil => rw [if_pos (Or.inl rfl)]; exact Ev.pure.congr fun k => rfl
  | cons a l =>
    by_cases h : 18 < (a :: l).length
    · rw [if_pos (Or.inr h)]
      refine Ev.pure.congr fun k => ?_
      rw [F74, show ((a :: l) == []) = false by rfl, iteB_f, decide_eq_true (by omega), iteB_t]
    · rw [if_neg (by simp only [reduceCtorEq, false_or]; exact h)]
      have e := ev_dec_l (a :: l) (by omega) (a :: l).length 0 0 (by omega) (by decide)
      refine e.congr fun k => ?_
      rw [F74, show ((a :: l) == []) = false by rfl, iteB_f, decide_eq_false (by omega), iteB_f]; rfl
theorem decP_bd : ∀ (l : List UInt8) (x : Int) (m : Nat), 0 ≤ x → x < (10 : Int) ^ m → m + l.length ≤ 18 → 0 ≤ (decP l x).1 ∧ (decP l x).1 ≤ 1000000000000000000
  | [], x, m, h0, h, hl => by
    have h1 : (10 : Nat) ^ m ≤ 10 ^ 18 := Nat.pow_le_pow_right (by omega) (by simpa using hl)
    have h3 : ((10 : Nat) ^ m : Nat) = ((10 : Int) ^ m) := by simp
    rw [decP]; dsimp only; omega
  | c :: l, x, m, h0, h, hl => by
    rw [decP]
    rw [List.length_cons] at hl
    obtain ⟨p1, p2, p3⟩ := pow10 m (by omega)
    by_cases hk : kindOf (c.toNat : Int) = 1
    · have hk' := kind_one hk
      rw [if_pos hk]
      exact decP_bd l _ (m + 1) (by omega) (by rw [p3]; omega) (by omega)
    · rw [if_neg hk]; dsimp only; omega
theorem readD_bd (l : List UInt8) : 0 ≤ (readD l).1 ∧ (readD l).1 ≤ 1000000000000000000 := by
  unfold readD
  split
  · dsimp only; omega
  · exact decP_bd l 0 0 (by omega) (by decide) (by omega)

end Go.Proofs.YtbamlphgolldlaaX

/- hex.Decimal: what it answers. -/
set_option linter.unusedVariables false
set_option linter.unusedSimpArgs false
namespace Go.Proofs.YtbamlphgolldlaaX
open Go

/-- The digits of a number, the last one first. -/
def dgR (n : Nat) : List Int := if n < 10 then [48 + (n : Int)] else (48 + ((n % 10 : Nat) : Int)) :: dgR (n / 10)
theorem dgR_lt {n : Nat} (h : n < 10) : dgR n = [48 + (n : Int)] := by rw [dgR, if_pos h]
theorem dgR_ge {n : Nat} (h : ¬ n < 10) : dgR n = (48 + ((n % 10 : Nat) : Int)) :: dgR (n / 10) := by rw [dgR, if_neg h]
theorem dgR_len : ∀ (k n : Nat), n < 10 ^ (k + 1) → (dgR n).length ≤ k + 1
  | 0, n, h => by rw [dgR_lt (by omega)]; simp
  | k + 1, n, h => by
    by_cases h1 : n < 10
    · rw [dgR_lt h1]; simp
    · rw [dgR_ge h1, List.length_cons]
      have := dgR_len k (n / 10) (by rw [Nat.pow_succ] at h; omega)
      omega
theorem dgR_pos (n : Nat) : 0 < (dgR n).length := by
  by_cases h : n < 10
  · rw [dgR_lt h]; simp
  · rw [dgR_ge h]; simp
/-- A number's text. -/
def decI (n : Int) : List Int := (if n < 0 then dgR n.natAbs ++ [45] else dgR n.natAbs).reverse
def decT (n : Int) : List UInt8 := (decI n).map toB

def rvI (l0 : List Int) (i : Nat) (l : List Int) : Prop := l.length = l0.length ∧ ∀ k, k < l0.length → l.getD k 0 = if k < i ∨ l0.length - i ≤ k then l0.getD (l0.length - 1 - k) 0 else l0.getD k 0
theorem rv_end {l0 l : List Int} {i : Nat} (h : rvI l0 i l) (hi : l0.length ≤ 2 * i + 1) : l = l0.reverse := by
  obtain ⟨h1, h2⟩ := h
  apply List.ext_getElem
  · rw [h1, List.length_reverse]
  · intro k hk1 hk2
    have hk : k < l0.length := by omega
    have h3 := h2 k hk
    rw [List.getD_eq_getElem?_getD, List.getElem?_eq_getElem hk1] at h3
    rw [List.getElem_reverse]
    rw [show l[k] = (some l[k]).getD 0 from rfl, h3]
    split
    · rw [List.getD_eq_getElem?_getD, List.getElem?_eq_getElem (by omega)]; rfl
    · have e : l0.length - 1 - k = k := by omega
      rw [List.getD_eq_getElem?_getD, List.getElem?_eq_getElem (by omega)]
      simp only [e]; rfl
theorem rv_step {l0 l : List Int} {i j : Nat} (h : rvI l0 i l) (hj : i + j + 1 = l0.length) (hij : i < j) : rvI l0 (i + 1) ((l.set i (l.getD j 0)).set j (l.getD i 0)) := by
  obtain ⟨h1, h2⟩ := h
  refine ⟨by simp [h1], fun k hk => ?_⟩
  have gi := h2 i (by omega)
  have gj := h2 j (by omega)
  rw [if_neg (by omega)] at gi gj
  rw [List.getD_eq_getElem?_getD, List.getElem?_set]
  by_cases hkj : j = k
  · subst hkj
    rw [if_pos rfl, List.length_set, if_pos (by omega), Option.getD_some, gi, if_pos (by omega), show l0.length - 1 - j = i by omega]
  · rw [if_neg hkj, List.getElem?_set]
    by_cases hki : i = k
    · subst hki
      rw [if_pos rfl, if_pos (by omega), Option.getD_some, gj, if_pos (by omega), show l0.length - 1 - i = j by omega]
    · rw [if_neg hki, ← List.getD_eq_getElem?_getD, h2 k hk]
      by_cases hc : k < i ∨ l0.length - i ≤ k
      · rw [if_pos hc, if_pos (by omega)]
      · rw [if_neg hc, if_neg (by omega)]
theorem ev_rev (l0 : List Int) (hl : l0.length ≤ 1000) : ∀ (d i : Nat) (l : List Int), l0.length ≤ 2 * i + d → i ≤ l0.length → rvI l0 i l →
    Ev (fun n => F51_L4 n (i : Int) ((l0.length : Int) - 1 - i) l) (l0.reverse.map toB) := by
  intro d
  induction d with
  | zero =>
    intro i l hd hi h
    refine Ev.step (Ev.pure.congr fun n => ?_)
    have d1 : decide ((i : Int) < (l0.length : Int) - 1 - i) = false := decide_eq_false (by omega)
    simp only [F51_L4, d1, iteB_f]
    rw [rv_end h (by omega)]
  | succ d ih =>
    intro i l hd hi h
    refine Ev.step ?_
    by_cases hlt : (i : Int) < (l0.length : Int) - 1 - i
    · obtain ⟨j, hj⟩ : ∃ j : Nat, (l0.length : Int) - 1 - i = j := ⟨((l0.length : Int) - 1 - i).toNat, by omega⟩
      have d1 : decide ((i : Int) < (j : Int)) = true := decide_eq_true (by omega)
      have hll := h.1
      have w1 : IntKind.wrap .i64 ((i : Int) + 1) = ((i + 1 : Nat) : Int) := by rw [w64 (by omega)]; omega
      have w2 : IntKind.wrap .i64 ((j : Int) - 1) = (l0.length : Int) - 1 - ((i + 1 : Nat) : Int) := by rw [w64 (by omega)]; omega
      have e := ih (i + 1) _ (by omega) (by omega) (rv_step (j := j) h (by omega) (by omega))
      rw [hj]
      refine e.congr fun n => ?_
      simp only [F51_L4, d1, iteB_t, toNat_nat, w1, w2]
      have g1 : (0 ≤ (j : Int) ∧ (j : Int) < (l.length : Int)) := by omega
      have g2 : (0 ≤ (i : Int) ∧ (i : Int) < (l.length : Int)) := by omega
      have g3 : j < l.length := by omega
      have g4 : i < l.length := by omega
      rw [grd_t _ g1, grd_t _ g3, grd_t _ g2, grd_t _ g4, grd_t _ g2, grd_t _ g4, grd_t _ g1, grd_t _ g3]
      rfl
    · refine Ev.pure.congr fun n => ?_
      have d1 : decide ((i : Int) < (l0.length : Int) - 1 - i) = false := decide_eq_false hlt
      simp only [F51_L4, d1, iteB_f]
      rw [rv_end h (by omega)]
theorem ev_J3 (l : List Int) (h0 : 0 < l.length) (hl : l.length ≤ 1000) : Ev (fun n => F51_J3 n l) (l.reverse.map toB) := by
  have w1 : IntKind.wrap .i64 ((l.length : Int) - 1) = (l.length : Int) - 1 - ((0 : Nat) : Int) := by rw [w64 (by omega)]; omega
  refine (ev_rev l hl l.length 0 l (by omega) (by omega) ⟨rfl, fun k hk => by rw [if_neg (by omega)]⟩).congr fun n => ?_
  simp only [F51_J3, w1]; rfl
theorem digitAt (r : Nat) (h : r < 10) : ((([48, 49, 50, 51, 52, 53, 54, 55, 56, 57, 97, 98, 99, 100, 101, 102] : List UInt8).getD r 0).toNat : Int) = 48 + r := by
  have : ∀ r : Fin 10, ((([48, 49, 50, 51, 52, 53, 54, 55, 56, 57, 97, 98, 99, 100, 101, 102] : List UInt8).getD r.val 0).toNat : Int) = 48 + r.val := by decide
  exact this ⟨r, h⟩
theorem ev_digs (a : Int) : ∀ (k m : Nat) (l : List Int), m < 10 ^ (k + 1) → m < 10000000000000000000 → l.length + k ≤ 100 → Ev (fun n => F51_L2 n a (m : Int) l) ((if a < 0 then l ++ dgR m ++ [45] else l ++ dgR m).reverse.map toB) := by
  intro k
  induction k with
  | zero =>
    intro m l hm hb hl
    have hm' : m < 10 := by omega
    refine Ev.step ?_
    have e1 : (m : Int).tmod 10 = m := by rw [Int.tmod_eq_emod_of_nonneg (by omega)]; omega
    have e2 : (m : Int).tdiv 10 = 0 := by rw [Int.tdiv_eq_ediv_of_nonneg (by omega)]; omega
    have e3 : (IntKind.wrap .u64 0 == (0 : Int)) = true := by rw [wu64 (by omega)]; rfl
    rw [dgR_lt hm']
    by_cases ha : a < 0
    · rw [if_pos ha]
      refine (ev_J3 (l ++ [48 + (m : Int)] ++ [45]) (by simp) (by simp; omega)).congr fun n => ?_
      simp only [F51_L2, e1, e2, e3, toNat_nat, digitAt m hm', decide_eq_true ha, iteB_t]
      rw [grd_t _ (by omega), grd_t _ (by omega), grd_t _ (by omega)]
    · rw [if_neg ha]
      refine (ev_J3 (l ++ [48 + (m : Int)]) (by simp) (by simp; omega)).congr fun n => ?_
      simp only [F51_L2, e1, e2, e3, toNat_nat, digitAt m hm', decide_eq_false ha, iteB_t, iteB_f]
      rw [grd_t _ (by omega), grd_t _ (by omega)]
  | succ k ih =>
    intro m l hm hb hl
    by_cases hm' : m < 10
    · have := ih m l (by have : 10 ^ 1 ≤ 10 ^ (k + 1) := Nat.pow_le_pow_right (by omega) (by omega); omega) hb (by omega)
      exact this
    refine Ev.step ?_
    have e1 : (m : Int).tmod 10 = ((m % 10 : Nat) : Int) := by rw [Int.tmod_eq_emod_of_nonneg (by omega)]; omega
    have e2 : (m : Int).tdiv 10 = ((m / 10 : Nat) : Int) := by rw [Int.tdiv_eq_ediv_of_nonneg (by omega)]; omega
    have e4 : IntKind.wrap .u64 ((m / 10 : Nat) : Int) = ((m / 10 : Nat) : Int) := wu64 (by omega)
    have e3 : (((m / 10 : Nat) : Int) == (0 : Int)) = false := by rw [beq_eq_false_iff_ne]; omega
    have := ih (m / 10) (l ++ [48 + ((m % 10 : Nat) : Int)]) (by rw [Nat.pow_succ] at hm; omega) (by omega) (by simp; omega)
    rw [dgR_ge hm']
    rw [show (if a < 0 then l ++ (48 + ((m % 10 : Nat) : Int)) :: dgR (m / 10) ++ [45] else l ++ (48 + ((m % 10 : Nat) : Int)) :: dgR (m / 10)) = (if a < 0 then l ++ [48 + ((m % 10 : Nat) : Int)] ++ dgR (m / 10) ++ [45] else l ++ [48 + ((m % 10 : Nat) : Int)] ++ dgR (m / 10)) by simp]
    refine this.congr fun n => ?_
    simp only [F51_L2, e1, e2, e4, e3, toNat_nat, digitAt (m % 10) (by omega), iteB_f]
    rw [grd_t _ (by omega), grd_t _ (by omega)]
theorem ev_Decimal (a : Int) (h : -9223372036854775808 ≤ a ∧ a ≤ 9223372036854775807) : Ev (fun n => F51 n a) (decT a) := by
  have hd := ev_digs a 19 a.natAbs [] (by omega) (by omega) (by simp)
  simp only [List.nil_append] at hd
  unfold decT decI
  refine hd.congr fun n => ?_
  have hw : ∀ x : Int, IntKind.wrap .u64 x = x % 18446744073709551616 := fun x => rfl
  by_cases ha : a < 0
  · have e : IntKind.wrap .u64 (0 - IntKind.wrap .u64 a) = (a.natAbs : Int) := by rw [hw, hw]; omega
    simp only [F51, F51_J1, decide_eq_true ha, iteB_t, e]
  · have e : IntKind.wrap .u64 a = (a.natAbs : Int) := by rw [hw]; omega
    simp only [F51, F51_J1, decide_eq_false ha, iteB_f, e]
end Go.Proofs.YtbamlphgolldlaaX

/- The reference's digits and numbers. -/
set_option linter.unusedVariables false
set_option linter.unusedSimpArgs false
namespace Go.Proofs.YtbamlphgolldlaaX
open Go

theorem kind_fin : ∀ c : Fin 256, F67 0 (c.val : Int) = some (kindOf (c.val : Int)) := by decide +kernel
theorem rKind_eq (n : Nat) (c : UInt8) : F67 n (c.toNat : Int) = some (kindOf (c.toNat : Int)) := kind_fin ⟨c.toNat, c.toNat_lt⟩
theorem rDig_fin : ∀ r : Fin 10, ((([48, 49, 50, 51, 52, 53, 54, 55, 56, 57, 97, 98, 99, 100, 101, 102] : List UInt8).take (r.val + 1)).drop r.val) = [toB (48 + (r.val : Int))] := by decide +kernel
theorem rDig_eq (n r : Nat) (h : r < 10) : F54 n (r : Int) = some [toB (48 + (r : Int))] := by
  have w1 : IntKind.wrap .i64 ((r : Int) + 1) = ((r + 1 : Nat) : Int) := by rw [w64 (by omega)]; omega
  rw [F54, w1, grd_t _ (by omega), toNat_nat, toNat_nat]
  exact congrArg some (rDig_fin ⟨r, h⟩)
theorem ev_rdec_l (l : List UInt8) (hl : l.length ≤ 18) : ∀ (d i : Nat) (x : Int), i + d = l.length → 0 ≤ x ∧ x < (10 : Int) ^ i → Ev (fun k => F55_L1 k l x (i : Int)) (decP (l.drop i) x) := by
  intro d
  induction d with
  | zero =>
    intro i x hi hx
    rw [List.drop_of_length_le (by omega)]
    refine Ev.step (Ev.pure.congr fun k => ?_)
    rw [F55_L1, decide_eq_false (by omega), iteB_f]; rfl
  | succ d ih =>
    intro i x hi hx
    rw [drop_cons l i 0 (by omega), decP]
    obtain ⟨p1, p2, p3⟩ := pow10 i (by omega)
    have hb := u8_lt (l.getD i 0)
    have w1 : IntKind.wrap .i64 ((i : Int) + 1) = ((i + 1 : Nat) : Int) := by rw [w64 (by omega)]; omega
    generalize hc : l.getD i 0 = c at *
    by_cases hk : kindOf (c.toNat : Int) = 1
    · rw [if_pos hk]
      have hk' := kind_one hk
      have e := ih (i + 1) (x * 10 + ((c.toNat : Int) - 48)) (by omega) (by rw [p3]; omega)
      refine Ev.step (e.congr fun k => ?_)
      have hv : F90 k (c.toNat : Int) = some ((c.toNat : Int) - 48) := by
        rw [F90, rKind_eq, bind_some', hk]
        show iteB true _ _ = _
        rw [iteB_t, wu8 (by omega), w64 (by omega)]
      rw [F55_L1, decide_eq_true (by omega), iteB_t, grd_t _ (by omega), toNat_nat, hc, rKind_eq, bind_some', hk]
      show iteB false _ _ = _
      rw [iteB_f, grd_t _ (by omega), hv, bind_some', w64 (n := x * 10) (by omega), w64 (n := x * 10 + _) (by omega), w1]
    · rw [if_neg hk]
      refine Ev.step (Ev.pure.congr fun k => ?_)
      rw [F55_L1, decide_eq_true (by omega), iteB_t, grd_t _ (by omega), toNat_nat, hc, rKind_eq, bind_some', show (kindOf (c.toNat : Int) != 1) = true by rw [bne_iff_ne]; exact hk, iteB_t]
theorem ev_rReadDecimal (l : List UInt8) : Ev (fun k => F55 k l) (readD l) := by
  unfold readD
  cases l with
  | nil => rw [if_pos (Or.inl rfl)]; exact Ev.pure.congr fun k => rfl
  | cons a l =>
    have hz : (((a :: l).length : Int) == 0) = false := by rw [beq_eq_false_iff_ne, List.length_cons]; omega
    by_cases h : 18 < (a :: l).length
    · rw [if_pos (Or.inr h)]
      refine Ev.pure.congr fun k => ?_
      rw [F55, hz, iteB_f, decide_eq_true (by omega), iteB_t]
    · rw [if_neg (by simp only [reduceCtorEq, false_or]; exact h)]
      have e := ev_rdec_l (a :: l) (by omega) (a :: l).length 0 0 (by omega) (by decide)
      refine e.congr fun k => ?_
      rw [F55, hz, iteB_f, decide_eq_false (by omega), iteB_f]; rfl

theorem decP_all : ∀ (l : List UInt8) (x : Int), (decP l x).2 = true → ∀ c ∈ l, kindOf (c.toNat : Int) = 1
  | [], _, _, c, hc => by simp at hc
  | a :: l, x, h, c, hc => by
    rw [decP] at h
    by_cases k : kindOf (a.toNat : Int) = 1
    · rw [if_pos k] at h
      rcases List.mem_cons.1 hc with rfl | hc
      · exact k
      · exact decP_all l _ h c hc
    · rw [if_neg k] at h; cases h

/-- The reference's digits of any number. -/
theorem rDec_nat (j : Nat) : ∀ (k n : Nat), n < 10 ^ (k + 1) → k ≤ 18 → n ≤ 9223372036854775807 → F17 (j + k + 1) (n : Int) = some ((dgR n).reverse.map toB)
  | k, n, h, hk, hb => by
    by_cases h1 : n < 10
    · rw [dgR_lt h1, F17, decide_eq_true (by omega), iteB_t, decide_eq_true (by omega), iteB_t, rDig_eq (j + k) n h1, bind_some']; rfl
    · match k, h, hk with
      | 0, h, _ => omega
      | k + 1, h, hk =>
        have h2 : n / 10 < 10 ^ (k + 1) := by
          have : n < 10 ^ (k + 1) * 10 := by rw [← Nat.pow_succ]; exact h
          omega
        have e := rDec_nat j k (n / 10) h2 (by omega) (by omega)
        have q1 : IntKind.wrap .i64 ((n : Int).tdiv 10) = ((n / 10 : Nat) : Int) := by rw [Int.tdiv_eq_ediv_of_nonneg (by omega), w64 (by omega)]; omega
        have q2 : ((n : Int).tmod 10) = ((n % 10 : Nat) : Int) := by rw [Int.tmod_eq_emod_of_nonneg (by omega)]; omega
        have hl := dgR_len k (n / 10) h2
        have e2 : F17 (j + (k + 1) + 1) (n : Int) = ((some ((dgR (n / 10)).reverse.map toB)).bind fun v => (some [toB (48 + ((n % 10 : Nat) : Int))]).bind fun d => grd (v.length + d.length ≤ 9223372036854775807) (some (v ++ d))) := by
          rw [F17, decide_eq_true (by omega), iteB_t, decide_eq_false (by omega), iteB_f, decide_eq_false (by omega), iteB_f, q1, show j + (k + 1) = j + k + 1 from rfl, e, q2, rDig_eq (j + k + 1) (n % 10) (by omega)]
        rw [e2, bind_some', bind_some', grd_t _ (by simp; omega), dgR_ge h1, List.reverse_cons, List.map_append]; rfl
theorem ev_rneg (a : Nat) : ∀ (k m : Nat) (out : List UInt8), m < 10 ^ k → k ≤ 20 → m ≤ 9223372036854775808 → out.length + k ≤ 100 → Ev (fun n => F17_L2 n (-(m : Int)) out) (45 :: ((if m = 0 then [] else (dgR m).reverse.map toB) ++ out)) := by
  intro k
  induction k with
  | zero =>
    intro m out hm hk hb ho
    obtain rfl : m = 0 := by omega
    rw [if_pos rfl]
    refine Ev.step (Ev.pure.congr fun n => ?_)
    rw [F17_L2, decide_eq_false (by omega), iteB_f, grd_t _ (by omega)]; rfl
  | succ k ih =>
    intro m out hm hk hb ho
    by_cases h0 : m = 0
    · subst h0
      rw [if_pos rfl]
      refine Ev.step (Ev.pure.congr fun n => ?_)
      rw [F17_L2, decide_eq_false (by omega), iteB_f, grd_t _ (by omega)]; rfl
    · have h2 : m / 10 < 10 ^ k := by
        have : m < 10 ^ k * 10 := by rw [← Nat.pow_succ]; exact hm
        omega
      have e := ih (m / 10) ([toB (48 + ((m % 10 : Nat) : Int))] ++ out) h2 (by omega) (by omega) (by simp; omega)
      have q1 : IntKind.wrap .i64 (Int.tdiv (-(m : Int)) 10) = -((m / 10 : Nat) : Int) := by
        rw [Int.neg_tdiv, Int.tdiv_eq_ediv_of_nonneg (by omega), w64 (by omega)]; omega
      have q2 : IntKind.wrap .i64 (0 - Int.tmod (-(m : Int)) 10) = ((m % 10 : Nat) : Int) := by
        rw [Int.neg_tmod, Int.tmod_eq_emod_of_nonneg (by omega), w64 (by omega)]; omega
      rw [if_neg h0]
      have hres : (45 : UInt8) :: ((if m / 10 = 0 then [] else (dgR (m / 10)).reverse.map toB) ++ ([toB (48 + ((m % 10 : Nat) : Int))] ++ out)) = 45 :: ((dgR m).reverse.map toB ++ out) := by
        by_cases h1 : m < 10
        · rw [if_pos (by omega), dgR_lt h1, show m % 10 = m by omega]; rfl
        · rw [if_neg (by omega), dgR_ge h1, List.reverse_cons, List.map_append, List.append_assoc]; rfl
      rw [hres] at e
      refine Ev.step (e.congr fun n => ?_)
      rw [F17_L2, decide_eq_true (by omega), iteB_t, q2, rDig_eq n (m % 10) (by omega), bind_some', grd_t _ (by simp; omega), q1]
theorem ev_rDecimal (a : Int) (h : -9223372036854775808 ≤ a ∧ a ≤ 9223372036854775807) : Ev (fun n => F17 n a) (decT a) := by
  unfold decT decI
  by_cases h0 : a < 0
  · obtain ⟨m, hm⟩ : ∃ m : Nat, a = -(m : Int) := ⟨a.natAbs, by omega⟩
    subst hm
    have e := ev_rneg m 20 m [] (by omega) (by omega) (by omega) (by simp)
    rw [if_neg (by omega), List.append_nil] at e
    rw [if_pos h0, List.reverse_append, show (-(m : Int)).natAbs = m by omega]
    refine Ev.step (e.congr fun n => ?_)
    rw [F17, decide_eq_false (by omega), iteB_f, decide_eq_true h0, iteB_t]
  · obtain ⟨m, rfl⟩ := Int.eq_ofNat_of_zero_le (show 0 ≤ a by omega)
    rw [if_neg h0, show ((m : Int)).natAbs = m by omega]
    refine ⟨19, fun n hn => ?_⟩
    obtain ⟨k, rfl⟩ : ∃ k, n = k + 19 := ⟨n - 19, by omega⟩
    exact rDec_nat k 18 m (by omega) (by omega) (by omega)
/-- Digits are read. -/
theorem decP_snoc (c : UInt8) : ∀ (l : List UInt8) (x : Int), decP (l ++ [c]) x = if (decP l x).2 = true then decP [c] (decP l x).1 else (0, false)
  | [], x => by rw [List.nil_append]; rfl
  | a :: l, x => by
    rw [List.cons_append, decP, decP]
    by_cases k : kindOf (a.toNat : Int) = 1
    · rw [if_pos k, if_pos k]; exact decP_snoc c l _
    · rw [if_neg k, if_neg k]; rfl
theorem digit_fin : ∀ r : Fin 10, kindOf ((toB (48 + (r.val : Int))).toNat : Int) = 1 ∧ ((toB (48 + (r.val : Int))).toNat : Int) - 48 = r.val ∧ toB (48 + (r.val : Int)) ≠ 45 := by decide +kernel
theorem digit_nat (r : Nat) (h : r < 10) : kindOf ((toB (48 + (r : Int))).toNat : Int) = 1 ∧ ((toB (48 + (r : Int))).toNat : Int) - 48 = r ∧ toB (48 + (r : Int)) ≠ 45 := digit_fin ⟨r, h⟩
theorem decP_dg : ∀ (n m : Nat), m ≤ n → decP ((dgR m).reverse.map toB) 0 = ((m : Int), true)
  | n, m, h => by
    by_cases h1 : m < 10
    · have hd := digit_nat m h1
      rw [dgR_lt h1]
      show decP [toB (48 + (m : Int))] 0 = _
      rw [decP, if_pos hd.1, decP, hd.2.1]
      simp
    · match n, h with
      | 0, h => omega
      | n + 1, h =>
        have ih := decP_dg n (m / 10) (by omega)
        have hd := digit_nat (m % 10) (by omega)
        rw [dgR_ge h1, List.reverse_cons, List.map_append]
        show decP (_ ++ [toB (48 + ((m % 10 : Nat) : Int))]) 0 = _
        rw [decP_snoc, ih, if_pos rfl, decP, if_pos hd.1, decP, hd.2.1]
        congr 1
        omega
theorem dg_no : ∀ (n m : Nat), m ≤ n → (45 : UInt8) ∉ (dgR m).reverse.map toB
  | n, m, h => by
    by_cases h1 : m < 10
    · have hd := digit_nat m h1
      rw [dgR_lt h1]
      show (45 : UInt8) ∉ [toB (48 + (m : Int))]
      simp only [List.mem_singleton]
      exact fun e => hd.2.2 e.symm
    · match n, h with
      | 0, h => omega
      | n + 1, h =>
        have ih := dg_no n (m / 10) (by omega)
        have hd := digit_nat (m % 10) (by omega)
        rw [dgR_ge h1, List.reverse_cons, List.map_append, List.mem_append]
        rintro (e | e)
        · exact ih e
        · have e2 : (45 : UInt8) ∈ [toB (48 + ((m % 10 : Nat) : Int))] := e
          simp only [List.mem_singleton] at e2
          exact hd.2.2 e2.symm
theorem decT_nat (m : Nat) : decT (m : Int) = (dgR m).reverse.map toB := by
  unfold decT decI
  rw [if_neg (by omega), show ((m : Int)).natAbs = m by omega]
theorem read_dec (m : Nat) (h : m < 1000000000000000000) : readD (decT (m : Int)) = ((m : Int), true) := by
  have hl := dgR_len 17 m (by omega)
  have hp := dgR_pos m
  rw [decT_nat]
  unfold readD
  rw [if_neg, decP_dg m m (Nat.le_refl _)]
  simp only [not_or]
  constructor
  · intro e; have := congrArg List.length e; simp at this; rw [this] at hp; simp at hp
  · simp; omega
end Go.Proofs.YtbamlphgolldlaaX

/- Ranges: what slice.Range answers. -/
set_option linter.unusedVariables false
set_option linter.unusedSimpArgs false
namespace Go.Proofs.YtbamlphgolldlaaX
open Go

def preB (s p : List UInt8) : Bool := decide (p.length ≤ s.length) && s.take p.length == p
def cutPT (s p : List UInt8) : List UInt8 × Bool := if preB s p = true then (s.drop p.length, true) else (s, false)
theorem cutP_eq (n : Nat) (s p : List UInt8) : F52 n s p = some (cutPT s p) := by
  rw [F52, F88, F108]
  unfold cutPT preB
  by_cases h : p.length ≤ s.length
  · rw [decide_eq_true (by omega), iteB_t, grd_t _ (by omega), bind_some', decide_eq_true h, toNat_nat, Bool.true_and]
    cases hb : (s.take p.length == p) with
    | false => rfl
    | true =>
      show (grd _ _).bind _ = _
      rw [grd_t _ (by omega)]; rfl
  · rw [decide_eq_false (by omega), iteB_f, bind_some', decide_eq_false h]; rfl
def rdT (s : List UInt8) : Int × Bool := if s = [] then (-1, true) else readD s
theorem ev_bndR (s : List UInt8) : Ev (fun k => bndR k s) (rdT s) := by
  unfold rdT
  by_cases h : s = []
  · rw [if_pos h]
    exact Ev.pure.congr fun k => by unfold bndR; rw [if_pos h]
  · rw [if_neg h]
    exact (ev_ReadDecimal s).congr fun k => by unfold bndR; rw [if_neg h]
def bndT (s : List UInt8) : Int × Int × Bool := bndV (cutB 45 s) (rdT (cutB 45 s).1) (rdT (cutB 45 s).2.1)
theorem ev_bounds (s : List UInt8) (hs : s.length ≤ 1000000) : Ev (fun k => F53 k s) (bndT s) := by
  obtain ⟨N1, k1⟩ := ev_bndR (cutB 45 s).1
  obtain ⟨N2, k2⟩ := ev_bndR (cutB 45 s).2.1
  refine ⟨N1 + N2, fun n hn => ?_⟩
  have e1 : bndR n (cutB 45 s).1 = some (rdT (cutB 45 s).1) := k1 n (by omega)
  have e2 : bndR n (cutB 45 s).2.1 = some (rdT (cutB 45 s).2.1) := k2 n (by omega)
  show F53 n s = _
  rw [F53, Cut_eq n s 45 hs, bind_some', e1, bind_some', e2, bind_some']; rfl
theorem rdT_bd (s : List UInt8) : -1 ≤ (rdT s).1 ∧ (rdT s).1 ≤ 1000000000000000000 := by
  unfold rdT
  split
  · dsimp only; omega
  · have := readD_bd s; omega
theorem bndT_bd (s : List UInt8) : -1 ≤ (bndT s).1 ∧ (bndT s).1 ≤ 1000000000000000000 ∧ -1 ≤ (bndT s).2.1 ∧ (bndT s).2.1 ≤ 1000000000000000000 := by
  have a := rdT_bd (cutB 45 s).1
  have b := rdT_bd (cutB 45 s).2.1
  unfold bndT bndV
  split
  · dsimp only; omega
  · split
    · dsimp only; omega
    · split <;> (dsimp only; omega)
theorem rdT_neg {s : List UInt8} (h : (rdT s).1 < 0) : s = [] := by
  unfold rdT at h
  split at h
  · assumption
  · have := readD_bd s; omega
theorem bndT_ok (s : List UInt8) (h : (bndT s).2.2 = true) (h1 : (bndT s).1 < 0) : 0 ≤ (bndT s).2.1 := by
  unfold bndT bndV at h h1 ⊢
  split at h
  · cases h
  · rename_i q1
    rw [if_neg q1] at h1 ⊢
    split at h
    · cases h
    · rename_i q2
      rw [if_neg q2] at h1 ⊢
      split at h
      · cases h
      · rename_i q3
        rw [if_neg q3] at h1 ⊢
        have hx := rdT_neg h1
        have hy : (cutB 45 s).2.1 ≠ [] := fun e => q2 ⟨hx, e⟩
        rcases Int.lt_or_le (rdT (cutB 45 s).2.1).1 0 with q | q
        · exact absurd (rdT_neg q) hy
        · exact q
def maxN (n : Int) : Int := if n < 0 then 0 else n
def rT (p : Bool) (v : Int × Int × Bool) (N : Int) : (Int × Int) × Bool × Int :=
  if (p && v.2.2) = false then ((0, N), false, 0)
  else if v.1 < 0 then (if v.2.1 = 0 ∨ N = 0 then ((0, 0), false, 20) else ((if N - v.2.1 < 0 then 0 else N - v.2.1, N), true, 0))
  else if N ≤ v.1 then ((0, 0), false, 20)
  else if v.2.1 < 0 then ((v.1, N), true, 0)
  else ((v.1, (if N - 1 < v.2.1 then N - 1 else v.2.1) + 1), true, 0)
def rangeT (s : List UInt8) (n : Int) : (Int × Int) × Bool × Int := rT (cutPT s [98, 121, 116, 101, 115, 61]).2 (bndT (cutPT s [98, 121, 116, 101, 115, 61]).1) (maxN n)
theorem ev_Range (s : List UInt8) (hs : s.length ≤ 1000000) (n : Int) (hn : -9223372036854775808 ≤ n ∧ n ≤ 9223372036854775807) : Ev (fun k => F16 k s n) (rangeT s n) := by
  have hl : (cutPT s [98, 121, 116, 101, 115, 61]).1.length ≤ 1000000 := by
    unfold cutPT; split
    · simp; omega
    · exact hs
  obtain ⟨N1, k1⟩ := ev_bounds (cutPT s [98, 121, 116, 101, 115, 61]).1 hl
  refine ⟨N1, fun k hk => ?_⟩
  have e1 : F53 k (cutPT s [98, 121, 116, 101, 115, 61]).1 = some (bndT (cutPT s [98, 121, 116, 101, 115, 61]).1) := k1 k hk
  have hb := bndT_bd (cutPT s [98, 121, 116, 101, 115, 61]).1
  have hok := bndT_ok (cutPT s [98, 121, 116, 101, 115, 61]).1
  show F16 k s n = _
  rw [F16, cutP_eq, bind_some', e1, bind_some']
  unfold rangeT
  have hN : 0 ≤ maxN n ∧ maxN n ≤ 9223372036854775807 := by unfold maxN; split <;> omega
  have eN : (if n < (0 : Int) then (0 : Int) else n) = maxN n := rfl
  simp only [F16_J2, F16_J1, eN]
  generalize maxN n = N at *
  generalize (cutPT s [98, 121, 116, 101, 115, 61]).2 = p
  generalize bndT (cutPT s [98, 121, 116, 101, 115, 61]).1 = v at *
  obtain ⟨f, l, ok⟩ := v
  dsimp only at hb hok ⊢
  cases p with
  | false => rfl
  | true =>
    cases ok with
    | false => rfl
    | true =>
      show iteB false _ (iteB false _ _) = _
      rw [iteB_f, iteB_f]
      by_cases h1 : f < 0
      · rw [decide_eq_true h1, iteB_t]
        by_cases h2 : l = 0
        · have hr : rT true (f, l, true) N = ((0, 0), false, 20) := by unfold rT; dsimp only; rw [if_neg (by simp), if_pos h1, if_pos (Or.inl h2)]
          rw [hr, show (l == (0 : Int)) = true by rw [beq_iff_eq]; exact h2]; rfl
        · rw [show (l == (0 : Int)) = false by rw [beq_eq_false_iff_ne]; exact h2, iteB_f]
          by_cases h3 : N = 0
          · have hr : rT true (f, l, true) N = ((0, 0), false, 20) := by unfold rT; dsimp only; rw [if_neg (by simp), if_pos h1, if_pos (Or.inr h3)]
            rw [hr, show (N == (0 : Int)) = true by rw [beq_iff_eq]; exact h3]; rfl
          · have hlp := hok rfl h1
            have hr : rT true (f, l, true) N = ((if N - l < 0 then 0 else N - l, N), true, 0) := by unfold rT; dsimp only; rw [if_neg (by simp), if_pos h1, if_neg (by omega)]
            rw [hr, show (N == (0 : Int)) = false by rw [beq_eq_false_iff_ne]; exact h3, iteB_f, decide_eq_false (show ¬ N ≤ f by omega), iteB_f]
            rw [iteB_f, iteB_t, w64 (n := N - l) (by omega)]
      · rw [decide_eq_false h1, iteB_f]
        by_cases h2 : N ≤ f
        · have hr : rT true (f, l, true) N = ((0, 0), false, 20) := by unfold rT; dsimp only; rw [if_neg (by simp), if_neg h1, if_pos h2]
          rw [hr, decide_eq_true h2, iteB_t, decide_eq_true (show (0 : Int) ≤ f by omega)]; rfl
        · rw [decide_eq_false h2, iteB_f]
          rw [iteB_f, iteB_f]
          by_cases h3 : l < 0
          · have hr : rT true (f, l, true) N = ((f, N), true, 0) := by unfold rT; dsimp only; rw [if_neg (by simp), if_neg h1, if_neg h2, if_pos h3]
            rw [hr, decide_eq_true h3, iteB_t]
          · have hr : rT true (f, l, true) N = ((f, (if N - 1 < l then N - 1 else l) + 1), true, 0) := by unfold rT; dsimp only; rw [if_neg (by simp), if_neg h1, if_neg h2, if_neg h3]
            rw [hr, decide_eq_false h3, iteB_f, w64 (n := N - 1) (by omega), w64 (by split <;> omega)]
theorem cutP_app (s : List UInt8) : cutPT (([98, 121, 116, 101, 115, 61] : List UInt8) ++ s) [98, 121, 116, 101, 115, 61] = (s, true) := by
  unfold cutPT preB
  rw [if_pos (by simp)]; rfl
theorem cut_at (a b : List UInt8) (h : (45 : UInt8) ∉ a) : cutB 45 (a ++ ([45] ++ b)) = (a, b, true) := cut_app 45 a b h
theorem dec_ne (m : Nat) : decT (m : Int) ≠ [] := by
  have hp := dgR_pos m
  rw [decT_nat]
  intro e
  have := congrArg List.length e
  simp at this
  rw [this] at hp; simp at hp
theorem rd_dec (m : Nat) (h : m < 1000000000000000000) : rdT (decT (m : Int)) = ((m : Int), true) := by
  unfold rdT; rw [if_neg (dec_ne m), read_dec m h]
theorem bnd_two (a b : Nat) (ha : a < 1000000000000000000) (hb : b < 1000000000000000000) : bndT (decT (a : Int) ++ ([45] ++ decT (b : Int))) = if b < a then (0, 0, false) else ((a : Int), (b : Int), true) := by
  unfold bndT
  rw [cut_at _ _ (by rw [decT_nat]; exact dg_no a a (Nat.le_refl _)), rd_dec a ha, rd_dec b hb]
  unfold bndV
  rw [if_neg (by simp), if_neg (fun e => dec_ne a e.1)]
  by_cases h : b < a
  · rw [if_pos ⟨dec_ne a, dec_ne b, by dsimp only; omega⟩, if_pos h]
  · rw [if_neg (fun e => by have := e.2.2; dsimp only at this; omega), if_neg h]
theorem bnd_tail (b : Nat) (hb : b < 1000000000000000000) : bndT ([45] ++ decT (b : Int)) = (-1, (b : Int), true) := by
  unfold bndT
  have e := cut_at [] (decT (b : Int)) (by simp)
  rw [List.nil_append] at e
  rw [e, rd_dec b hb]
  unfold bndV rdT
  rw [if_pos rfl, if_neg (by simp), if_neg (fun e => dec_ne b e.2), if_neg (fun e => e.1 rfl)]
end Go.Proofs.YtbamlphgolldlaaX

/- The law SliceRanges. -/
set_option linter.unusedVariables false
set_option linter.unusedSimpArgs false
namespace Go.Proofs.YtbamlphgolldlaaX
open Go

def refO (k len : Nat) (N : Int) (a b : Int × Bool) : Int × Int × Bool × Int :=
  if k = 0 ∧ b.2 = true then (if b.1 = 0 ∨ N = 0 then (0, 0, false, 20) else (N - (if N < b.1 then N else b.1), N, true, 0))
  else if a.2 = false then (0, N, false, 0)
  else if k + 1 ≠ len ∧ (b.2 = false ∨ b.1 < a.1) then (0, N, false, 0)
  else if N ≤ a.1 then (0, 0, false, 20)
  else if k + 1 = len ∨ N ≤ b.1 then (a.1, N, true, 0) else (a.1, b.1 + 1, true, 0)
def flatR (r : (Int × Int) × Bool × Int) : Int × Int × Bool × Int := (r.1.1, r.1.2, r.2.1, r.2.2)
theorem read_nil : readD [] = (0, false) := rfl
theorem refO_eq (A B : List UInt8) (N : Int) (hN : 0 ≤ N) : refO A.length (A.length + 1 + B.length) N (readD A) (readD B) = flatR (rT true (bndV (A, B, true) (rdT A) (rdT B)) N) := by
  have ba := readD_bd A
  have bb := readD_bd B
  by_cases hA : A = []
  · subst hA
    rw [read_nil]
    by_cases hB : B = []
    · subst hB; rfl
    · have eB : rdT B = readD B := by unfold rdT; rw [if_neg hB]
      have eA : rdT [] = (-1, true) := rfl
      rw [eB, eA]
      generalize readD B = b at *
      obtain ⟨b1, b2⟩ := b
      cases b2 with
      | false => rfl
      | true =>
        have hv : bndV (([] : List UInt8), B, true) (-1, true) (b1, true) = (-1, b1, true) := by
          unfold bndV; rw [if_neg (by simp), if_neg (fun e => hB e.2), if_neg (fun e => e.1 rfl)]
        rw [hv]
        dsimp only at bb
        by_cases hz : b1 = 0 ∨ N = 0
        · have h1 : refO ([] : List UInt8).length (([] : List UInt8).length + 1 + B.length) N (0, false) (b1, true) = (0, 0, false, 20) := by unfold refO; rw [if_pos ⟨rfl, rfl⟩, if_pos hz]
          have h2 : rT true (-1, b1, true) N = ((0, 0), false, 20) := by unfold rT; dsimp only; rw [if_neg (by simp), if_pos (by omega), if_pos hz]
          rw [h1, h2]; rfl
        · have h1 : refO ([] : List UInt8).length (([] : List UInt8).length + 1 + B.length) N (0, false) (b1, true) = (N - (if N < b1 then N else b1), N, true, 0) := by unfold refO; rw [if_pos ⟨rfl, rfl⟩, if_neg hz]
          have h2 : rT true (-1, b1, true) N = ((if N - b1 < 0 then 0 else N - b1, N), true, 0) := by unfold rT; dsimp only; rw [if_neg (by simp), if_pos (by omega), if_neg hz]
          have h3 : N - (if N < b1 then N else b1) = if N - b1 < 0 then 0 else N - b1 := by split <;> split <;> omega
          rw [h1, h2, h3]; rfl
  · have eA : rdT A = readD A := by unfold rdT; rw [if_neg hA]
    have lA : A.length ≠ 0 := fun e => hA (List.eq_nil_of_length_eq_zero e)
    rw [eA]
    generalize readD A = a at *
    obtain ⟨a1, a2⟩ := a
    dsimp only at ba
    cases a2 with
    | false =>
      have h1 : ∀ b, refO A.length (A.length + 1 + B.length) N (a1, false) b = (0, N, false, 0) := fun b => by unfold refO; rw [if_neg (fun e => lA e.1), if_pos rfl]
      have h2 : ∀ y, bndV (A, B, true) (a1, false) y = (0, 0, false) := fun y => by unfold bndV; rw [if_pos (by simp)]
      rw [h1, h2]; rfl
    | true =>
      by_cases hB : B = []
      · subst hB
        have eB : rdT [] = (-1, true) := rfl
        rw [eB, read_nil]
        have hv : bndV (A, ([] : List UInt8), true) (a1, true) (-1, true) = (a1, -1, true) := by
          unfold bndV; rw [if_neg (by simp), if_neg (fun e => hA e.1), if_neg (fun e => e.2.1 rfl)]
        rw [hv]
        by_cases hN1 : N ≤ a1
        · have h1 : refO A.length (A.length + 1 + ([] : List UInt8).length) N (a1, true) (0, false) = (0, 0, false, 20) := by unfold refO; rw [if_neg (fun e => lA e.1), if_neg (by simp), if_neg (by simp), if_pos hN1]
          have h2 : rT true (a1, -1, true) N = ((0, 0), false, 20) := by unfold rT; dsimp only; rw [if_neg (by simp), if_neg (by omega), if_pos hN1]
          rw [h1, h2]; rfl
        · have h1 : refO A.length (A.length + 1 + ([] : List UInt8).length) N (a1, true) (0, false) = (a1, N, true, 0) := by unfold refO; rw [if_neg (fun e => lA e.1), if_neg (by simp), if_neg (by simp), if_neg hN1, if_pos (show (A.length + 1 = A.length + 1 + ([] : List UInt8).length ∨ N ≤ ((0, false) : Int × Bool).1) from Or.inl rfl)]
          have h2 : rT true (a1, -1, true) N = ((a1, N), true, 0) := by unfold rT; dsimp only; rw [if_neg (by simp), if_neg (by omega), if_neg hN1, if_pos (by omega)]
          rw [h1, h2]; rfl
      · have eB : rdT B = readD B := by unfold rdT; rw [if_neg hB]
        have lB : B.length ≠ 0 := fun e => hB (List.eq_nil_of_length_eq_zero e)
        have hk : A.length + 1 ≠ A.length + 1 + B.length := by omega
        rw [eB]
        generalize readD B = b at *
        obtain ⟨b1, b2⟩ := b
        dsimp only at bb
        cases b2 with
        | false =>
          have h1 : refO A.length (A.length + 1 + B.length) N (a1, true) (b1, false) = (0, N, false, 0) := by unfold refO; rw [if_neg (fun e => lA e.1), if_neg (by simp), if_pos ⟨hk, Or.inl rfl⟩]
          have h2 : bndV (A, B, true) (a1, true) (b1, false) = (0, 0, false) := by unfold bndV; rw [if_pos (by simp)]
          rw [h1, h2]; rfl
        | true =>
          by_cases hab : b1 < a1
          · have h1 : refO A.length (A.length + 1 + B.length) N (a1, true) (b1, true) = (0, N, false, 0) := by unfold refO; rw [if_neg (fun e => lA e.1), if_neg (by simp), if_pos ⟨hk, Or.inr hab⟩]
            have h2 : bndV (A, B, true) (a1, true) (b1, true) = (0, 0, false) := by unfold bndV; rw [if_neg (by simp), if_neg (fun e => hA e.1), if_pos ⟨hA, hB, hab⟩]
            rw [h1, h2]; rfl
          · have h2 : bndV (A, B, true) (a1, true) (b1, true) = (a1, b1, true) := by unfold bndV; rw [if_neg (by simp), if_neg (fun e => hA e.1), if_neg (fun e => hab e.2.2)]
            rw [h2]
            have hc : ¬ (A.length + 1 ≠ A.length + 1 + B.length ∧ ((true : Bool) = false ∨ b1 < a1)) := fun e => by rcases e.2 with e | e; cases e; exact hab e
            by_cases hN1 : N ≤ a1
            · have h1 : refO A.length (A.length + 1 + B.length) N (a1, true) (b1, true) = (0, 0, false, 20) := by unfold refO; rw [if_neg (fun e => lA e.1), if_neg (by simp), if_neg hc, if_pos hN1]
              have h3 : rT true (a1, b1, true) N = ((0, 0), false, 20) := by unfold rT; dsimp only; rw [if_neg (by simp), if_neg (by omega), if_pos hN1]
              rw [h1, h3]; rfl
            · have h3 : rT true (a1, b1, true) N = ((a1, (if N - 1 < b1 then N - 1 else b1) + 1), true, 0) := by unfold rT; dsimp only; rw [if_neg (by simp), if_neg (by omega), if_neg hN1, if_neg (by omega)]
              by_cases hN2 : N ≤ b1
              · have h1 : refO A.length (A.length + 1 + B.length) N (a1, true) (b1, true) = (a1, N, true, 0) := by unfold refO; rw [if_neg (fun e => lA e.1), if_neg (by simp), if_neg hc, if_neg hN1, if_pos (Or.inr hN2)]
                rw [h1, h3, if_pos (by omega)]
                show (a1, N, true, 0) = (a1, N - 1 + 1, true, 0)
                rw [show N - 1 + 1 = N by omega]
              · have h1 : refO A.length (A.length + 1 + B.length) N (a1, true) (b1, true) = (a1, b1 + 1, true, 0) := by
                  unfold refO; rw [if_neg (fun e => lA e.1), if_neg (by simp), if_neg hc, if_neg hN1, if_neg (fun e => by rcases e with e | e; exact hk e; exact hN2 e)]
                rw [h1, h3, if_neg (by omega)]; rfl

/-! ### the reference's Range -/
theorem ev_rR (s : List UInt8) (hs : s.length ≤ 1000000) (N : Int) (hN : 0 ≤ N ∧ N ≤ 9223372036854775807) : Ev (fun k => F18_L2 k s N 0) (flatR (rT true (bndT (s.drop 6)) N)) := by
  generalize hr : s.drop 6 = r
  have hrl : r.length ≤ 1000000 := by rw [← hr, List.length_drop]; omega
  have skip : ∀ (m : Nat), m ≤ r.length → (∀ j, j < m → r.getD j 0 ≠ 45) → ∀ res, Ev (fun k => F18_L2 k s N (m : Int)) res → ∀ d i, i + d = m → Ev (fun k => F18_L2 k s N (i : Int)) res := by
    intro m hm hno res e d
    induction d with
    | zero =>
      intro i hi
      have hi' : i = m := by omega
      rw [hi']; exact e
    | succ d ih =>
      intro i hi
      have w1 : IntKind.wrap .i64 ((i : Int) + 1) = ((i + 1 : Nat) : Int) := by rw [w64 (by omega)]; omega
      have hc : (((r.getD i 0).toNat : Int) != 45) = true := by
        have := u8_lit (r.getD i 0) 45 (by omega)
        rw [bne, show (45 : Int) = ((45 : Nat) : Int) from rfl, this, Bool.not_eq_true', beq_eq_false_iff_ne]
        exact hno i (by omega)
      refine Ev.step ((ih (i + 1) (by omega)).congr fun k => ?_)
      rw [F18_L2, hr, decide_eq_true (by omega), iteB_t, grd_t _ (by omega), toNat_nat, hc, iteB_t, w1]
  have start : ∀ (m : Nat) res, m ≤ r.length → (∀ j, j < m → r.getD j 0 ≠ 45) → Ev (fun k => F18_L2 k s N (m : Int)) res → Ev (fun k => F18_L2 k s N 0) res := fun m res h1 h2 e => skip m h1 h2 res e m 0 (Nat.zero_add _)
  have nomem : ∀ (l : List UInt8), (45 : UInt8) ∉ l → ∀ j, j < l.length → l.getD j 0 ≠ 45 := by
    intro l hl j hj e
    apply hl
    rw [← e, List.getD_eq_getElem?_getD, List.getElem?_eq_getElem hj]; exact List.getElem_mem _
  rcases idx_cases 45 r with ⟨h1, h2, h3, h4⟩ | ⟨m, h1, h2, h3, h4, h5, h6⟩
  · have hb : rT true (bndT r) N = ((0, N), false, 0) := by
      unfold bndT; rw [cut_none 45 r h2]; rfl
    rw [hb]
    refine start r.length _ (Nat.le_refl _) (nomem r h2) (Ev.step (Ev.pure.congr fun k => ?_))
    rw [F18_L2, hr, decide_eq_false (by omega), iteB_f, show ((r.length : Int) == (r.length : Int)) = true by simp, iteB_t]; rfl
  · have hcut : cutB 45 r = (r.take m, r.drop (m + 1), true) := by
      have hm : (45 : UInt8) ∈ r := by rw [h4]; simp
      unfold cutB
      rw [if_pos hm, h2, toNat_nat]
    have lt1 : (r.take m).length = m := by rw [List.length_take]; omega
    have hlen : r.length = (r.take m).length + 1 + (r.drop (m + 1)).length := by rw [lt1, List.length_drop]; omega
    have hres : flatR (rT true (bndT r) N) = refO m r.length N (readD (r.take m)) (readD (r.drop (m + 1))) := by
      have e := refO_eq (r.take m) (r.drop (m + 1)) N hN.1
      rw [← hlen, lt1] at e
      rw [e]; unfold bndT; rw [hcut]
    rw [hres]
    obtain ⟨N1, k1⟩ := ev_rReadDecimal (r.take m)
    obtain ⟨N2, k2⟩ := ev_rReadDecimal (r.drop (m + 1))
    have ba := readD_bd (r.take m)
    have bb := readD_bd (r.drop (m + 1))
    have hch : r.getD m 0 = 45 := by
      have this : r.getD m 0 = (r.take m ++ 45 :: r.drop (m + 1)).getD m 0 := congrArg (fun l => l.getD m 0) h4
      rw [this, List.getD_eq_getElem?_getD, List.getElem?_append_right (by omega), lt1, Nat.sub_self]; rfl
    refine start m _ (by omega) (fun j hj => ?_) (Ev.step ⟨N1 + N2, fun n hn => ?_⟩)
    · have := nomem _ h3 j (by omega)
      rwa [List.getD_eq_getElem?_getD, List.getElem?_take, if_pos hj, ← List.getD_eq_getElem?_getD] at this
    · have e1 : F55 n (r.take m) = some (readD (r.take m)) := k1 n (by omega)
      have e2 : F55 n (r.drop (m + 1)) = some (readD (r.drop (m + 1))) := k2 n (by omega)
      have w1 : IntKind.wrap .i64 ((m : Int) + 1) = ((m + 1 : Nat) : Int) := by rw [w64 (by omega)]; omega
      show F18_L2 (n + 1) s N (m : Int) = _
      rw [F18_L2, hr, decide_eq_true (by omega), iteB_t, grd_t _ (by omega), toNat_nat, hch]
      show iteB false _ (iteB ((m : Int) == (r.length : Int)) _ _) = _
      rw [iteB_f, show ((m : Int) == (r.length : Int)) = false by rw [beq_eq_false_iff_ne]; omega, iteB_f, grd_t _ (by omega), e1, bind_some', w1, grd_t _ (by omega), toNat_nat, e2, bind_some']
      have em : (((m + 1 : Nat) : Int) == (r.length : Int)) = decide (m + 1 = r.length) := by rw [Bool.eq_iff_iff, beq_iff_eq, decide_eq_true_eq]; omega
      have e0 : ((m : Int) == 0) = decide (m = 0) := by rw [Bool.eq_iff_iff, beq_iff_eq, decide_eq_true_eq]; omega
      rw [em, e0]
      generalize readD (r.take m) = a at *
      generalize readD (r.drop (m + 1)) = b at *
      obtain ⟨a1, a2⟩ := a
      obtain ⟨b1, b2⟩ := b
      dsimp only at ba bb
      dsimp only
      simp only [F18_J3]
      rw [w64 (n := b1 + 1) (by omega)]
      clear e1 e2 k1 k2 hres start skip hcut h6 h5 h4 em e0
      generalize r.length = len at *
      have body : iteB (!a2) (some ((0 : Int), N, false, (0 : Int))) (iteB (!decide (m + 1 = len)) (iteB (!b2) (some ((0 : Int), N, false, (0 : Int))) (iteB (decide (b1 < a1)) (some ((0 : Int), N, false, (0 : Int))) (iteB (decide (N ≤ a1)) (some ((0 : Int), (0 : Int), false, (20 : Int))) (iteB (decide (m + 1 = len)) (some (a1, N, true, (0 : Int))) (iteB (decide (N ≤ b1)) (some (a1, N, true, (0 : Int))) (some (a1, b1 + 1, true, (0 : Int)))))))) (iteB (decide (N ≤ a1)) (some ((0 : Int), (0 : Int), false, (20 : Int))) (iteB (decide (m + 1 = len)) (some (a1, N, true, (0 : Int))) (iteB (decide (N ≤ b1)) (some (a1, N, true, (0 : Int))) (some (a1, b1 + 1, true, (0 : Int))))))) =
          some (if a2 = false then (0, N, false, 0) else if m + 1 ≠ len ∧ (b2 = false ∨ b1 < a1) then (0, N, false, 0) else if N ≤ a1 then (0, 0, false, 20) else if m + 1 = len ∨ N ≤ b1 then (a1, N, true, 0) else (a1, b1 + 1, true, 0)) := by
        cases a2 with
        | false => rfl
        | true =>
          by_cases q1 : m + 1 = len
          · rw [decide_eq_true q1]
            by_cases q2 : N ≤ a1
            · rw [decide_eq_true q2]; simp [q1, q2, iteB]
            · rw [decide_eq_false q2]; simp [q1, q2, iteB]
          · rw [decide_eq_false q1]
            cases b2 with
            | false => simp [q1, iteB]
            | true =>
              by_cases q3 : b1 < a1
              · rw [decide_eq_true q3]; simp [q1, q3, iteB]
              · rw [decide_eq_false q3]
                by_cases q2 : N ≤ a1
                · rw [decide_eq_true q2]; simp [q1, q2, q3, iteB]
                · rw [decide_eq_false q2]
                  by_cases q4 : N ≤ b1
                  · rw [decide_eq_true q4]; simp [q1, q2, q3, q4, iteB]
                  · rw [decide_eq_false q4]; simp [q1, q2, q3, q4, iteB]
      rw [body]
      unfold refO
      by_cases p0 : m = 0
      · rw [decide_eq_true p0, iteB_t]
        cases b2 with
        | false => rw [iteB_f, if_neg (show ¬ (m = 0 ∧ ((b1, false) : Int × Bool).2 = true) from fun e => by cases e.2)]
        | true =>
          rw [iteB_t, if_pos (show m = 0 ∧ ((b1, true) : Int × Bool).2 = true from ⟨p0, rfl⟩)]
          dsimp only
          by_cases p1 : b1 = 0
          · rw [if_pos (Or.inl p1), show (b1 == (0 : Int)) = true by rw [beq_iff_eq]; exact p1, iteB_t]
          · rw [show (b1 == (0 : Int)) = false by rw [beq_eq_false_iff_ne]; exact p1, iteB_f]
            by_cases p2 : N = 0
            · rw [if_pos (Or.inr p2), show (N == (0 : Int)) = true by rw [beq_iff_eq]; exact p2, iteB_t]
            · rw [if_neg (by omega), show (N == (0 : Int)) = false by rw [beq_eq_false_iff_ne]; exact p2, iteB_f]
              by_cases p3 : N < b1
              · rw [decide_eq_true p3, iteB_t, if_pos p3, w64 (n := N - N) (by omega)]
              · rw [decide_eq_false p3, iteB_f, if_neg p3, w64 (n := N - b1) (by omega)]
      · rw [decide_eq_false p0, iteB_f, if_neg (show ¬ (m = 0 ∧ ((b1, b2) : Int × Bool).2 = true) from fun e => p0 e.1)]
theorem ev_rRange (s : List UInt8) (hs : s.length ≤ 1000000) (n : Int) (hn : -9223372036854775808 ≤ n ∧ n ≤ 9223372036854775807) : Ev (fun k => F18 k s n) (flatR (rangeT s n)) := by
  have hN : 0 ≤ maxN n ∧ maxN n ≤ 9223372036854775807 := by unfold maxN; split <;> omega
  have hJ : Ev (fun k => F18_J1 k s (maxN n)) (flatR (rangeT s n)) := by
    unfold rangeT cutPT preB
    by_cases h1 : s.length < 6
    · rw [if_neg (by simp; omega)]
      refine Ev.pure.congr fun k => ?_
      rw [F18_J1, decide_eq_true (by omega), iteB_t]; rfl
    · by_cases h2 : s.take 6 = [98, 121, 116, 101, 115, 61]
      · rw [if_pos (by
          rw [Bool.and_eq_true]; exact ⟨decide_eq_true (by simp; omega), by rw [beq_iff_eq]; exact h2⟩)]
        refine (ev_rR s hs (maxN n) hN).congr fun k => ?_
        rw [F18_J1, decide_eq_false (by omega), iteB_f, grd_t _ (by omega), show (s.take 6 == ([98, 121, 116, 101, 115, 61] : List UInt8)) = true by rw [beq_iff_eq]; exact h2]
        show iteB false _ (grd _ _) = _
        rw [iteB_f, grd_t _ (by omega)]
      · have hb : (s.take 6 == ([98, 121, 116, 101, 115, 61] : List UInt8)) = false := by rw [beq_eq_false_iff_ne]; exact h2
        rw [if_neg (by
          rw [Bool.and_eq_true]; rintro ⟨_, e⟩; rw [beq_iff_eq] at e; exact h2 e)]
        refine Ev.pure.congr fun k => ?_
        rw [F18_J1, decide_eq_false (by omega), iteB_f, grd_t _ (by omega), hb]; rfl
  by_cases h0 : n < 0
  · have : maxN n = 0 := by unfold maxN; rw [if_pos h0]
    rw [this] at hJ
    exact hJ.congr fun k => by rw [F18, decide_eq_true h0, iteB_t]
  · have : maxN n = n := by unfold maxN; rw [if_neg h0]
    rw [this] at hJ
    exact hJ.congr fun k => by rw [F18, decide_eq_false h0, iteB_f]
end Go.Proofs.YtbamlphgolldlaaX

/- The law SliceRanges, whole. -/
set_option linter.unusedVariables false
set_option linter.unusedSimpArgs false
namespace Go.Proofs.YtbamlphgolldlaaX
open Go

theorem dec2 : decT 2 = [50] := by
  have := decT_nat 2
  rw [show ((2 : Nat) : Int) = 2 from rfl] at this
  rw [this, dgR_lt (by omega)]; decide
theorem dec3 : decT 3 = [51] := by
  have := decT_nat 3
  rw [show ((3 : Nat) : Int) = 3 from rfl] at this
  rw [this, dgR_lt (by omega)]; decide
theorem dec10 : decT 10 = [49, 48] := by
  have := decT_nat 10
  rw [show ((10 : Nat) : Int) = 10 from rfl] at this
  rw [this, dgR_ge (by omega), dgR_lt (by omega)]; decide
theorem b23 : bndT ([50, 45, 51] : List UInt8) = (2, 3, true) := by decide +kernel
theorem decT_len (a : Int) (h : -9223372036854775808 ≤ a ∧ a ≤ 9223372036854775807) : (decT a).length ≤ 30 := by
  unfold decT decI
  have hl := dgR_len 20 a.natAbs (by omega)
  split <;> simp <;> omega
theorem law_J (s : List UInt8) (hs : s.length ≤ 1000) (n : Int) (hn : -9223372036854775808 ≤ n ∧ n ≤ 9223372036854775807) : Ev (fun k => F6_J1 k n s) true := by
  obtain ⟨N1, k1⟩ := ev_Range s (by omega) n hn
  obtain ⟨N2, k2⟩ := ev_rRange s (by omega) n hn
  obtain ⟨N3, k3⟩ := ev_Range ([98, 121, 116, 101, 115, 61, 50, 45, 51] : List UInt8) (by simp) 10 (by omega)
  obtain ⟨N4, k4⟩ := ev_Decimal n hn
  obtain ⟨N5, k5⟩ := ev_rDecimal n hn
  obtain ⟨N6, k6⟩ := ev_Decimal 2 (by omega)
  obtain ⟨N7, k7⟩ := ev_Decimal 3 (by omega)
  obtain ⟨N8, k8⟩ := ev_Decimal 10 (by omega)
  have r3 : rangeT ([98, 121, 116, 101, 115, 61, 50, 45, 51] : List UInt8) 10 = ((2, 4), true, 0) := by
    unfold rangeT
    rw [show ([98, 121, 116, 101, 115, 61, 50, 45, 51] : List UInt8) = [98, 121, 116, 101, 115, 61] ++ [50, 45, 51] from rfl, cutP_app, b23]; rfl
  refine ⟨N1 + N2 + N3 + N4 + N5 + N6 + N7 + N8, fun k hk => ?_⟩
  have e1 : F16 k s n = some (rangeT s n) := k1 k (by omega)
  have e2 : F18 k s n = some (flatR (rangeT s n)) := k2 k (by omega)
  have e3 : F16 k ([98, 121, 116, 101, 115, 61, 50, 45, 51] : List UInt8) 10 = some ((2, 4), true, 0) := by rw [← r3]; exact k3 k (by omega)
  have e4 : F51 k n = some (decT n) := k4 k (by omega)
  have e5 : F17 k n = some (decT n) := k5 k (by omega)
  have e6 : F51 k 2 = some [50] := by rw [← dec2]; exact k6 k (by omega)
  have e7 : F51 k 3 = some [51] := by rw [← dec3]; exact k7 k (by omega)
  have e8 : F51 k 10 = some [49, 48] := by rw [← dec10]; exact k8 k (by omega)
  have hl := decT_len n hn
  have e9 : F19 k n = some (([98, 121, 116, 101, 115, 32, 42, 47] : List UInt8) ++ decT n) := by
    rw [F19, e4, bind_some', grd_t _ (by omega)]
  have e10 : F20 k (2, 4) 10 = some ([98, 121, 116, 101, 115, 32, 50, 45, 51, 47, 49, 48] : List UInt8) := by
    rw [F20, e6, bind_some', grd_t _ (by simp), grd_t _ (by simp), show IntKind.wrap .i64 ((4 : Int) - 1) = 3 by decide, e7, bind_some', grd_t _ (by simp), grd_t _ (by simp), e8, bind_some', grd_t _ (by simp)]; rfl
  show F6_J1 k n s = _
  rw [F6_J1, e1, bind_some', e2, bind_some', e3, bind_some']
  unfold flatR
  dsimp only
  rw [show ((rangeT s n).1.1 == (rangeT s n).1.1 && (rangeT s n).1.2 == (rangeT s n).1.2) = true by simp, iteB_t, show ((rangeT s n).2.1 == (rangeT s n).2.1) = true by simp, iteB_t, show ((rangeT s n).2.2 == (rangeT s n).2.2) = true by simp, iteB_t, e9, bind_some', e5, bind_some', grd_t _ (by omega), beq_self_eq_true, iteB_t]
  show iteB true _ _ = _
  rw [iteB_t, e10, bind_some', beq_self_eq_true]
theorem law_main (v0 : List UInt8) (v1 : Int) (h0 : okT9 v0) (h1 : okT3 v1) : ∃ n, F6 n v0 v1 = some true := by
  unfold okT3 at h1
  by_cases h : (200 : Int) < (v0.length : Int)
  · obtain ⟨N, hN⟩ := law_J (v0.take 200) (by rw [List.length_take]; omega) v1 (by omega)
    refine ⟨N, ?_⟩
    rw [F6, decide_eq_true h, iteB_t, grd_t _ (by omega)]
    exact hN N (Nat.le_refl _)
  · obtain ⟨N, hN⟩ := law_J v0 (by omega) v1 (by omega)
    refine ⟨N, ?_⟩
    rw [F6, decide_eq_false h, iteB_f]
    exact hN N (Nat.le_refl _)
end Go.Proofs.YtbamlphgolldlaaX

set_option linter.unusedVariables false
namespace Go.Proofs.YtbamlphgolldlaaX
open Go Go.RowKit Go.Proofs
set_option maxRecDepth 100000
theorem shapedRow (xs : List T) (h : ShapesW Try.prog [9, 3] xs) : FnC Try.prog 6 xs (tb true) := shapedSliceRanges law_main xs h
end Go.Proofs.YtbamlphgolldlaaX
namespace Go.Proofs.Ytbamlphgolldlaa.sliceRanges
open Go.ChangeShapes Go.WideShapes Go.ChangeAt Go.RowKit
set_option linter.unusedVariables false
theorem own : ownKnob Try.prog.godebug = none := by kernel_rfl
set_option maxRecDepth 100000 in
theorem lifted (os : Os) (started : os.Started) (H : Type) (enc : TypeId × Value → H) :
    ReturnsInHanded {} Try.checked os 6 .any (Rows.sliceRangesSpec.pre6 enc Try.prog Try.f6 Rows.sliceRangesRow.domain false) (Rows.sliceRangesSpec.post enc Try.prog Try.f6 false true false false) := by
  refine returnsInHanded_of_change_sized (C := Try.checked) own started (by kernel_rfl) Try.func6
    (ChangeSpec.witness6 (enc := enc) (C := Try.checked) false ⟨#[], #[.string ByteArray.empty, .int .i64 0], []⟩ 8 (by kernel_rfl) (by kernel_rfl) (by kernel_rfl) (by kernel_rfl)) ?_
  intro W base args ds gs before hval0 hW hcnd hsz0 _
  exact YtbamlphgolldlaaX.row_contract (P := Try.prog) (fn := Try.f6) (s := Rows.sliceRangesSpec) (ts := [9, 3]) (tb := 4) (L := [9, 3]) (by kernel_rfl) (by kernel_rfl) (by kernel_rfl) (by kernel_rfl) (by kernel_rfl) (by kernel_rfl) rfl
    (fun H ds h => by
      match ds, h with
      | [d0, d1], _ => rfl) YtbamlphgolldlaaX.shapedRow W base args ds gs before hval0 hW
theorem over : Rows.sliceRangesRow.holds Try.pinned (OpenSpec.ofChange Rows.sliceRangesSpec) :=
  OpenClaim.holds_of_wide 6 Try.f6 rfl rfl rfl rfl rfl rfl rfl ⟨rfl, rfl, rfl, rfl, rfl⟩ rfl rfl rfl rfl rfl (by kernel_rfl) Try.func6 (by kernel_rfl)
    (of_decide_eq_true (by kernel_rfl)) (by unfold Func.isWrapper; first | (rw [if_pos (by decide +kernel)]; kernel_rfl) | (rw [if_neg (by decide +kernel)]; exact ⟨rfl, rfl⟩))
    (fun os started H enc _ => lifted os started H enc)
theorem proved : Rows.SliceRangesSaid := over
#print axioms proved
end Go.Proofs.Ytbamlphgolldlaa.sliceRanges
namespace Go.Proofs.Ytbamlphgolldlaa
/-- The row, under a short name, for the claim. -/
theorem sliceRanges_holds : Rows.SliceRangesSaid := sliceRanges.proved
end Go.Proofs.Ytbamlphgolldlaa
