/- Part of the proof of XmloutPlain: walks and plain words, merged. -/
import Derived.Test.YtbamlphgolldlaaBXmloutPlainc
import Derived.Test.YtbamlphgolldlaaBXmloutPlainb
import Derived.Test.YtbamlphgolldlaaRows
import Derived.Test.YtbamlphgolldlaaChecked
import Derived.WalkKit
import Derived.ProofKit
import Derived.OpenShut
set_option linter.unusedVariables false
set_option linter.unusedSimpArgs false

set_option linter.unusedVariables false
set_option linter.unusedSimpArgs false
namespace Go.Proofs.YtbamlphgolldlaaX
open Go Go.RowKit Go.Proofs
set_option maxRecDepth 100000
attribute [local go_sem ↓] stepsK_build stepsK_build0 stepsK_bs stepsK_bs0 appendS
attribute [local go_sem] String.reduceEq String.reduceNe reduceCtorEq Int.reduceEq Nat.reduceAdd Nat.reduceSub Nat.reduceMul Nat.reduceLT Nat.reduceLeDiff Nat.reduceEqDiff Nat.reduceBEq Int.reduceToNat Int.reduceLT Int.reduceLE Int.reduceGT Int.reduceGE Int.reduceAdd Int.reduceSub Int.reduceMul Int.reduceNeg Int.reduceBEq Int.reduceBNe Int.reducePow Int.reduceDiv Int.reduceMod Int.reduceTDiv Int.reduceTMod Int.reduceNatCast
/-! ### shadowboxlaw34.XmloutPlain -/
def F3_S3 (x3 : List UInt8) (v4 : List UInt8) (x6 : Bool) (x27 : Int) : St := ⟨[.imm (.string (bs x3)), .junk, .junk, .imm (.string (bs v4)), .imm (.bool x6), .junk, .imm (.int .i64 x27), .junk, .junk, .junk, .junk, .junk, .junk, .junk, .junk, .junk, .junk, .junk, .junk, .junk, .junk, .junk, .junk, .junk, .junk, .junk, .junk, .junk, .junk, .junk, .junk, .junk, .junk, .junk, .junk, .junk, .junk, .junk, .junk, .junk, .junk, .junk, .junk, .junk, .junk, .junk, .junk, .junk, .junk, .junk, .junk, .junk, .junk, .junk, .junk, .junk, .junk, .junk, .junk, .junk, .junk, .junk, .junk, .junk, .junk, .junk, .junk, .junk, .junk, .junk, .junk, .junk, .junk, .junk, .junk, .junk, .junk, .junk, .junk, .junk, .junk, .junk, .junk, .junk, .junk, .junk, .junk, .junk, .junk, .junk, .junk, .junk, .junk, .junk, .junk, .junk, .junk, .junk, .junk, .junk, .junk, .junk, .junk, .junk, .junk, .junk, .junk, .junk, .junk, .junk, .junk, .junk, .junk, .junk, .junk, .junk, .junk, .junk, .junk, .junk, .junk, .junk, .junk, .junk, .junk, .junk], []⟩
def F3_S2 (x3 : List UInt8) (v4 : List UInt8) (x6 : Bool) (x7 : Int) : St := ⟨[.imm (.string (bs x3)), .junk, .junk, .imm (.string (bs v4)), .imm (.bool x6), .imm (.int .i64 x7), .junk, .junk, .junk, .junk, .junk, .junk, .junk, .junk, .junk, .junk, .junk, .junk, .junk, .junk, .junk, .junk, .junk, .junk, .junk, .junk, .junk, .junk, .junk, .junk, .junk, .junk, .junk, .junk, .junk, .junk, .junk, .junk, .junk, .junk, .junk, .junk, .junk, .junk, .junk, .junk, .junk, .junk, .junk, .junk, .junk, .junk, .junk, .junk, .junk, .junk, .junk, .junk, .junk, .junk, .junk, .junk, .junk, .junk, .junk, .junk, .junk, .junk, .junk, .junk, .junk, .junk, .junk, .junk, .junk, .junk, .junk, .junk, .junk, .junk, .junk, .junk, .junk, .junk, .junk, .junk, .junk, .junk, .junk, .junk, .junk, .junk, .junk, .junk, .junk, .junk, .junk, .junk, .junk, .junk, .junk, .junk, .junk, .junk, .junk, .junk, .junk, .junk, .junk, .junk, .junk, .junk, .junk, .junk, .junk, .junk, .junk, .junk, .junk, .junk, .junk, .junk, .junk, .junk, .junk, .junk], []⟩
def F3_S1 (x3 : List UInt8) : St := ⟨[.imm (.string (bs x3)), .junk, .junk, .junk, .junk, .junk, .junk, .junk, .junk, .junk, .junk, .junk, .junk, .junk, .junk, .junk, .junk, .junk, .junk, .junk, .junk, .junk, .junk, .junk, .junk, .junk, .junk, .junk, .junk, .junk, .junk, .junk, .junk, .junk, .junk, .junk, .junk, .junk, .junk, .junk, .junk, .junk, .junk, .junk, .junk, .junk, .junk, .junk, .junk, .junk, .junk, .junk, .junk, .junk, .junk, .junk, .junk, .junk, .junk, .junk, .junk, .junk, .junk, .junk, .junk, .junk, .junk, .junk, .junk, .junk, .junk, .junk, .junk, .junk, .junk, .junk, .junk, .junk, .junk, .junk, .junk, .junk, .junk, .junk, .junk, .junk, .junk, .junk, .junk, .junk, .junk, .junk, .junk, .junk, .junk, .junk, .junk, .junk, .junk, .junk, .junk, .junk, .junk, .junk, .junk, .junk, .junk, .junk, .junk, .junk, .junk, .junk, .junk, .junk, .junk, .junk, .junk, .junk, .junk, .junk, .junk, .junk, .junk, .junk, .junk, .junk], []⟩
mutual
def F3_L3 : Nat → (List UInt8) → (List UInt8) → (Bool) → (Int) → Option (Bool)
  | 0, _, _, _, _ => none
  | m3 + 1, x3, v4, x6, x27 => iteB (decide (x27 < (v4.length : Int))) (grd (0 ≤ x27 ∧ x27 < (v4.length : Int)) (iteB (((v4.getD x27.toNat 0).toNat : Int) == (60 : Int)) (some false) (grd (0 ≤ x27 ∧ x27 < (v4.length : Int)) (iteB (((v4.getD x27.toNat 0).toNat : Int) == (62 : Int)) (some false) (grd (0 ≤ x27 ∧ x27 < (v4.length : Int)) (iteB (((v4.getD x27.toNat 0).toNat : Int) == (34 : Int)) (some false) (grd (0 ≤ x27 ∧ x27 < (v4.length : Int)) (iteB (decide (((v4.getD x27.toNat 0).toNat : Int) < (32 : Int))) (grd (0 ≤ x27 ∧ x27 < (v4.length : Int)) (iteB (((v4.getD x27.toNat 0).toNat : Int) != (9 : Int)) (grd (0 ≤ x27 ∧ x27 < (v4.length : Int)) (iteB (((v4.getD x27.toNat 0).toNat : Int) != (10 : Int)) (some false) (F3_L3 m3 x3 v4 x6 (IntKind.wrap .i64 (x27 + (1 : Int)))))) (F3_L3 m3 x3 v4 x6 (IntKind.wrap .i64 (x27 + (1 : Int)))))) (F3_L3 m3 x3 v4 x6 (IntKind.wrap .i64 (x27 + (1 : Int)))))))))))) ((F13 m3 v4).bind fun v41 => iteB v41 (iteB x6 ((F12 m3 ([38] : List UInt8)).bind fun v44 => some (v44 == ([38, 97, 109, 112, 59] : List UInt8))) (iteB (v4 == x3) ((F12 m3 ([38] : List UInt8)).bind fun v46 => some (v46 == ([38, 97, 109, 112, 59] : List UInt8))) (some false))) (some false))
def F3_L2 : Nat → (List UInt8) → (List UInt8) → (Bool) → (Int) → Option (Bool)
  | 0, _, _, _, _ => none
  | m2 + 1, x3, v4, x6, x7 => iteB (decide (x7 < (x3.length : Int))) (iteB x6 (F3_L2 m2 x3 v4 true (IntKind.wrap .i64 (x7 + (1 : Int)))) (grd (0 ≤ x7 ∧ x7 < (x3.length : Int)) (iteB (((x3.getD x7.toNat 0).toNat : Int) == (60 : Int)) (F3_L2 m2 x3 v4 true (IntKind.wrap .i64 (x7 + (1 : Int)))) (grd (0 ≤ x7 ∧ x7 < (x3.length : Int)) (iteB (((x3.getD x7.toNat 0).toNat : Int) == (62 : Int)) (F3_L2 m2 x3 v4 true (IntKind.wrap .i64 (x7 + (1 : Int)))) (grd (0 ≤ x7 ∧ x7 < (x3.length : Int)) (iteB (((x3.getD x7.toNat 0).toNat : Int) == (38 : Int)) (F3_L2 m2 x3 v4 true (IntKind.wrap .i64 (x7 + (1 : Int)))) (grd (0 ≤ x7 ∧ x7 < (x3.length : Int)) (iteB (((x3.getD x7.toNat 0).toNat : Int) == (34 : Int)) (F3_L2 m2 x3 v4 true (IntKind.wrap .i64 (x7 + (1 : Int)))) (grd (0 ≤ x7 ∧ x7 < (x3.length : Int)) (iteB (decide (((x3.getD x7.toNat 0).toNat : Int) < (32 : Int))) (grd (0 ≤ x7 ∧ x7 < (x3.length : Int)) (iteB (((x3.getD x7.toNat 0).toNat : Int) != (9 : Int)) (grd (0 ≤ x7 ∧ x7 < (x3.length : Int)) (iteB (((x3.getD x7.toNat 0).toNat : Int) != (10 : Int)) (F3_L2 m2 x3 v4 true (IntKind.wrap .i64 (x7 + (1 : Int)))) (grd (0 ≤ x7 ∧ x7 < (x3.length : Int)) (F3_L2 m2 x3 v4 (((x3.getD x7.toNat 0).toNat : Int) == (239 : Int)) (IntKind.wrap .i64 (x7 + (1 : Int))))))) (grd (0 ≤ x7 ∧ x7 < (x3.length : Int)) (F3_L2 m2 x3 v4 (((x3.getD x7.toNat 0).toNat : Int) == (239 : Int)) (IntKind.wrap .i64 (x7 + (1 : Int))))))) (grd (0 ≤ x7 ∧ x7 < (x3.length : Int)) (F3_L2 m2 x3 v4 (((x3.getD x7.toNat 0).toNat : Int) == (239 : Int)) (IntKind.wrap .i64 (x7 + (1 : Int)))))))))))))))) (F3_L3 m2 x3 v4 x6 (0 : Int))
def F3_J1 (n : Nat) (x3 : List UInt8) : Option (Bool) := (F12 n x3).bind fun v4 => (F13 n x3).bind fun v5 => F3_L2 n x3 v4 (!v5) (0 : Int)
end
def F3 (n : Nat) (a0 : List UInt8) : Option (Bool) := iteB (decide ((1000 : Int) < (a0.length : Int))) (grd ((1000 : Int) ≤ (a0.length : Int)) (F3_J1 n (a0.take 1000))) (F3_J1 n a0)
set_option maxHeartbeats 4000000 in
theorem F3_ok : ∀ (n : Nat) (a0 : List UInt8) (r : Bool), F3 n a0 = some r → FnC Try.prog 3 [.imm (.string (bs a0))] (.imm (.bool r))
  | n, a0, r, h => by
    unfold F3 at h
    refine FnC.goX mixed Try.func3 (by kernel_rfl) rfl ?_
    simp only [Try.ntmps3, List.length_cons, List.length_nil, List.replicate, List.cons_append, List.nil_append, Nat.reduceAdd, Nat.reduceSub]
    refine runX_seq ?_
    refine runX_regionC fun C hC => ?_
    try simp -implicitDefEqProofs (maxSteps := 4000000) (disch := first | omega | decide | (simp only [go_sem]; omega)) only [go_sem, ↓reduceIte]
    repeat (with_reducible refine And.intro (by first | assumption | omega | (simp; done) | (simp; omega)) ?_)
    refine toEnd hC ?_
    refine endX_seq ?_
    refine runX_meet [0] (fun S => ∃ (x3 : List UInt8), S = F3_S1 x3 ∧ F3_J1 n x3 = some r) ?_ ?_
    · refine runX_seq ?_
      refine runX_regionC fun C hC => ?_
      try simp -implicitDefEqProofs (maxSteps := 4000000) (disch := first | omega | decide | (simp only [go_sem]; omega)) only [go_sem, ↓reduceIte]
      repeat (with_reducible refine And.intro (by first | assumption | omega | (simp; done) | (simp; omega)) ?_)
      refine toEnd hC ?_
      refine endX_seq ?_
      rcases iteB_some h with ⟨c1, h⟩ | ⟨c1, h⟩
      · refine runX_condT rfl c1 ?_
        refine runX_regionC fun C hC => ?_
        obtain ⟨g2, h⟩ := grd_some h
        try simp -implicitDefEqProofs (maxSteps := 4000000) (disch := first | omega | decide | (simp only [go_sem]; omega)) only [go_sem, ↓reduceIte]
        repeat (with_reducible refine And.intro (by first | assumption | omega | (simp; done) | (simp; omega)) ?_)
        refine toEnd hC ?_
        refine endX_q (meetQ_normal ⟨F3_S1 (a0.take 1000), ?_, (a0.take 1000), rfl, h⟩)
        simp only [F3_S1]
        (try simp -implicitDefEqProofs (maxSteps := 4000000) (disch := first | omega | decide | (simp only [go_sem]; omega)) only [go_sem, ↓reduceIte])
        first | exact leS_refl _ | (refine leS_le ?_ ?_ <;> first | exact leL_refl _ | exact leOs_refl _ | (repeat (first | exact leL_refl _ | refine leL_cons (by first | exact leT_refl _ | exact leT_virt | exact leT_junk _ | exact leT_sl | exact leT_sln | exact leT_nil) ?_)))
      · refine runX_condF rfl c1 ?_
        refine runX_skip ?_
        refine endX_q (meetQ_normal ⟨F3_S1 a0, ?_, a0, rfl, h⟩)
        simp only [F3_S1]
        (try simp -implicitDefEqProofs (maxSteps := 4000000) (disch := first | omega | decide | (simp only [go_sem]; omega)) only [go_sem, ↓reduceIte])
        first | exact leS_refl _ | (refine leS_le ?_ ?_ <;> first | exact leL_refl _ | exact leOs_refl _ | (repeat (first | exact leL_refl _ | refine leL_cons (by first | exact leT_refl _ | exact leT_virt | exact leT_junk _ | exact leT_sl | exact leT_sln | exact leT_nil) ?_)))
    · clear h
      rintro S ⟨x3, rfl, h⟩
      rw [F3_J1] at h
      simp only [F3_S1]
      refine runX_seq ?_
      refine runX_regionC fun C hC => ?_
      obtain ⟨v4, h4, h⟩ := bnd_some h
      try simp -implicitDefEqProofs (maxSteps := 4000000) (disch := first | omega | decide | (simp only [go_sem]; omega)) only [go_sem, ↓reduceIte]
      repeat (with_reducible refine And.intro (by first | assumption | omega | (simp; done) | (simp; omega)) ?_)
      refine callG_X (by first | rfl | (simp only [go_sem]; done) | (simp only [closedL, closedT, Bool.and_true]; exact closedL_map _ (fun _ => rfl) _)) (F12_ok n x3 _ h4) (by repeat (first | exact leL_refl _ | refine leL_cons (by first | exact leT_refl _ | exact leT_virt | exact leT_junk _ | exact leT_sl | exact leT_sln | exact leT_nil) ?_)) ?_
      try simp -implicitDefEqProofs (maxSteps := 4000000) (disch := first | omega | decide | (simp only [go_sem]; omega)) only [go_sem, ↓reduceIte]
      repeat (with_reducible refine And.intro (by first | assumption | omega | (simp; done) | (simp; omega)) ?_)
      refine toEnd hC ?_
      refine endX_seq ?_
      refine runX_seq ?_
      refine runX_regionC fun C hC => ?_
      obtain ⟨v5, h5, h⟩ := bnd_some h
      try simp -implicitDefEqProofs (maxSteps := 4000000) (disch := first | omega | decide | (simp only [go_sem]; omega)) only [go_sem, ↓reduceIte]
      repeat (with_reducible refine And.intro (by first | assumption | omega | (simp; done) | (simp; omega)) ?_)
      refine callG_X (by first | rfl | (simp only [go_sem]; done) | (simp only [closedL, closedT, Bool.and_true]; exact closedL_map _ (fun _ => rfl) _)) (F13_ok n x3 _ h5) (by repeat (first | exact leL_refl _ | refine leL_cons (by first | exact leT_refl _ | exact leT_virt | exact leT_junk _ | exact leT_sl | exact leT_sln | exact leT_nil) ?_)) ?_
      try simp -implicitDefEqProofs (maxSteps := 4000000) (disch := first | omega | decide | (simp only [go_sem]; omega)) only [go_sem, ↓reduceIte]
      repeat (with_reducible refine And.intro (by first | assumption | omega | (simp; done) | (simp; omega)) ?_)
      refine toEnd hC ?_
      refine endX_seq ?_
      refine runX_seq ?_
      refine runX_seq ?_
      refine runX_regionC fun C hC => ?_
      try simp -implicitDefEqProofs (maxSteps := 4000000) (disch := first | omega | decide | (simp only [go_sem]; omega)) only [go_sem, ↓reduceIte]
      repeat (with_reducible refine And.intro (by first | assumption | omega | (simp; done) | (simp; omega)) ?_)
      refine toEnd hC ?_
      refine endX_seq ?_
      refine runX_block ?_
      refine runX_loop [0, 3, 4, 5] (fun m S => ∃ (x6 : Bool) (x7 : Int), S = F3_S2 x3 v4 x6 x7 ∧ m ≤ n ∧ F3_L2 m x3 v4 x6 x7 = some r) n ⟨F3_S2 x3 v4 (!v5) (0 : Int), ?_, (!v5), (0 : Int), rfl, Nat.le_refl _, h⟩ ?_
      · simp only [F3_S2]
        (try simp -implicitDefEqProofs (maxSteps := 4000000) (disch := first | omega | decide | (simp only [go_sem]; omega)) only [go_sem, ↓reduceIte])
        first | exact leS_refl _ | (refine leS_le ?_ ?_ <;> first | exact leL_refl _ | exact leOs_refl _ | (repeat (first | exact leL_refl _ | refine leL_cons (by first | exact leT_refl _ | exact leT_virt | exact leT_junk _ | exact leT_sl | exact leT_sln | exact leT_nil) ?_)))
      · clear h
        rintro m2 S ⟨x6, x7, rfl, hm2, h⟩
        cases m2 with
        | zero => first | cases (show (none : Option _) = some _ from h) | (rw [F3_L2] at h; cases h)
        | succ m2 =>
          rw [F3_L2] at h
          simp only [F3_S2]
          refine runX_seq ?_
          refine runX_seq ?_
          refine runX_regionC fun C hC => ?_
          try simp -implicitDefEqProofs (maxSteps := 4000000) (disch := first | omega | decide | (simp only [go_sem]; omega)) only [go_sem, ↓reduceIte]
          repeat (with_reducible refine And.intro (by first | assumption | omega | (simp; done) | (simp; omega)) ?_)
          refine toEnd hC ?_
          refine endX_seq ?_
          rcases iteB_some h with ⟨c8, h⟩ | ⟨c8, h⟩
          · refine runX_condT rfl c8 ?_
            refine runX_skip ?_
            refine endX_seq ?_
            refine runX_seq ?_
            refine runX_block ?_
            refine runX_regionC fun C hC => ?_
            try simp -implicitDefEqProofs (maxSteps := 4000000) (disch := first | omega | decide | (simp only [go_sem]; omega)) only [go_sem, ↓reduceIte]
            repeat (with_reducible refine And.intro (by first | assumption | omega | (simp; done) | (simp; omega)) ?_)
            rcases iteB_some h with ⟨c9, h⟩ | ⟨c9, h⟩
            · refine guardK_F c9 ?_
              try simp -implicitDefEqProofs (maxSteps := 4000000) (disch := first | omega | decide | (simp only [go_sem]; omega)) only [go_sem, ↓reduceIte]
              repeat (with_reducible refine And.intro (by first | assumption | omega | (simp; done) | (simp; omega)) ?_)
              refine toEnd hC ?_
              refine endX_blk ?_
              refine endX_seq ?_
              refine runX_regionC fun C hC => ?_
              try simp -implicitDefEqProofs (maxSteps := 4000000) (disch := first | omega | decide | (simp only [go_sem]; omega)) only [go_sem, ↓reduceIte]
              repeat (with_reducible refine And.intro (by first | assumption | omega | (simp; done) | (simp; omega)) ?_)
              refine toEnd hC ?_
              refine endX_q (roundQ_normal ⟨m2, by omega, F3_S2 x3 v4 true (IntKind.wrap .i64 (x7 + (1 : Int))), ?_, true, (IntKind.wrap .i64 (x7 + (1 : Int))), rfl, by omega, h⟩)
              simp only [F3_S2]
              (try simp -implicitDefEqProofs (maxSteps := 4000000) (disch := first | omega | decide | (simp only [go_sem]; omega)) only [go_sem, ↓reduceIte])
              first | exact leS_refl _ | (refine leS_le ?_ ?_ <;> first | exact leL_refl _ | exact leOs_refl _ | (repeat (first | exact leL_refl _ | refine leL_cons (by first | exact leT_refl _ | exact leT_virt | exact leT_junk _ | exact leT_sl | exact leT_sln | exact leT_nil) ?_)))
            · refine guardK_T c9 ?_
              obtain ⟨g10, h⟩ := grd_some h
              try simp -implicitDefEqProofs (maxSteps := 4000000) (disch := first | omega | decide | (simp only [go_sem]; omega)) only [go_sem, ↓reduceIte]
              repeat (with_reducible refine And.intro (by first | assumption | omega | (simp; done) | (simp; omega)) ?_)
              rcases iteB_some h with ⟨c11, h⟩ | ⟨c11, h⟩
              · refine guardK_F c11 ?_
                try simp -implicitDefEqProofs (maxSteps := 4000000) (disch := first | omega | decide | (simp only [go_sem]; omega)) only [go_sem, ↓reduceIte]
                repeat (with_reducible refine And.intro (by first | assumption | omega | (simp; done) | (simp; omega)) ?_)
                refine toEnd hC ?_
                refine endX_blk ?_
                refine endX_seq ?_
                refine runX_regionC fun C hC => ?_
                try simp -implicitDefEqProofs (maxSteps := 4000000) (disch := first | omega | decide | (simp only [go_sem]; omega)) only [go_sem, ↓reduceIte]
                repeat (with_reducible refine And.intro (by first | assumption | omega | (simp; done) | (simp; omega)) ?_)
                refine toEnd hC ?_
                refine endX_q (roundQ_normal ⟨m2, by omega, F3_S2 x3 v4 true (IntKind.wrap .i64 (x7 + (1 : Int))), ?_, true, (IntKind.wrap .i64 (x7 + (1 : Int))), rfl, by omega, h⟩)
                simp only [F3_S2]
                (try simp -implicitDefEqProofs (maxSteps := 4000000) (disch := first | omega | decide | (simp only [go_sem]; omega)) only [go_sem, ↓reduceIte])
                first | exact leS_refl _ | (refine leS_le ?_ ?_ <;> first | exact leL_refl _ | exact leOs_refl _ | (repeat (first | exact leL_refl _ | refine leL_cons (by first | exact leT_refl _ | exact leT_virt | exact leT_junk _ | exact leT_sl | exact leT_sln | exact leT_nil) ?_)))
              · refine guardK_T c11 ?_
                obtain ⟨g12, h⟩ := grd_some h
                try simp -implicitDefEqProofs (maxSteps := 4000000) (disch := first | omega | decide | (simp only [go_sem]; omega)) only [go_sem, ↓reduceIte]
                repeat (with_reducible refine And.intro (by first | assumption | omega | (simp; done) | (simp; omega)) ?_)
                rcases iteB_some h with ⟨c13, h⟩ | ⟨c13, h⟩
                · refine guardK_F c13 ?_
                  try simp -implicitDefEqProofs (maxSteps := 4000000) (disch := first | omega | decide | (simp only [go_sem]; omega)) only [go_sem, ↓reduceIte]
                  repeat (with_reducible refine And.intro (by first | assumption | omega | (simp; done) | (simp; omega)) ?_)
                  refine toEnd hC ?_
                  refine endX_blk ?_
                  refine endX_seq ?_
                  refine runX_regionC fun C hC => ?_
                  try simp -implicitDefEqProofs (maxSteps := 4000000) (disch := first | omega | decide | (simp only [go_sem]; omega)) only [go_sem, ↓reduceIte]
                  repeat (with_reducible refine And.intro (by first | assumption | omega | (simp; done) | (simp; omega)) ?_)
                  refine toEnd hC ?_
                  refine endX_q (roundQ_normal ⟨m2, by omega, F3_S2 x3 v4 true (IntKind.wrap .i64 (x7 + (1 : Int))), ?_, true, (IntKind.wrap .i64 (x7 + (1 : Int))), rfl, by omega, h⟩)
                  simp only [F3_S2]
                  (try simp -implicitDefEqProofs (maxSteps := 4000000) (disch := first | omega | decide | (simp only [go_sem]; omega)) only [go_sem, ↓reduceIte])
                  first | exact leS_refl _ | (refine leS_le ?_ ?_ <;> first | exact leL_refl _ | exact leOs_refl _ | (repeat (first | exact leL_refl _ | refine leL_cons (by first | exact leT_refl _ | exact leT_virt | exact leT_junk _ | exact leT_sl | exact leT_sln | exact leT_nil) ?_)))
                · refine guardK_T c13 ?_
                  obtain ⟨g14, h⟩ := grd_some h
                  try simp -implicitDefEqProofs (maxSteps := 4000000) (disch := first | omega | decide | (simp only [go_sem]; omega)) only [go_sem, ↓reduceIte]
                  repeat (with_reducible refine And.intro (by first | assumption | omega | (simp; done) | (simp; omega)) ?_)
                  rcases iteB_some h with ⟨c15, h⟩ | ⟨c15, h⟩
                  · refine guardK_F c15 ?_
                    try simp -implicitDefEqProofs (maxSteps := 4000000) (disch := first | omega | decide | (simp only [go_sem]; omega)) only [go_sem, ↓reduceIte]
                    repeat (with_reducible refine And.intro (by first | assumption | omega | (simp; done) | (simp; omega)) ?_)
                    refine toEnd hC ?_
                    refine endX_blk ?_
                    refine endX_seq ?_
                    refine runX_regionC fun C hC => ?_
                    try simp -implicitDefEqProofs (maxSteps := 4000000) (disch := first | omega | decide | (simp only [go_sem]; omega)) only [go_sem, ↓reduceIte]
                    repeat (with_reducible refine And.intro (by first | assumption | omega | (simp; done) | (simp; omega)) ?_)
                    refine toEnd hC ?_
                    refine endX_q (roundQ_normal ⟨m2, by omega, F3_S2 x3 v4 true (IntKind.wrap .i64 (x7 + (1 : Int))), ?_, true, (IntKind.wrap .i64 (x7 + (1 : Int))), rfl, by omega, h⟩)
                    simp only [F3_S2]
                    (try simp -implicitDefEqProofs (maxSteps := 4000000) (disch := first | omega | decide | (simp only [go_sem]; omega)) only [go_sem, ↓reduceIte])
                    first | exact leS_refl _ | (refine leS_le ?_ ?_ <;> first | exact leL_refl _ | exact leOs_refl _ | (repeat (first | exact leL_refl _ | refine leL_cons (by first | exact leT_refl _ | exact leT_virt | exact leT_junk _ | exact leT_sl | exact leT_sln | exact leT_nil) ?_)))
                  · refine guardK_T c15 ?_
                    obtain ⟨g16, h⟩ := grd_some h
                    try simp -implicitDefEqProofs (maxSteps := 4000000) (disch := first | omega | decide | (simp only [go_sem]; omega)) only [go_sem, ↓reduceIte]
                    repeat (with_reducible refine And.intro (by first | assumption | omega | (simp; done) | (simp; omega)) ?_)
                    rcases iteB_some h with ⟨c17, h⟩ | ⟨c17, h⟩
                    · refine guardK_F c17 ?_
                      try simp -implicitDefEqProofs (maxSteps := 4000000) (disch := first | omega | decide | (simp only [go_sem]; omega)) only [go_sem, ↓reduceIte]
                      repeat (with_reducible refine And.intro (by first | assumption | omega | (simp; done) | (simp; omega)) ?_)
                      refine toEnd hC ?_
                      refine endX_blk ?_
                      refine endX_seq ?_
                      refine runX_regionC fun C hC => ?_
                      try simp -implicitDefEqProofs (maxSteps := 4000000) (disch := first | omega | decide | (simp only [go_sem]; omega)) only [go_sem, ↓reduceIte]
                      repeat (with_reducible refine And.intro (by first | assumption | omega | (simp; done) | (simp; omega)) ?_)
                      refine toEnd hC ?_
                      refine endX_q (roundQ_normal ⟨m2, by omega, F3_S2 x3 v4 true (IntKind.wrap .i64 (x7 + (1 : Int))), ?_, true, (IntKind.wrap .i64 (x7 + (1 : Int))), rfl, by omega, h⟩)
                      simp only [F3_S2]
                      (try simp -implicitDefEqProofs (maxSteps := 4000000) (disch := first | omega | decide | (simp only [go_sem]; omega)) only [go_sem, ↓reduceIte])
                      first | exact leS_refl _ | (refine leS_le ?_ ?_ <;> first | exact leL_refl _ | exact leOs_refl _ | (repeat (first | exact leL_refl _ | refine leL_cons (by first | exact leT_refl _ | exact leT_virt | exact leT_junk _ | exact leT_sl | exact leT_sln | exact leT_nil) ?_)))
                    · refine guardK_T c17 ?_
                      obtain ⟨g18, h⟩ := grd_some h
                      try simp -implicitDefEqProofs (maxSteps := 4000000) (disch := first | omega | decide | (simp only [go_sem]; omega)) only [go_sem, ↓reduceIte]
                      repeat (with_reducible refine And.intro (by first | assumption | omega | (simp; done) | (simp; omega)) ?_)
                      rcases iteB_some h with ⟨c19, h⟩ | ⟨c19, h⟩
                      · refine guardK_T c19 ?_
                        obtain ⟨g20, h⟩ := grd_some h
                        try simp -implicitDefEqProofs (maxSteps := 4000000) (disch := first | omega | decide | (simp only [go_sem]; omega)) only [go_sem, ↓reduceIte]
                        repeat (with_reducible refine And.intro (by first | assumption | omega | (simp; done) | (simp; omega)) ?_)
                        rcases iteB_some h with ⟨c21, h⟩ | ⟨c21, h⟩
                        · refine guardK_T c21 ?_
                          obtain ⟨g22, h⟩ := grd_some h
                          try simp -implicitDefEqProofs (maxSteps := 4000000) (disch := first | omega | decide | (simp only [go_sem]; omega)) only [go_sem, ↓reduceIte]
                          repeat (with_reducible refine And.intro (by first | assumption | omega | (simp; done) | (simp; omega)) ?_)
                          rcases iteB_some h with ⟨c23, h⟩ | ⟨c23, h⟩
                          · refine guardK_F c23 ?_
                            try simp -implicitDefEqProofs (maxSteps := 4000000) (disch := first | omega | decide | (simp only [go_sem]; omega)) only [go_sem, ↓reduceIte]
                            repeat (with_reducible refine And.intro (by first | assumption | omega | (simp; done) | (simp; omega)) ?_)
                            refine toEnd hC ?_
                            refine endX_blk ?_
                            refine endX_seq ?_
                            refine runX_regionC fun C hC => ?_
                            try simp -implicitDefEqProofs (maxSteps := 4000000) (disch := first | omega | decide | (simp only [go_sem]; omega)) only [go_sem, ↓reduceIte]
                            repeat (with_reducible refine And.intro (by first | assumption | omega | (simp; done) | (simp; omega)) ?_)
                            refine toEnd hC ?_
                            refine endX_q (roundQ_normal ⟨m2, by omega, F3_S2 x3 v4 true (IntKind.wrap .i64 (x7 + (1 : Int))), ?_, true, (IntKind.wrap .i64 (x7 + (1 : Int))), rfl, by omega, h⟩)
                            simp only [F3_S2]
                            (try simp -implicitDefEqProofs (maxSteps := 4000000) (disch := first | omega | decide | (simp only [go_sem]; omega)) only [go_sem, ↓reduceIte])
                            first | exact leS_refl _ | (refine leS_le ?_ ?_ <;> first | exact leL_refl _ | exact leOs_refl _ | (repeat (first | exact leL_refl _ | refine leL_cons (by first | exact leT_refl _ | exact leT_virt | exact leT_junk _ | exact leT_sl | exact leT_sln | exact leT_nil) ?_)))
                          · refine guardK_T c23 ?_
                            obtain ⟨g24, h⟩ := grd_some h
                            try simp -implicitDefEqProofs (maxSteps := 4000000) (disch := first | omega | decide | (simp only [go_sem]; omega)) only [go_sem, ↓reduceIte]
                            repeat (with_reducible refine And.intro (by first | assumption | omega | (simp; done) | (simp; omega)) ?_)
                            refine toEnd hC ?_
                            refine endX_blk ?_
                            refine endX_seq ?_
                            refine runX_regionC fun C hC => ?_
                            try simp -implicitDefEqProofs (maxSteps := 4000000) (disch := first | omega | decide | (simp only [go_sem]; omega)) only [go_sem, ↓reduceIte]
                            repeat (with_reducible refine And.intro (by first | assumption | omega | (simp; done) | (simp; omega)) ?_)
                            refine toEnd hC ?_
                            refine endX_q (roundQ_normal ⟨m2, by omega, F3_S2 x3 v4 (((x3.getD x7.toNat 0).toNat : Int) == (239 : Int)) (IntKind.wrap .i64 (x7 + (1 : Int))), ?_, (((x3.getD x7.toNat 0).toNat : Int) == (239 : Int)), (IntKind.wrap .i64 (x7 + (1 : Int))), rfl, by omega, h⟩)
                            simp only [F3_S2]
                            (try simp -implicitDefEqProofs (maxSteps := 4000000) (disch := first | omega | decide | (simp only [go_sem]; omega)) only [go_sem, ↓reduceIte])
                            first | exact leS_refl _ | (refine leS_le ?_ ?_ <;> first | exact leL_refl _ | exact leOs_refl _ | (repeat (first | exact leL_refl _ | refine leL_cons (by first | exact leT_refl _ | exact leT_virt | exact leT_junk _ | exact leT_sl | exact leT_sln | exact leT_nil) ?_)))
                        · refine guardK_F c21 ?_
                          obtain ⟨g25, h⟩ := grd_some h
                          try simp -implicitDefEqProofs (maxSteps := 4000000) (disch := first | omega | decide | (simp only [go_sem]; omega)) only [go_sem, ↓reduceIte]
                          repeat (with_reducible refine And.intro (by first | assumption | omega | (simp; done) | (simp; omega)) ?_)
                          refine toEnd hC ?_
                          refine endX_blk ?_
                          refine endX_seq ?_
                          refine runX_regionC fun C hC => ?_
                          try simp -implicitDefEqProofs (maxSteps := 4000000) (disch := first | omega | decide | (simp only [go_sem]; omega)) only [go_sem, ↓reduceIte]
                          repeat (with_reducible refine And.intro (by first | assumption | omega | (simp; done) | (simp; omega)) ?_)
                          refine toEnd hC ?_
                          refine endX_q (roundQ_normal ⟨m2, by omega, F3_S2 x3 v4 (((x3.getD x7.toNat 0).toNat : Int) == (239 : Int)) (IntKind.wrap .i64 (x7 + (1 : Int))), ?_, (((x3.getD x7.toNat 0).toNat : Int) == (239 : Int)), (IntKind.wrap .i64 (x7 + (1 : Int))), rfl, by omega, h⟩)
                          simp only [F3_S2]
                          (try simp -implicitDefEqProofs (maxSteps := 4000000) (disch := first | omega | decide | (simp only [go_sem]; omega)) only [go_sem, ↓reduceIte])
                          first | exact leS_refl _ | (refine leS_le ?_ ?_ <;> first | exact leL_refl _ | exact leOs_refl _ | (repeat (first | exact leL_refl _ | refine leL_cons (by first | exact leT_refl _ | exact leT_virt | exact leT_junk _ | exact leT_sl | exact leT_sln | exact leT_nil) ?_)))
                      · refine guardK_F c19 ?_
                        obtain ⟨g26, h⟩ := grd_some h
                        try simp -implicitDefEqProofs (maxSteps := 4000000) (disch := first | omega | decide | (simp only [go_sem]; omega)) only [go_sem, ↓reduceIte]
                        repeat (with_reducible refine And.intro (by first | assumption | omega | (simp; done) | (simp; omega)) ?_)
                        refine toEnd hC ?_
                        refine endX_blk ?_
                        refine endX_seq ?_
                        refine runX_regionC fun C hC => ?_
                        try simp -implicitDefEqProofs (maxSteps := 4000000) (disch := first | omega | decide | (simp only [go_sem]; omega)) only [go_sem, ↓reduceIte]
                        repeat (with_reducible refine And.intro (by first | assumption | omega | (simp; done) | (simp; omega)) ?_)
                        refine toEnd hC ?_
                        refine endX_q (roundQ_normal ⟨m2, by omega, F3_S2 x3 v4 (((x3.getD x7.toNat 0).toNat : Int) == (239 : Int)) (IntKind.wrap .i64 (x7 + (1 : Int))), ?_, (((x3.getD x7.toNat 0).toNat : Int) == (239 : Int)), (IntKind.wrap .i64 (x7 + (1 : Int))), rfl, by omega, h⟩)
                        simp only [F3_S2]
                        (try simp -implicitDefEqProofs (maxSteps := 4000000) (disch := first | omega | decide | (simp only [go_sem]; omega)) only [go_sem, ↓reduceIte])
                        first | exact leS_refl _ | (refine leS_le ?_ ?_ <;> first | exact leL_refl _ | exact leOs_refl _ | (repeat (first | exact leL_refl _ | refine leL_cons (by first | exact leT_refl _ | exact leT_virt | exact leT_junk _ | exact leT_sl | exact leT_sln | exact leT_nil) ?_)))
          · refine runX_condF rfl c8 ?_
            refine runX_exit ?_
            refine endX_seqE ?_
            refine endX_q (roundQ_exit ?_)
            refine endX_blkE ?_
            refine endX_seq ?_
            refine runX_seq ?_
            refine runX_seq ?_
            refine runX_regionC fun C hC => ?_
            try simp -implicitDefEqProofs (maxSteps := 4000000) (disch := first | omega | decide | (simp only [go_sem]; omega)) only [go_sem, ↓reduceIte]
            repeat (with_reducible refine And.intro (by first | assumption | omega | (simp; done) | (simp; omega)) ?_)
            refine toEnd hC ?_
            refine endX_seq ?_
            refine runX_block ?_
            refine runX_loop [0, 3, 4, 6] (fun m S => ∃ (x27 : Int), S = F3_S3 x3 v4 x6 x27 ∧ m ≤ m2 ∧ F3_L3 m x3 v4 x6 x27 = some r) m2 ⟨F3_S3 x3 v4 x6 (0 : Int), ?_, (0 : Int), rfl, Nat.le_refl _, h⟩ ?_
            · simp only [F3_S3]
              (try simp -implicitDefEqProofs (maxSteps := 4000000) (disch := first | omega | decide | (simp only [go_sem]; omega)) only [go_sem, ↓reduceIte])
              first | exact leS_refl _ | (refine leS_le ?_ ?_ <;> first | exact leL_refl _ | exact leOs_refl _ | (repeat (first | exact leL_refl _ | refine leL_cons (by first | exact leT_refl _ | exact leT_virt | exact leT_junk _ | exact leT_sl | exact leT_sln | exact leT_nil) ?_)))
            · clear h
              rintro m3 S ⟨x27, rfl, hm3, h⟩
              cases m3 with
              | zero => first | cases (show (none : Option _) = some _ from h) | (rw [F3_L3] at h; cases h)
              | succ m3 =>
                rw [F3_L3] at h
                simp only [F3_S3]
                refine runX_seq ?_
                refine runX_seq ?_
                refine runX_regionC fun C hC => ?_
                try simp -implicitDefEqProofs (maxSteps := 4000000) (disch := first | omega | decide | (simp only [go_sem]; omega)) only [go_sem, ↓reduceIte]
                repeat (with_reducible refine And.intro (by first | assumption | omega | (simp; done) | (simp; omega)) ?_)
                refine toEnd hC ?_
                refine endX_seq ?_
                rcases iteB_some h with ⟨c28, h⟩ | ⟨c28, h⟩
                · refine runX_condT rfl c28 ?_
                  refine runX_skip ?_
                  refine endX_seq ?_
                  refine runX_seq ?_
                  refine runX_block ?_
                  refine runX_seq ?_
                  refine runX_regionC fun C hC => ?_
                  obtain ⟨g29, h⟩ := grd_some h
                  try simp -implicitDefEqProofs (maxSteps := 4000000) (disch := first | omega | decide | (simp only [go_sem]; omega)) only [go_sem, ↓reduceIte]
                  repeat (with_reducible refine And.intro (by first | assumption | omega | (simp; done) | (simp; omega)) ?_)
                  rcases iteB_some h with ⟨c30, h⟩ | ⟨c30, h⟩
                  · refine guardK_F c30 ?_
                    try simp -implicitDefEqProofs (maxSteps := 4000000) (disch := first | omega | decide | (simp only [go_sem]; omega)) only [go_sem, ↓reduceIte]
                    repeat (with_reducible refine And.intro (by first | assumption | omega | (simp; done) | (simp; omega)) ?_)
                    refine toEnd hC ?_
                    refine endX_seq ?_
                    refine runX_condT rfl rfl ?_
                    refine runX_seq ?_
                    refine runX_regionC fun C hC => ?_
                    try simp -implicitDefEqProofs (maxSteps := 4000000) (disch := first | omega | decide | (simp only [go_sem]; omega)) only [go_sem, ↓reduceIte]
                    repeat (with_reducible refine And.intro (by first | assumption | omega | (simp; done) | (simp; omega)) ?_)
                    refine toEnd hC ?_
                    refine endX_seq ?_
                    refine runX_ret ?_
                    refine endX_blkR ?_
                    refine endX_seqR ?_
                    refine endX_q (roundQ_ret ?_)
                    refine endX_blkR ?_
                    refine endX_seqR ?_
                    refine endX_q ?_
                    obtain rfl := Option.some.inj h
                    show RetW _ _ _ _ _
                    simp only [RetW]
                    (try simp -implicitDefEqProofs (maxSteps := 4000000) (disch := first | omega | decide | (simp only [go_sem]; omega)) only [go_sem, ↓reduceIte])
                    (try simp (disch := omega) only [if_pos, Nat.sub_zero])
                    exact leT_refl _
                  · refine guardK_T c30 ?_
                    obtain ⟨g31, h⟩ := grd_some h
                    try simp -implicitDefEqProofs (maxSteps := 4000000) (disch := first | omega | decide | (simp only [go_sem]; omega)) only [go_sem, ↓reduceIte]
                    repeat (with_reducible refine And.intro (by first | assumption | omega | (simp; done) | (simp; omega)) ?_)
                    rcases iteB_some h with ⟨c32, h⟩ | ⟨c32, h⟩
                    · refine guardK_F c32 ?_
                      try simp -implicitDefEqProofs (maxSteps := 4000000) (disch := first | omega | decide | (simp only [go_sem]; omega)) only [go_sem, ↓reduceIte]
                      repeat (with_reducible refine And.intro (by first | assumption | omega | (simp; done) | (simp; omega)) ?_)
                      refine toEnd hC ?_
                      refine endX_seq ?_
                      refine runX_condT rfl rfl ?_
                      refine runX_seq ?_
                      refine runX_regionC fun C hC => ?_
                      try simp -implicitDefEqProofs (maxSteps := 4000000) (disch := first | omega | decide | (simp only [go_sem]; omega)) only [go_sem, ↓reduceIte]
                      repeat (with_reducible refine And.intro (by first | assumption | omega | (simp; done) | (simp; omega)) ?_)
                      refine toEnd hC ?_
                      refine endX_seq ?_
                      refine runX_ret ?_
                      refine endX_blkR ?_
                      refine endX_seqR ?_
                      refine endX_q (roundQ_ret ?_)
                      refine endX_blkR ?_
                      refine endX_seqR ?_
                      refine endX_q ?_
                      obtain rfl := Option.some.inj h
                      show RetW _ _ _ _ _
                      simp only [RetW]
                      (try simp -implicitDefEqProofs (maxSteps := 4000000) (disch := first | omega | decide | (simp only [go_sem]; omega)) only [go_sem, ↓reduceIte])
                      (try simp (disch := omega) only [if_pos, Nat.sub_zero])
                      exact leT_refl _
                    · refine guardK_T c32 ?_
                      obtain ⟨g33, h⟩ := grd_some h
                      try simp -implicitDefEqProofs (maxSteps := 4000000) (disch := first | omega | decide | (simp only [go_sem]; omega)) only [go_sem, ↓reduceIte]
                      repeat (with_reducible refine And.intro (by first | assumption | omega | (simp; done) | (simp; omega)) ?_)
                      rcases iteB_some h with ⟨c34, h⟩ | ⟨c34, h⟩
                      · refine guardK_F c34 ?_
                        try simp -implicitDefEqProofs (maxSteps := 4000000) (disch := first | omega | decide | (simp only [go_sem]; omega)) only [go_sem, ↓reduceIte]
                        repeat (with_reducible refine And.intro (by first | assumption | omega | (simp; done) | (simp; omega)) ?_)
                        refine toEnd hC ?_
                        refine endX_seq ?_
                        refine runX_condT rfl rfl ?_
                        refine runX_seq ?_
                        refine runX_regionC fun C hC => ?_
                        try simp -implicitDefEqProofs (maxSteps := 4000000) (disch := first | omega | decide | (simp only [go_sem]; omega)) only [go_sem, ↓reduceIte]
                        repeat (with_reducible refine And.intro (by first | assumption | omega | (simp; done) | (simp; omega)) ?_)
                        refine toEnd hC ?_
                        refine endX_seq ?_
                        refine runX_ret ?_
                        refine endX_blkR ?_
                        refine endX_seqR ?_
                        refine endX_q (roundQ_ret ?_)
                        refine endX_blkR ?_
                        refine endX_seqR ?_
                        refine endX_q ?_
                        obtain rfl := Option.some.inj h
                        show RetW _ _ _ _ _
                        simp only [RetW]
                        (try simp -implicitDefEqProofs (maxSteps := 4000000) (disch := first | omega | decide | (simp only [go_sem]; omega)) only [go_sem, ↓reduceIte])
                        (try simp (disch := omega) only [if_pos, Nat.sub_zero])
                        exact leT_refl _
                      · refine guardK_T c34 ?_
                        obtain ⟨g35, h⟩ := grd_some h
                        try simp -implicitDefEqProofs (maxSteps := 4000000) (disch := first | omega | decide | (simp only [go_sem]; omega)) only [go_sem, ↓reduceIte]
                        repeat (with_reducible refine And.intro (by first | assumption | omega | (simp; done) | (simp; omega)) ?_)
                        rcases iteB_some h with ⟨c36, h⟩ | ⟨c36, h⟩
                        · refine guardK_T c36 ?_
                          obtain ⟨g37, h⟩ := grd_some h
                          try simp -implicitDefEqProofs (maxSteps := 4000000) (disch := first | omega | decide | (simp only [go_sem]; omega)) only [go_sem, ↓reduceIte]
                          repeat (with_reducible refine And.intro (by first | assumption | omega | (simp; done) | (simp; omega)) ?_)
                          rcases iteB_some h with ⟨c38, h⟩ | ⟨c38, h⟩
                          · refine guardK_T c38 ?_
                            obtain ⟨g39, h⟩ := grd_some h
                            try simp -implicitDefEqProofs (maxSteps := 4000000) (disch := first | omega | decide | (simp only [go_sem]; omega)) only [go_sem, ↓reduceIte]
                            repeat (with_reducible refine And.intro (by first | assumption | omega | (simp; done) | (simp; omega)) ?_)
                            refine toEnd hC ?_
                            refine endX_seq ?_
                            rcases iteB_some h with ⟨c40, h⟩ | ⟨c40, h⟩
                            · refine runX_condT rfl c40 ?_
                              refine runX_seq ?_
                              refine runX_regionC fun C hC => ?_
                              try simp -implicitDefEqProofs (maxSteps := 4000000) (disch := first | omega | decide | (simp only [go_sem]; omega)) only [go_sem, ↓reduceIte]
                              repeat (with_reducible refine And.intro (by first | assumption | omega | (simp; done) | (simp; omega)) ?_)
                              refine toEnd hC ?_
                              refine endX_seq ?_
                              refine runX_ret ?_
                              refine endX_blkR ?_
                              refine endX_seqR ?_
                              refine endX_q (roundQ_ret ?_)
                              refine endX_blkR ?_
                              refine endX_seqR ?_
                              refine endX_q ?_
                              obtain rfl := Option.some.inj h
                              show RetW _ _ _ _ _
                              simp only [RetW]
                              (try simp -implicitDefEqProofs (maxSteps := 4000000) (disch := first | omega | decide | (simp only [go_sem]; omega)) only [go_sem, ↓reduceIte])
                              (try simp (disch := omega) only [if_pos, Nat.sub_zero])
                              exact leT_refl _
                            · refine runX_condF rfl c40 ?_
                              refine runX_skip ?_
                              refine endX_blk ?_
                              refine endX_seq ?_
                              refine runX_regionC fun C hC => ?_
                              try simp -implicitDefEqProofs (maxSteps := 4000000) (disch := first | omega | decide | (simp only [go_sem]; omega)) only [go_sem, ↓reduceIte]
                              repeat (with_reducible refine And.intro (by first | assumption | omega | (simp; done) | (simp; omega)) ?_)
                              refine toEnd hC ?_
                              refine endX_q (roundQ_normal ⟨m3, by omega, F3_S3 x3 v4 x6 (IntKind.wrap .i64 (x27 + (1 : Int))), ?_, (IntKind.wrap .i64 (x27 + (1 : Int))), rfl, by omega, h⟩)
                              simp only [F3_S3]
                              (try simp -implicitDefEqProofs (maxSteps := 4000000) (disch := first | omega | decide | (simp only [go_sem]; omega)) only [go_sem, ↓reduceIte])
                              first | exact leS_refl _ | (refine leS_le ?_ ?_ <;> first | exact leL_refl _ | exact leOs_refl _ | (repeat (first | exact leL_refl _ | refine leL_cons (by first | exact leT_refl _ | exact leT_virt | exact leT_junk _ | exact leT_sl | exact leT_sln | exact leT_nil) ?_)))
                          · refine guardK_F c38 ?_
                            try simp -implicitDefEqProofs (maxSteps := 4000000) (disch := first | omega | decide | (simp only [go_sem]; omega)) only [go_sem, ↓reduceIte]
                            repeat (with_reducible refine And.intro (by first | assumption | omega | (simp; done) | (simp; omega)) ?_)
                            refine toEnd hC ?_
                            refine endX_seq ?_
                            refine runX_condF rfl rfl ?_
                            refine runX_skip ?_
                            refine endX_blk ?_
                            refine endX_seq ?_
                            refine runX_regionC fun C hC => ?_
                            try simp -implicitDefEqProofs (maxSteps := 4000000) (disch := first | omega | decide | (simp only [go_sem]; omega)) only [go_sem, ↓reduceIte]
                            repeat (with_reducible refine And.intro (by first | assumption | omega | (simp; done) | (simp; omega)) ?_)
                            refine toEnd hC ?_
                            refine endX_q (roundQ_normal ⟨m3, by omega, F3_S3 x3 v4 x6 (IntKind.wrap .i64 (x27 + (1 : Int))), ?_, (IntKind.wrap .i64 (x27 + (1 : Int))), rfl, by omega, h⟩)
                            simp only [F3_S3]
                            (try simp -implicitDefEqProofs (maxSteps := 4000000) (disch := first | omega | decide | (simp only [go_sem]; omega)) only [go_sem, ↓reduceIte])
                            first | exact leS_refl _ | (refine leS_le ?_ ?_ <;> first | exact leL_refl _ | exact leOs_refl _ | (repeat (first | exact leL_refl _ | refine leL_cons (by first | exact leT_refl _ | exact leT_virt | exact leT_junk _ | exact leT_sl | exact leT_sln | exact leT_nil) ?_)))
                        · refine guardK_F c36 ?_
                          try simp -implicitDefEqProofs (maxSteps := 4000000) (disch := first | omega | decide | (simp only [go_sem]; omega)) only [go_sem, ↓reduceIte]
                          repeat (with_reducible refine And.intro (by first | assumption | omega | (simp; done) | (simp; omega)) ?_)
                          refine toEnd hC ?_
                          refine endX_seq ?_
                          refine runX_condF rfl rfl ?_
                          refine runX_skip ?_
                          refine endX_blk ?_
                          refine endX_seq ?_
                          refine runX_regionC fun C hC => ?_
                          try simp -implicitDefEqProofs (maxSteps := 4000000) (disch := first | omega | decide | (simp only [go_sem]; omega)) only [go_sem, ↓reduceIte]
                          repeat (with_reducible refine And.intro (by first | assumption | omega | (simp; done) | (simp; omega)) ?_)
                          refine toEnd hC ?_
                          refine endX_q (roundQ_normal ⟨m3, by omega, F3_S3 x3 v4 x6 (IntKind.wrap .i64 (x27 + (1 : Int))), ?_, (IntKind.wrap .i64 (x27 + (1 : Int))), rfl, by omega, h⟩)
                          simp only [F3_S3]
                          (try simp -implicitDefEqProofs (maxSteps := 4000000) (disch := first | omega | decide | (simp only [go_sem]; omega)) only [go_sem, ↓reduceIte])
                          first | exact leS_refl _ | (refine leS_le ?_ ?_ <;> first | exact leL_refl _ | exact leOs_refl _ | (repeat (first | exact leL_refl _ | refine leL_cons (by first | exact leT_refl _ | exact leT_virt | exact leT_junk _ | exact leT_sl | exact leT_sln | exact leT_nil) ?_)))
                · refine runX_condF rfl c28 ?_
                  refine runX_exit ?_
                  refine endX_seqE ?_
                  refine endX_q (roundQ_exit ?_)
                  refine endX_blkE ?_
                  refine endX_seq ?_
                  refine runX_seq ?_
                  refine runX_regionC fun C hC => ?_
                  obtain ⟨v41, h41, h⟩ := bnd_some h
                  try simp -implicitDefEqProofs (maxSteps := 4000000) (disch := first | omega | decide | (simp only [go_sem]; omega)) only [go_sem, ↓reduceIte]
                  repeat (with_reducible refine And.intro (by first | assumption | omega | (simp; done) | (simp; omega)) ?_)
                  refine callG_X (by first | rfl | (simp only [go_sem]; done) | (simp only [closedL, closedT, Bool.and_true]; exact closedL_map _ (fun _ => rfl) _)) (F13_ok m3 v4 _ h41) (by repeat (first | exact leL_refl _ | refine leL_cons (by first | exact leT_refl _ | exact leT_virt | exact leT_junk _ | exact leT_sl | exact leT_sln | exact leT_nil) ?_)) ?_
                  try simp -implicitDefEqProofs (maxSteps := 4000000) (disch := first | omega | decide | (simp only [go_sem]; omega)) only [go_sem, ↓reduceIte]
                  repeat (with_reducible refine And.intro (by first | assumption | omega | (simp; done) | (simp; omega)) ?_)
                  rcases iteB_some h with ⟨c42, h⟩ | ⟨c42, h⟩
                  · refine guardK_T c42 ?_
                    try simp -implicitDefEqProofs (maxSteps := 4000000) (disch := first | omega | decide | (simp only [go_sem]; omega)) only [go_sem, ↓reduceIte]
                    repeat (with_reducible refine And.intro (by first | assumption | omega | (simp; done) | (simp; omega)) ?_)
                    rcases iteB_some h with ⟨c43, h⟩ | ⟨c43, h⟩
                    · refine guardK_F c43 ?_
                      obtain ⟨v44, h44, h⟩ := bnd_some h
                      try simp -implicitDefEqProofs (maxSteps := 4000000) (disch := first | omega | decide | (simp only [go_sem]; omega)) only [go_sem, ↓reduceIte]
                      repeat (with_reducible refine And.intro (by first | assumption | omega | (simp; done) | (simp; omega)) ?_)
                      refine callG_X (by first | rfl | (simp only [go_sem]; done) | (simp only [closedL, closedT, Bool.and_true]; exact closedL_map _ (fun _ => rfl) _)) (F12_ok m3 ([38] : List UInt8) _ h44) (by repeat (first | exact leL_refl _ | refine leL_cons (by first | exact leT_refl _ | exact leT_virt | exact leT_junk _ | exact leT_sl | exact leT_sln | exact leT_nil) ?_)) ?_
                      try simp -implicitDefEqProofs (maxSteps := 4000000) (disch := first | omega | decide | (simp only [go_sem]; omega)) only [go_sem, ↓reduceIte]
                      repeat (with_reducible refine And.intro (by first | assumption | omega | (simp; done) | (simp; omega)) ?_)
                      refine toEnd hC ?_
                      refine endX_seq ?_
                      refine runX_ret ?_
                      refine endX_q ?_
                      obtain rfl := Option.some.inj h
                      show RetW _ _ _ _ _
                      simp only [RetW]
                      (try simp -implicitDefEqProofs (maxSteps := 4000000) (disch := first | omega | decide | (simp only [go_sem]; omega)) only [go_sem, ↓reduceIte])
                      (try simp (disch := omega) only [if_pos, Nat.sub_zero])
                      exact leT_refl _
                    · refine guardK_T c43 ?_
                      try simp -implicitDefEqProofs (maxSteps := 4000000) (disch := first | omega | decide | (simp only [go_sem]; omega)) only [go_sem, ↓reduceIte]
                      repeat (with_reducible refine And.intro (by first | assumption | omega | (simp; done) | (simp; omega)) ?_)
                      rcases iteB_some h with ⟨c45, h⟩ | ⟨c45, h⟩
                      · refine guardK_T c45 ?_
                        obtain ⟨v46, h46, h⟩ := bnd_some h
                        try simp -implicitDefEqProofs (maxSteps := 4000000) (disch := first | omega | decide | (simp only [go_sem]; omega)) only [go_sem, ↓reduceIte]
                        repeat (with_reducible refine And.intro (by first | assumption | omega | (simp; done) | (simp; omega)) ?_)
                        refine callG_X (by first | rfl | (simp only [go_sem]; done) | (simp only [closedL, closedT, Bool.and_true]; exact closedL_map _ (fun _ => rfl) _)) (F12_ok m3 ([38] : List UInt8) _ h46) (by repeat (first | exact leL_refl _ | refine leL_cons (by first | exact leT_refl _ | exact leT_virt | exact leT_junk _ | exact leT_sl | exact leT_sln | exact leT_nil) ?_)) ?_
                        try simp -implicitDefEqProofs (maxSteps := 4000000) (disch := first | omega | decide | (simp only [go_sem]; omega)) only [go_sem, ↓reduceIte]
                        repeat (with_reducible refine And.intro (by first | assumption | omega | (simp; done) | (simp; omega)) ?_)
                        refine toEnd hC ?_
                        refine endX_seq ?_
                        refine runX_ret ?_
                        refine endX_q ?_
                        obtain rfl := Option.some.inj h
                        show RetW _ _ _ _ _
                        simp only [RetW]
                        (try simp -implicitDefEqProofs (maxSteps := 4000000) (disch := first | omega | decide | (simp only [go_sem]; omega)) only [go_sem, ↓reduceIte])
                        (try simp (disch := omega) only [if_pos, Nat.sub_zero])
                        exact leT_refl _
                      · refine guardK_F c45 ?_
                        try simp -implicitDefEqProofs (maxSteps := 4000000) (disch := first | omega | decide | (simp only [go_sem]; omega)) only [go_sem, ↓reduceIte]
                        repeat (with_reducible refine And.intro (by first | assumption | omega | (simp; done) | (simp; omega)) ?_)
                        refine toEnd hC ?_
                        refine endX_seq ?_
                        refine runX_ret ?_
                        refine endX_q ?_
                        obtain rfl := Option.some.inj h
                        show RetW _ _ _ _ _
                        simp only [RetW]
                        (try simp -implicitDefEqProofs (maxSteps := 4000000) (disch := first | omega | decide | (simp only [go_sem]; omega)) only [go_sem, ↓reduceIte])
                        (try simp (disch := omega) only [if_pos, Nat.sub_zero])
                        exact leT_refl _
                  · refine guardK_F c42 ?_
                    try simp -implicitDefEqProofs (maxSteps := 4000000) (disch := first | omega | decide | (simp only [go_sem]; omega)) only [go_sem, ↓reduceIte]
                    repeat (with_reducible refine And.intro (by first | assumption | omega | (simp; done) | (simp; omega)) ?_)
                    refine toEnd hC ?_
                    refine endX_seq ?_
                    refine runX_ret ?_
                    refine endX_q ?_
                    obtain rfl := Option.some.inj h
                    show RetW _ _ _ _ _
                    simp only [RetW]
                    (try simp -implicitDefEqProofs (maxSteps := 4000000) (disch := first | omega | decide | (simp only [go_sem]; omega)) only [go_sem, ↓reduceIte])
                    (try simp (disch := omega) only [if_pos, Nat.sub_zero])
                    exact leT_refl _
end Go.Proofs.YtbamlphgolldlaaX

/- Shapes of arguments, as plain values. Of no program. -/
set_option linter.unusedVariables false
namespace Go.Proofs.YtbamlphgolldlaaX
open Go Go.RowKit
theorem RepR.le {E : Env} {sz : Nat} : ∀ {l l' : List T} {c : List Value}, l.length = l'.length → (∀ i, leT anyE (l.getD i .junk) (l'.getD i .junk)) → RepR E sz l c → RepR E sz l' c
  | [], [], c, _, _, h => h
  | x :: l, y :: l', c, hl, hi, h => by
    simp only [RepR] at h ⊢
    obtain ⟨u, c', h1, h2, h3, h4⟩ := h
    exact ⟨u, c', h1, h2, by simpa using hi 0 E true u trivial (by simpa using h3), RepR.le (by simpa using hl) (fun i => by simpa using hi (i + 1)) h4⟩
  | [], _ :: _, c, hl, _, _ => by simp at hl
  | _ :: _, [], c, hl, _, _ => by simp at hl
theorem leT_slE {sz : Nat} {f : Bool} {l l' : List T} (hl : l.length = l'.length) (h : ∀ i, leT anyE (l.getD i .junk) (l'.getD i .junk)) : leT anyE (.sl sz f l) (.sl sz false l') := fun E cl v hp k => by
  simp only [Rep] at k ⊢
  obtain ⟨a, cap, c, h1, h2, h3, h4, h5⟩ := k
  exact ⟨a, cap, c, by rw [h1, hl], by rw [← hl]; exact h2, (fun h => by cases h), RepR.le hl h h4, h5⟩
theorem elems_shape {α : Type} (enc : α → T) (ok : α → Prop) : ∀ (l : List T), (∀ y ∈ l, ∃ v, leT anyE y (enc v) ∧ ok v) → ∃ vs : List α, vs.length = l.length ∧ (∀ i, leT anyE (l.getD i .junk) ((vs.map enc).getD i .junk)) ∧ ∀ v ∈ vs, ok v
  | [], _ => ⟨[], rfl, fun i => by simp [leT_refl], fun v hv => by simp at hv⟩
  | y :: l, h => by
    obtain ⟨v, h1, h2⟩ := h y (by simp)
    obtain ⟨vs, h3, h4, h5⟩ := elems_shape enc ok l fun z hz => h z (by simp [hz])
    refine ⟨v :: vs, by simp [h3], fun i => ?_, fun w hw => ?_⟩
    · cases i with
      | zero => simpa using h1
      | succ i => simpa using h4 i
    · rcases List.mem_cons.1 hw with rfl | hw
      · exact h2
      · exact h5 w hw
theorem sl_shape {α : Type} (enc : α → T) (ok : α → Prop) (l : List T) (h : ∀ y ∈ l, ∃ v, leT anyE y (enc v) ∧ ok v) {sz : Nat} {f : Bool} : ∃ vs : List α, leT anyE (.sl sz f l) (.sl sz false (vs.map enc)) ∧ vs.length = l.length ∧ ∀ v ∈ vs, ok v := by
  obtain ⟨vs, h1, h2, h3⟩ := elems_shape enc ok l h
  exact ⟨vs, leT_slE (by simp [h1]) h2, h1, h3⟩
theorem arr_shape {α : Type} (enc : α → T) (ok : α → Prop) : ∀ (l : List T), (∀ y ∈ l, ∃ v, y = enc v ∧ T.cells y = [y] ∧ ok v) → ∃ vs : List α, l.flatMap T.cells = vs.map enc ∧ vs.length = l.length ∧ ∀ v ∈ vs, ok v
  | [], _ => ⟨[], rfl, rfl, fun v hv => by simp at hv⟩
  | y :: l, h => by
    obtain ⟨v, rfl, hc, h2⟩ := h y (by simp)
    obtain ⟨vs, h3, h4, h5⟩ := arr_shape enc ok l fun z hz => h z (by simp [hz])
    refine ⟨v :: vs, by rw [List.flatMap_cons, hc, h3]; rfl, by simp [h4], fun w hw => ?_⟩
    rcases List.mem_cons.1 hw with rfl | hw
    · exact h2
    · exact h5 w hw
end Go.Proofs.YtbamlphgolldlaaX

set_option linter.unusedVariables false
set_option linter.unusedSimpArgs false
namespace Go.Proofs.YtbamlphgolldlaaX
open Go Go.RowKit Go.Proofs
set_option maxRecDepth 100000
def okT9 (v : List UInt8) : Prop := v.length ≤ 9223372036854775807
theorem shp9 : ∀ (n : Nat) (x : T), ShapeW Try.prog n 9 x → ∃ v : List UInt8, x = .imm (.string (bs v)) ∧ okT9 v
  | 0, x, h => h.elim
  | n + 1, x, h => by
    simp only [ShapeW, Try.underlying9] at h
    obtain ⟨s, rfl, hs⟩ := h
    exact ⟨s.data.toList, by rw [← of_bs], hs⟩
theorem shapedXmloutPlain (main : ∀ (v0 : List UInt8), okT9 v0 → ∃ n, F3 n v0 = some true) (xs : List T) (h : ShapesW Try.prog [9] xs) : FnC Try.prog 3 xs (tb true) := by
  obtain ⟨x0, xs0, rfl, ⟨n0, h0⟩, rfl⟩ := h
  obtain ⟨v0, rfl, k0⟩ := shp9 _ _ h0
  obtain ⟨N, hN⟩ := main v0 k0
  exact (F3_ok N v0 true hN).le (leL_cons (leT_refl _) (leL_nil)) (leT_refl _)

end Go.Proofs.YtbamlphgolldlaaX

/- Plain functions with fuel: what they come to. Of no program. -/
set_option linter.unusedVariables false
set_option linter.unusedSimpArgs false
namespace Go.Proofs.YtbamlphgolldlaaX
open Go

/-- With fuel enough the answer is this. -/
def Ev {α : Type} (f : Nat → Option α) (r : α) : Prop := ∃ N, ∀ n, N ≤ n → f n = some r
theorem Ev.pure {α : Type} {r : α} : Ev (fun _ => some r) r := ⟨0, fun _ _ => rfl⟩
theorem Ev.const {α : Type} {x : Option α} {r : α} (h : x = some r) : Ev (fun _ => x) r := ⟨0, fun _ _ => h⟩
theorem Ev.bind {α β : Type} {f : Nat → Option α} {g : Nat → α → Option β} {v : α} {r : β} (h : Ev f v) (h' : Ev (fun n => g n v) r) : Ev (fun n => (f n).bind (g n)) r := by
  obtain ⟨N, h⟩ := h
  obtain ⟨M, h'⟩ := h'
  exact ⟨max N M, fun n hn => by show (f n).bind (g n) = _; rw [h n (by omega)]; exact h' n (by omega)⟩
theorem Ev.step {α : Type} {f : Nat → Option α} {r : α} (h : Ev (fun n => f (n + 1)) r) : Ev f r := by
  obtain ⟨N, h⟩ := h
  refine ⟨N + 1, fun n hn => ?_⟩
  obtain ⟨m, rfl⟩ : ∃ m, n = m + 1 := ⟨n - 1, by omega⟩
  exact h m (by omega)
theorem Ev.congr {α : Type} {f g : Nat → Option α} {r : α} (h : Ev g r) (e : ∀ n, f n = g n) : Ev f r := by
  obtain ⟨N, h⟩ := h
  exact ⟨N, fun n hn => (e n).trans (h n hn)⟩
theorem Ev.grd {α : Type} {p : Prop} [Decidable p] {f : Nat → Option α} {r : α} (hp : p) (h : Ev f r) : Ev (fun n => grd p (f n)) r := h.congr fun n => if_pos hp
theorem Ev.ofT {α : Type} {b : Bool} {f g : Nat → Option α} {r : α} (hb : b = true) (h : Ev f r) : Ev (fun n => iteB b (f n) (g n)) r := h.congr fun n => by rw [hb]; rfl
theorem Ev.ofF {α : Type} {b : Bool} {f g : Nat → Option α} {r : α} (hb : b = false) (h : Ev g r) : Ev (fun n => iteB b (f n) (g n)) r := h.congr fun n => by rw [hb]; rfl
theorem Ev.ite {α : Type} {b : Bool} {f g : Nat → Option α} {r : α} (h1 : b = true → Ev f r) (h2 : b = false → Ev g r) : Ev (fun n => iteB b (f n) (g n)) r := by
  cases hb : b with
  | true => exact (h1 hb).congr fun n => rfl
  | false => exact (h2 hb).congr fun n => rfl
theorem iteB_t {α : Type} (x y : Option α) : iteB true x y = x := rfl
theorem iteB_f {α : Type} (x y : Option α) : iteB false x y = y := rfl
theorem grd_t {α : Type} {p : Prop} [Decidable p] (x : Option α) (h : p) : grd p x = x := if_pos h
theorem grd_True {α : Type} [Decidable True] (x : Option α) : grd True x = x := if_pos trivial
theorem bind_some' {α β : Type} (v : α) (g : α → Option β) : (some v).bind g = g v := rfl
theorem w64 {n : Int} (h : -9223372036854775808 ≤ n ∧ n ≤ 9223372036854775807) : IntKind.wrap .i64 n = n := Go.IntWalk.i64_in _ h
theorem w32 {n : Int} (h : -2147483648 ≤ n ∧ n ≤ 2147483647) : IntKind.wrap .i32 n = n := Go.IntWalk.i32_in _ h
theorem wu8 {n : Int} (h : 0 ≤ n ∧ n ≤ 255) : IntKind.wrap .u8 n = n := Go.IntWalk.u8_in _ h
theorem wu32 {n : Int} (h : 0 ≤ n ∧ n ≤ 4294967295) : IntKind.wrap .u32 n = n := Go.IntWalk.u32_in _ h
theorem wu64 {n : Int} (h : 0 ≤ n ∧ n ≤ 18446744073709551615) : IntKind.wrap .u64 n = n := Go.IntWalk.u64_in _ h
/-- Bytes as numbers. -/
theorem u8_beq (a b : UInt8) : ((a.toNat : Int) == (b.toNat : Int)) = (a == b) := by
  rw [Bool.eq_iff_iff, beq_iff_eq, beq_iff_eq]
  exact ⟨fun h => UInt8.toNat_inj.1 (by omega), fun h => by rw [h]⟩
theorem u8_lit (a : UInt8) (k : Nat) (hk : k < 256) : ((a.toNat : Int) == ((k : Nat) : Int)) = (a == UInt8.ofNat k) := by
  rw [Bool.eq_iff_iff, beq_iff_eq, beq_iff_eq]
  constructor
  · intro h
    apply UInt8.toNat_inj.1
    rw [UInt8.toNat_ofNat']
    omega
  · intro h
    subst h
    rw [UInt8.toNat_ofNat']
    omega
theorem u8_lt (a : UInt8) : (0 : Int) ≤ (a.toNat : Int) ∧ (a.toNat : Int) ≤ 255 := by
  have := a.toNat_lt; omega
theorem drop_cons {α : Type} (l : List α) (i : Nat) (d : α) (h : i < l.length) : l.drop i = l.getD i d :: l.drop (i + 1) := by
  rw [List.drop_eq_getElem_cons h, List.getD_eq_getElem?_getD, List.getElem?_eq_getElem h]; rfl
theorem toNat_nat (n : Nat) : ((n : Int)).toNat = n := rfl
end Go.Proofs.YtbamlphgolldlaaX

/- Characters: plain words and laws (what is put is next). -/
set_option linter.unusedVariables false
set_option linter.unusedSimpArgs false
namespace Go.Proofs.YtbamlphgolldlaaX
open Go

def Bytes (l : List Int) : Prop := ∀ x ∈ l, 0 ≤ x ∧ x ≤ 255
theorem Bytes.nil : Bytes [] := by intro x hx; cases hx
theorem Bytes.cons {a : Int} {r : List Int} (h : 0 ≤ a ∧ a ≤ 255) (hr : Bytes r) : Bytes (a :: r) := by
  intro x hx
  rcases List.mem_cons.1 hx with rfl | hx
  · exact h
  · exact hr x hx
theorem Bytes.head {a : Int} {r : List Int} (h : Bytes (a :: r)) : 0 ≤ a ∧ a ≤ 255 := h a (by simp)
theorem Bytes.tail {a : Int} {r : List Int} (h : Bytes (a :: r)) : Bytes r := fun x hx => h x (by simp [hx])
theorem Bytes.drop {l : List Int} (h : Bytes l) (n : Nat) : Bytes (l.drop n) := fun x hx => h x (List.mem_of_mem_drop hx)
theorem Bytes.append {l r : List Int} (h : Bytes l) (h' : Bytes r) : Bytes (l ++ r) := fun x hx => by
  rcases List.mem_append.1 hx with hx | hx
  · exact h x hx
  · exact h' x hx
def utfSize (c : Int) : Int := if c < 128 then 1 else if c < 2048 then 2 else if c < 65536 then 3 else 4
def rightU (c : Int) : Prop := 0 ≤ c ∧ c ≤ 1114111 ∧ (c < 55296 ∨ 57343 < c)
instance (c : Int) : Decidable (rightU c) := by unfold rightU; exact inferInstance
/-- A character's bytes. -/
def putU (c : Int) : List Int :=
  if ¬ rightU c then [] else if c < 128 then [c] else if c < 2048 then [192 + c / 64, 128 + c % 64]
  else if c < 65536 then [224 + c / 4096, 128 + c / 64 % 64, 128 + c % 64]
  else [240 + c / 262144, 128 + c / 4096 % 64, 128 + c / 64 % 64, 128 + c % 64]
def lenU (a : Int) : Nat := if a < 128 then 1 else if a < 192 then 0 else if a < 224 then 2 else if a < 240 then 3 else if a < 248 then 4 else 0
def leadU (n : Nat) : Int := if n = 1 then 0 else if n = 2 then 192 else if n = 3 then 224 else 240
def finU (n : Nat) (c : Int) : Int × Int := if rightU c ∧ utfSize c = (n : Int) then (c, (n : Int)) else (0, 0)
def contU (n : Nat) : Int → List Int → Nat → Int × Int
  | c, _, 0 => finU n c
  | c, b :: r, m + 1 => if 128 ≤ b ∧ b ≤ 191 then contU n (c * 64 + b % 64) r m else (0, 0)
  | _, [], _ + 1 => (0, 0)
/-- The character that bytes begin with, and how many bytes it has. -/
def nextU : List Int → Int × Int
  | [] => (0, 0)
  | a :: r => if lenU a = 0 ∨ lenU a > (a :: r).length then (0, 0) else contU (lenU a) (a - leadU (lenU a)) r (lenU a - 1)

theorem putU_1 {c : Int} (h : rightU c) (h1 : c < 128) : putU c = [c] := by unfold putU; rw [if_neg (fun e => e h), if_pos h1]
theorem putU_2 {c : Int} (h : rightU c) (h0 : 128 ≤ c) (h1 : c < 2048) : putU c = [192 + c / 64, 128 + c % 64] := by unfold putU; rw [if_neg (fun e => e h), if_neg (by omega), if_pos h1]
theorem putU_3 {c : Int} (h : rightU c) (h0 : 2048 ≤ c) (h1 : c < 65536) : putU c = [224 + c / 4096, 128 + c / 64 % 64, 128 + c % 64] := by unfold putU; rw [if_neg (fun e => e h), if_neg (by omega), if_neg (by omega), if_pos h1]
theorem putU_4 {c : Int} (h : rightU c) (h0 : 65536 ≤ c) : putU c = [240 + c / 262144, 128 + c / 4096 % 64, 128 + c / 64 % 64, 128 + c % 64] := by unfold putU; rw [if_neg (fun e => e h), if_neg (by omega), if_neg (by omega), if_neg (by omega)]
theorem putU_no {c : Int} (h : ¬ rightU c) : putU c = [] := by unfold putU; rw [if_pos h]
theorem size_1 {c : Int} (h : c < 128) : utfSize c = 1 := by unfold utfSize; rw [if_pos h]
theorem size_2 {c : Int} (h0 : 128 ≤ c) (h : c < 2048) : utfSize c = 2 := by unfold utfSize; rw [if_neg (by omega), if_pos h]
theorem size_3 {c : Int} (h0 : 2048 ≤ c) (h : c < 65536) : utfSize c = 3 := by unfold utfSize; rw [if_neg (by omega), if_neg (by omega), if_pos h]
theorem size_4 {c : Int} (h0 : 65536 ≤ c) : utfSize c = 4 := by unfold utfSize; rw [if_neg (by omega), if_neg (by omega), if_neg (by omega)]
theorem len_1 {a : Int} (h : a < 128) : lenU a = 1 := by unfold lenU; rw [if_pos h]
theorem len_2 {a : Int} (h0 : 192 ≤ a) (h : a < 224) : lenU a = 2 := by unfold lenU; rw [if_neg (by omega), if_neg (by omega), if_pos h]
theorem len_3 {a : Int} (h0 : 224 ≤ a) (h : a < 240) : lenU a = 3 := by unfold lenU; rw [if_neg (by omega), if_neg (by omega), if_neg (by omega), if_pos h]
theorem len_4 {a : Int} (h0 : 240 ≤ a) (h : a < 248) : lenU a = 4 := by unfold lenU; rw [if_neg (by omega), if_neg (by omega), if_neg (by omega), if_neg (by omega), if_pos h]
theorem len_0 {a : Int} (h : (128 ≤ a ∧ a < 192) ∨ 248 ≤ a) : lenU a = 0 := by
  unfold lenU
  rcases h with h | h
  · rw [if_neg (by omega), if_pos (by omega)]
  · rw [if_neg (by omega), if_neg (by omega), if_neg (by omega), if_neg (by omega), if_neg (by omega)]
theorem contU_step {n m : Nat} {c b : Int} {r : List Int} (h : 128 ≤ b ∧ b ≤ 191) : contU n c (b :: r) (m + 1) = contU n (c * 64 + b % 64) r m := by rw [contU, if_pos h]
theorem contU_no {n m : Nat} {c b : Int} {r : List Int} (h : ¬ (128 ≤ b ∧ b ≤ 191)) : contU n c (b :: r) (m + 1) = (0, 0) := by rw [contU, if_neg h]
theorem contU_fin {n : Nat} {c : Int} {r : List Int} : contU n c r 0 = finU n c := by cases r <;> rw [contU]

/-- What is put is next, whatever stands behind it. -/
theorem next_put {c : Int} (h : rightU c) (rest : List Int) : nextU (putU c ++ rest) = (c, ((putU c).length : Int)) := by
  obtain ⟨h0, h1, h2⟩ := id h
  rcases (show c < 128 ∨ (128 ≤ c ∧ c < 2048) ∨ (2048 ≤ c ∧ c < 65536) ∨ 65536 ≤ c by omega) with a | ⟨a, b⟩ | ⟨a, b⟩ | a
  · rw [putU_1 h a]
    show nextU (c :: rest) = (c, 1)
    rw [nextU, len_1 a, if_neg (by simp), contU_fin, finU]
    rw [show c - leadU 1 = c by unfold leadU; rw [if_pos rfl]; omega, if_pos ⟨h, size_1 a⟩]
    rfl
  · rw [putU_2 h a b]
    show nextU ((192 + c / 64) :: (128 + c % 64) :: rest) = (c, 2)
    rw [nextU, len_2 (by omega) (by omega), if_neg (by simp)]
    rw [contU_step (by omega), contU_fin, finU, show (192 + c / 64 - leadU 2) * 64 + (128 + c % 64) % 64 = c by unfold leadU; rw [if_neg (by omega), if_pos rfl]; omega, if_pos ⟨h, size_2 a b⟩]
    rfl
  · rw [putU_3 h a b]
    show nextU ((224 + c / 4096) :: (128 + c / 64 % 64) :: (128 + c % 64) :: rest) = (c, 3)
    rw [nextU, len_3 (by omega) (by omega), if_neg (by simp)]
    rw [contU_step (by omega), contU_step (by omega), contU_fin, finU, show ((224 + c / 4096 - leadU 3) * 64 + (128 + c / 64 % 64) % 64) * 64 + (128 + c % 64) % 64 = c by unfold leadU; rw [if_neg (by omega), if_neg (by omega), if_pos rfl]; omega, if_pos ⟨h, size_3 a b⟩]
    rfl
  · rw [putU_4 h a]
    show nextU ((240 + c / 262144) :: (128 + c / 4096 % 64) :: (128 + c / 64 % 64) :: (128 + c % 64) :: rest) = (c, 4)
    rw [nextU, len_4 (by omega) (by omega), if_neg (by simp)]
    rw [contU_step (by omega), contU_step (by omega), contU_step (by omega), contU_fin, finU, show (((240 + c / 262144 - leadU 4) * 64 + (128 + c / 4096 % 64) % 64) * 64 + (128 + c / 64 % 64) % 64) * 64 + (128 + c % 64) % 64 = c by unfold leadU; rw [if_neg (by omega), if_neg (by omega), if_neg (by omega)]; omega, if_pos ⟨h, size_4 a⟩]
    rfl
theorem finU_some {n : Nat} {c x k : Int} (h : finU n c = (x, k)) (hk : k ≠ 0) : x = c ∧ k = n ∧ rightU c ∧ utfSize c = n := by
  unfold finU at h
  by_cases h1 : rightU c ∧ utfSize c = (n : Int)
  · rw [if_pos h1] at h
    simp only [Prod.mk.injEq] at h
    exact ⟨h.1.symm, h.2.symm, h1.1, h1.2⟩
  · rw [if_neg h1] at h
    simp only [Prod.mk.injEq] at h
    exact absurd h.2.symm hk
/-- What is next has been put. -/
theorem put_next : ∀ (l : List Int) (c k : Int), Bytes l → nextU l = (c, k) → k ≠ 0 → rightU c ∧ k = ((putU c).length : Int) ∧ ∃ rest, l = putU c ++ rest
  | [], c, k, hb, h, hk => by rw [nextU] at h; simp only [Prod.mk.injEq] at h; exact absurd h.2.symm hk
  | a :: r, c, k, hb, h, hk => by
    have ha := hb.head
    rw [nextU] at h
    by_cases h0 : lenU a = 0 ∨ lenU a > (a :: r).length
    · rw [if_pos h0] at h; simp only [Prod.mk.injEq] at h; exact absurd h.2.symm hk
    rw [if_neg h0] at h
    have z : ∀ (P : Prop), ((0 : Int), (0 : Int)) = (c, k) → P := fun P e => by simp only [Prod.mk.injEq] at e; exact absurd e.2.symm hk
    rcases (show a < 128 ∨ (192 ≤ a ∧ a < 224) ∨ (224 ≤ a ∧ a < 240) ∨ (240 ≤ a ∧ a < 248) ∨ ((128 ≤ a ∧ a < 192) ∨ 248 ≤ a) by omega) with e | ⟨e1, e2⟩ | ⟨e1, e2⟩ | ⟨e1, e2⟩ | e
    · rw [len_1 e, contU_fin] at h
      obtain ⟨rfl, rfl, hr, hs⟩ := finU_some h hk
      have el : a - leadU 1 = a := by unfold leadU; rw [if_pos rfl]; omega
      rw [el] at hr ⊢
      exact ⟨hr, by rw [putU_1 hr e]; rfl, r, by rw [putU_1 hr e]; rfl⟩
    · rw [len_2 e1 e2] at h h0
      match r, h, h0, hb with
      | [], h, h0, hb => exact absurd (show (2 : Nat) > 1 by omega) (fun q => h0 (.inr q))
      | b :: r, h, h0, hb =>
        have hbb := hb.tail.head
        by_cases hc : 128 ≤ b ∧ b ≤ 191
        · rw [contU_step hc, contU_fin] at h
          obtain ⟨rfl, rfl, hr, hs⟩ := finU_some h hk
          have el : (a - leadU 2) * 64 + b % 64 = (a - 192) * 64 + (b - 128) := by unfold leadU; rw [if_neg (by omega), if_pos rfl]; omega
          rw [el] at hr hs ⊢
          have hlo : 128 ≤ (a - 192) * 64 + (b - 128) := by
            rcases Int.lt_or_le ((a - 192) * 64 + (b - 128)) 128 with q | q
            · rw [size_1 q] at hs; omega
            · exact q
          have hp := putU_2 hr hlo (by omega)
          rw [hp]
          exact ⟨hr, rfl, r, by show _ = _ :: _ :: r; congr 1; omega; congr 1; omega⟩
        · rw [contU_no hc] at h; exact z _ h
    · rw [len_3 e1 e2] at h h0
      match r, h, h0, hb with
      | [], h, h0, hb => exact absurd (show (3 : Nat) > 1 by omega) (fun q => h0 (.inr q))
      | [b], h, h0, hb => exact absurd (show (3 : Nat) > 2 by omega) (fun q => h0 (.inr q))
      | b :: d :: r, h, h0, hb =>
        have hbb := hb.tail.head
        have hdd := hb.tail.tail.head
        by_cases hc : 128 ≤ b ∧ b ≤ 191
        · rw [contU_step hc] at h
          by_cases hd : 128 ≤ d ∧ d ≤ 191
          · rw [contU_step hd, contU_fin] at h
            obtain ⟨rfl, rfl, hr, hs⟩ := finU_some h hk
            have el : ((a - leadU 3) * 64 + b % 64) * 64 + d % 64 = (a - 224) * 4096 + (b - 128) * 64 + (d - 128) := by unfold leadU; rw [if_neg (by omega), if_neg (by omega), if_pos rfl]; omega
            rw [el] at hr hs ⊢
            have hlo : 2048 ≤ (a - 224) * 4096 + (b - 128) * 64 + (d - 128) := by
              rcases Int.lt_or_le ((a - 224) * 4096 + (b - 128) * 64 + (d - 128)) 2048 with q | q
              · rcases Int.lt_or_le ((a - 224) * 4096 + (b - 128) * 64 + (d - 128)) 128 with q1 | q1
                · rw [size_1 q1] at hs; omega
                · rw [size_2 q1 q] at hs; omega
              · exact q
            have hp := putU_3 hr hlo (by omega)
            rw [hp]
            exact ⟨hr, rfl, r, by show _ = _ :: _ :: _ :: r; congr 1; omega; congr 1; omega; congr 1; omega⟩
          · rw [contU_no hd] at h; exact z _ h
        · rw [contU_no hc] at h; exact z _ h
    · rw [len_4 e1 e2] at h h0
      match r, h, h0, hb with
      | [], h, h0, hb => exact absurd (show (4 : Nat) > 1 by omega) (fun q => h0 (.inr q))
      | [b], h, h0, hb => exact absurd (show (4 : Nat) > 2 by omega) (fun q => h0 (.inr q))
      | [b, d], h, h0, hb => exact absurd (show (4 : Nat) > 3 by omega) (fun q => h0 (.inr q))
      | b :: d :: f :: r, h, h0, hb =>
        have hbb := hb.tail.head
        have hdd := hb.tail.tail.head
        have hff := hb.tail.tail.tail.head
        by_cases hc : 128 ≤ b ∧ b ≤ 191
        · rw [contU_step hc] at h
          by_cases hd : 128 ≤ d ∧ d ≤ 191
          · rw [contU_step hd] at h
            by_cases hf : 128 ≤ f ∧ f ≤ 191
            · rw [contU_step hf, contU_fin] at h
              obtain ⟨rfl, rfl, hr, hs⟩ := finU_some h hk
              have el : (((a - leadU 4) * 64 + b % 64) * 64 + d % 64) * 64 + f % 64 = (a - 240) * 262144 + (b - 128) * 4096 + (d - 128) * 64 + (f - 128) := by unfold leadU; rw [if_neg (by omega), if_neg (by omega), if_neg (by omega)]; omega
              rw [el] at hr hs ⊢
              generalize hv : (a - 240) * 262144 + (b - 128) * 4096 + (d - 128) * 64 + (f - 128) = v at hr hs ⊢
              have hlo : 65536 ≤ v := by
                rcases Int.lt_or_le v 65536 with q | q
                · rcases Int.lt_or_le v 2048 with q2 | q2
                  · rcases Int.lt_or_le v 128 with q1 | q1
                    · rw [size_1 q1] at hs; omega
                    · rw [size_2 q1 q2] at hs; omega
                  · rw [size_3 q2 q] at hs; omega
                · exact q
              have hp := putU_4 hr hlo
              rw [hp]
              exact ⟨hr, rfl, r, by show _ = _ :: _ :: _ :: _ :: r; congr 1; omega; congr 1; omega; congr 1; omega; congr 1; omega⟩
            · rw [contU_no hf] at h; exact z _ h
          · rw [contU_no hd] at h; exact z _ h
        · rw [contU_no hc] at h; exact z _ h
    · exact absurd (len_0 e) (fun q => h0 (.inl q))
theorem putU_bytes (c : Int) : Bytes (putU c) := by
  by_cases h : rightU c
  · obtain ⟨h0, h1, h2⟩ := id h
    rcases (show c < 128 ∨ (128 ≤ c ∧ c < 2048) ∨ (2048 ≤ c ∧ c < 65536) ∨ 65536 ≤ c by omega) with a | ⟨a, b⟩ | ⟨a, b⟩ | a
    · rw [putU_1 h a]; exact Bytes.cons (by omega) Bytes.nil
    · rw [putU_2 h a b]; exact Bytes.cons (by omega) (Bytes.cons (by omega) Bytes.nil)
    · rw [putU_3 h a b]; exact Bytes.cons (by omega) (Bytes.cons (by omega) (Bytes.cons (by omega) Bytes.nil))
    · rw [putU_4 h a]; exact Bytes.cons (by omega) (Bytes.cons (by omega) (Bytes.cons (by omega) (Bytes.cons (by omega) Bytes.nil)))
  · rw [putU_no h]; exact Bytes.nil
theorem putU_len {c : Int} (h : rightU c) : ((putU c).length : Int) = utfSize c := by
  obtain ⟨h0, h1, h2⟩ := id h
  rcases (show c < 128 ∨ (128 ≤ c ∧ c < 2048) ∨ (2048 ≤ c ∧ c < 65536) ∨ 65536 ≤ c by omega) with a | ⟨a, b⟩ | ⟨a, b⟩ | a
  · rw [putU_1 h a, size_1 a]; rfl
  · rw [putU_2 h a b, size_2 a b]; rfl
  · rw [putU_3 h a b, size_3 a b]; rfl
  · rw [putU_4 h a, size_4 a]; rfl
theorem putU_bd (c : Int) : (putU c).length ≤ 4 := by
  by_cases h : rightU c
  · have := putU_len h
    unfold utfSize at this
    split at this
    · omega
    · split at this
      · omega
      · split at this <;> omega
  · rw [putU_no h]; simp
theorem next_zero (l : List Int) (h : (nextU l).2 = 0) : nextU l = (0, 0) := by
  have key : ∀ (n : Nat) (m : Nat) (c : Int) (r : List Int), n ≠ 0 → (contU n c r m).2 = 0 → contU n c r m = (0, 0) := by
    intro n m
    induction m with
    | zero =>
      intro c r hn h
      rw [contU_fin] at h ⊢
      unfold finU at h ⊢
      by_cases hc : rightU c ∧ utfSize c = (n : Int)
      · rw [if_pos hc] at h; simp only at h; omega
      · rw [if_neg hc]
    | succ m ih =>
      intro c r hn h
      cases r with
      | nil => rw [contU]
      | cons b r =>
        by_cases hb : 128 ≤ b ∧ b ≤ 191
        · rw [contU_step hb] at h ⊢; exact ih _ _ hn h
        · rw [contU_no hb]
  cases l with
  | nil => rw [nextU]
  | cons a r =>
    rw [nextU] at h ⊢
    by_cases h0 : lenU a = 0 ∨ lenU a > (a :: r).length
    · rw [if_pos h0]
    · rw [if_neg h0] at h ⊢
      exact key _ _ _ _ (fun e => h0 (.inl e)) h
theorem put_next' (l : List Int) (hb : Bytes l) (h : (nextU l).2 ≠ 0) : rightU (nextU l).1 ∧ (nextU l).2 = ((putU (nextU l).1).length : Int) ∧ ∃ rest, l = putU (nextU l).1 ++ rest := put_next l (nextU l).1 (nextU l).2 hb rfl h
def leadR (a : Int) : Int := if a ≥ 240 then 240 else if a ≥ 224 then 224 else if a ≥ 192 then 192 else 0
/-- A text's characters, U+FFFD for each byte that begins none. -/
def charsU (l : List Int) : List Int := match l with
  | [] => []
  | a :: r => if (nextU (a :: r)).2 = 0 then 65533 :: charsU r else (nextU (a :: r)).1 :: charsU (r.drop ((nextU (a :: r)).2.toNat - 1))
  termination_by l.length
  decreasing_by all_goals (simp only [List.length_cons, List.length_drop]; omega)
/-- Is each of its bytes a part of a character? -/
def wellU (l : List Int) : Prop := match l with
  | [] => True
  | a :: r => (nextU (a :: r)).2 ≠ 0 ∧ wellU (r.drop ((nextU (a :: r)).2.toNat - 1))
  termination_by l.length
  decreasing_by all_goals (simp only [List.length_cons, List.length_drop]; omega)
def flatU (cs : List Int) : List Int := cs.flatMap putU
theorem chars_nil : charsU [] = [] := by rw [charsU]
theorem chars_bad {a : Int} {r : List Int} (h : (nextU (a :: r)).2 = 0) : charsU (a :: r) = 65533 :: charsU r := by rw [charsU, if_pos h]
theorem chars_good {a : Int} {r : List Int} (h : (nextU (a :: r)).2 ≠ 0) : charsU (a :: r) = (nextU (a :: r)).1 :: charsU (r.drop ((nextU (a :: r)).2.toNat - 1)) := by rw [charsU, if_neg h]
theorem well_nil : wellU [] := by rw [wellU]; trivial
theorem well_cons {a : Int} {r : List Int} : wellU (a :: r) ↔ (nextU (a :: r)).2 ≠ 0 ∧ wellU (r.drop ((nextU (a :: r)).2.toNat - 1)) := by rw [wellU]
theorem right_fffd : rightU 65533 := by decide
theorem next_pos {a : Int} {r : List Int} (hb : Bytes (a :: r)) (h : (nextU (a :: r)).2 ≠ 0) : 1 ≤ (nextU (a :: r)).2 ∧ (nextU (a :: r)).2 ≤ ((a :: r).length : Int) := by
  obtain ⟨h1, h2, rest, h3⟩ := put_next' (a :: r) hb h
  generalize (nextU (a :: r)).1 = c at h1 h2 h3
  have := congrArg List.length h3
  rw [List.length_append] at this
  omega
theorem drop_pos {a : Int} {r : List Int} {k : Int} (h : 1 ≤ k) : (a :: r).drop k.toNat = r.drop (k.toNat - 1) := by
  obtain ⟨n, hn⟩ : ∃ n, k.toNat = n + 1 := ⟨k.toNat - 1, by omega⟩
  rw [hn]; rfl
theorem good_split {a : Int} {r : List Int} (hb : Bytes (a :: r)) (h : (nextU (a :: r)).2 ≠ 0) : a :: r = putU (nextU (a :: r)).1 ++ r.drop ((nextU (a :: r)).2.toNat - 1) := by
  have hp := next_pos hb h
  obtain ⟨h1, h2, rest, h3⟩ := put_next' (a :: r) hb h
  rw [← drop_pos (a := a) hp.1]
  generalize (nextU (a :: r)).2 = k at h2 hp ⊢
  generalize (nextU (a :: r)).1 = c at h1 h2 h3 ⊢
  rw [h3]
  have : k.toNat = (putU c).length := by omega
  rw [this, List.drop_left]
theorem chars_right : ∀ (n : Nat) (l : List Int), l.length ≤ n → Bytes l → ∀ c ∈ charsU l, rightU c
  | n, [], hn, hb => by rw [chars_nil]; intro c hc; cases hc
  | 0, a :: r, hn, hb => by simp at hn
  | n + 1, a :: r, hn, hb => by
    by_cases h : (nextU (a :: r)).2 = 0
    · rw [chars_bad h]
      intro c hc
      rcases List.mem_cons.1 hc with rfl | hc
      · exact right_fffd
      · exact chars_right n r (by simp at hn; omega) hb.tail c hc
    · rw [chars_good h]
      intro c hc
      rcases List.mem_cons.1 hc with rfl | hc
      · exact (put_next' (a :: r) hb h).1
      · exact chars_right n _ (by simp at hn ⊢; omega) (hb.tail.drop _) c hc
theorem chars_len : ∀ (n : Nat) (l : List Int), l.length ≤ n → (charsU l).length ≤ l.length
  | n, [], hn => by rw [chars_nil]; simp
  | 0, a :: r, hn => by simp at hn
  | n + 1, a :: r, hn => by
    by_cases h : (nextU (a :: r)).2 = 0
    · rw [chars_bad h]
      have := chars_len n r (by simp at hn; omega)
      simp; omega
    · rw [chars_good h]
      have := chars_len n (r.drop ((nextU (a :: r)).2.toNat - 1)) (by simp at hn ⊢; omega)
      simp at this ⊢; omega
theorem putU_ne {c : Int} (h : rightU c) : ∃ a r, putU c = a :: r := by
  cases hp : putU c with
  | nil =>
    have := putU_len h
    rw [hp] at this
    unfold utfSize at this
    simp at this
    split at this
    · omega
    · split at this
      · omega
      · split at this <;> omega
  | cons a r => exact ⟨a, r, rfl⟩
/-- Characters that are put, one behind the other, are those characters. -/
theorem chars_flat : ∀ (cs : List Int), (∀ c ∈ cs, rightU c) → charsU (flatU cs) = cs ∧ wellU (flatU cs)
  | [], _ => ⟨chars_nil, well_nil⟩
  | c :: cs, h => by
    have hc := h c List.mem_cons_self
    obtain ⟨h1, h2⟩ := chars_flat cs (fun x hx => h x (List.mem_cons_of_mem _ hx))
    have hn := next_put hc (flatU cs)
    obtain ⟨a, r, hp⟩ := putU_ne hc
    have e : flatU (c :: cs) = a :: (r ++ flatU cs) := by show putU c ++ flatU cs = _; rw [hp]; rfl
    rw [hp] at hn
    have hn' : nextU (a :: (r ++ flatU cs)) = (c, ((a :: r).length : Int)) := hn
    have hd : (r ++ flatU cs).drop (((a :: r).length : Int).toNat - 1) = flatU cs := by
      rw [Int.toNat_natCast, List.length_cons, Nat.add_sub_cancel, List.drop_left]
    rw [e]
    have hne : (nextU (a :: (r ++ flatU cs))).2 ≠ 0 := by rw [hn']; simp; omega
    constructor
    · rw [chars_good hne, hn']
      simp only
      rw [hd, h1]
    · rw [well_cons, hn']
      simp only
      rw [hd]
      exact ⟨by simp; omega, h2⟩
theorem flat_of_well : ∀ (n : Nat) (l : List Int), l.length ≤ n → Bytes l → wellU l → flatU (charsU l) = l
  | n, [], hn, hb, hw => by rw [chars_nil]; rfl
  | 0, a :: r, hn, hb, hw => by simp at hn
  | n + 1, a :: r, hn, hb, hw => by
    obtain ⟨h, h2⟩ := well_cons.1 hw
    rw [chars_good h]
    show putU _ ++ flatU _ = _
    rw [flat_of_well n _ (by simp at hn ⊢; omega) (hb.tail.drop _) h2]
    exact (good_split hb h).symm
theorem well_iff {l : List Int} (hb : Bytes l) : wellU l ↔ flatU (charsU l) = l := by
  constructor
  · exact flat_of_well l.length l (Nat.le_refl _) hb
  · intro h
    have := (chars_flat (charsU l) (chars_right l.length l (Nat.le_refl _) hb)).2
    rwa [h] at this
theorem flatU_bytes (cs : List Int) : Bytes (flatU cs) := by
  intro x hx
  obtain ⟨c, _, hc⟩ := List.mem_flatMap.1 hx
  exact putU_bytes c x hc
theorem flatU_len (cs : List Int) : (flatU cs).length ≤ 4 * cs.length := by
  induction cs with
  | nil => simp [flatU]
  | cons c cs ih =>
    show (putU c ++ flatU cs).length ≤ _
    have := putU_bd c
    simp
    omega
/-- How many characters; below nought: it isn't right. -/
noncomputable def countU (n : Int) (l : List Int) : Int := open Classical in if wellU l then n + (charsU l).length else -1
theorem count_nil (n : Int) : countU n [] = n := by unfold countU; rw [if_pos well_nil, chars_nil]; simp
theorem count_bad {n : Int} {a : Int} {r : List Int} (h : (nextU (a :: r)).2 = 0) : countU n (a :: r) = -1 := by unfold countU; rw [if_neg (fun e => (well_cons.1 e).1 h)]
theorem count_good {n : Int} {a : Int} {r : List Int} (h : (nextU (a :: r)).2 ≠ 0) : countU n (a :: r) = countU (n + 1) (r.drop ((nextU (a :: r)).2.toNat - 1)) := by
  unfold countU
  by_cases hw : wellU (r.drop ((nextU (a :: r)).2.toNat - 1))
  · rw [if_pos hw, if_pos (well_cons.2 ⟨h, hw⟩), chars_good h]
    simp
    omega
  · rw [if_neg hw, if_neg (fun e => hw (well_cons.1 e).2)]
theorem count_ge {l : List Int} : countU 0 l ≥ 0 ↔ wellU l := by
  unfold countU
  by_cases h : wellU l
  · rw [if_pos h]; exact ⟨fun _ => h, fun _ => by omega⟩
  · rw [if_neg h]; exact ⟨fun e => by omega, fun e => absurd e h⟩
end Go.Proofs.YtbamlphgolldlaaX

/- Characters: what utf.Next, Count and Right answer, the words on bytes. -/
set_option linter.unusedVariables false
set_option linter.unusedSimpArgs false
namespace Go.Proofs.YtbamlphgolldlaaX
open Go

def bt (s : List UInt8) (i : Nat) : Int := ((s.getD i 0).toNat : Int)
def ints (s : List UInt8) : List Int := s.map ofB
theorem ints_len (s : List UInt8) : (ints s).length = s.length := by simp [ints]
theorem ints_bytes (s : List UInt8) : Bytes (ints s) := by
  intro x hx
  unfold ints at hx
  obtain ⟨c, _, rfl⟩ := List.mem_map.1 hx
  exact u8_lt c
theorem ints_drop (s : List UInt8) (i : Nat) : ints (s.drop i) = (ints s).drop i := by simp [ints, List.map_drop]
theorem ints_take (s : List UInt8) (i : Nat) : ints (s.take i) = (ints s).take i := by simp [ints, List.map_take]
theorem bt_bd (s : List UInt8) (i : Nat) : 0 ≤ bt s i ∧ bt s i ≤ 255 := u8_lt _
theorem ints_get (s : List UInt8) (i : Nat) : (ints s).getD i 0 = bt s i := by
  unfold ints bt
  rw [List.getD_eq_getElem?_getD, List.getElem?_map, List.getD_eq_getElem?_getD]
  cases s[i]? <;> rfl
theorem drop_bt (s : List UInt8) (i : Nat) (h : i < s.length) : (ints s).drop i = bt s i :: (ints s).drop (i + 1) := by
  rw [drop_cons (ints s) i 0 (by rw [ints_len]; exact h), ints_get]
theorem right_eq (n : Nat) (c : Int) : F85 n c = some (decide (rightU c)) := by
  rw [F85]
  by_cases h0 : 0 ≤ c
  · rw [decide_eq_true h0, iteB_t]
    by_cases h1 : c ≤ 1114111
    · rw [decide_eq_true h1, iteB_t]
      by_cases h2 : c < 55296
      · rw [decide_eq_true h2, iteB_t, decide_eq_true (show rightU c from ⟨h0, h1, .inl h2⟩)]
      · rw [decide_eq_false h2, iteB_f]
        congr 1
        rw [decide_eq_decide]; unfold rightU; omega
    · rw [decide_eq_false h1, iteB_f, decide_eq_false (fun e : rightU c => h1 e.2.1)]
  · rw [decide_eq_false h0, iteB_f, decide_eq_false (fun e : rightU c => h0 e.1)]
theorem size_eq (n : Nat) (c : Int) : F86 n c = some (utfSize c) := by
  rw [F86]
  rcases (show c < 128 ∨ (128 ≤ c ∧ c < 2048) ∨ (2048 ≤ c ∧ c < 65536) ∨ 65536 ≤ c by omega) with a | ⟨a, b⟩ | ⟨a, b⟩ | a
  · rw [size_1 a, decide_eq_false (by omega), iteB_f, F86_J1, decide_eq_false (by omega), iteB_f, F86_J2, decide_eq_false (by omega), iteB_f]; rfl
  · rw [size_2 a b, decide_eq_true (by omega), iteB_t, F86_J1, decide_eq_false (by omega), iteB_f, F86_J2, decide_eq_false (by omega), iteB_f]; rfl
  · rw [size_3 a b, decide_eq_true (by omega), iteB_t, F86_J1, decide_eq_true (by omega), iteB_t, F86_J2, decide_eq_false (by omega), iteB_f]; rfl
  · rw [size_4 a, decide_eq_true (by omega), iteB_t, F86_J1, decide_eq_true (by omega), iteB_t, F86_J2, decide_eq_true (by omega), iteB_t]; rfl
theorem length_eq (n : Nat) (a : Int) : F82 n a = some (lenU a : Int) := by
  rw [F82]
  unfold lenU
  by_cases h1 : a < 128
  · rw [decide_eq_true h1, if_pos h1]; rfl
  · rw [decide_eq_false h1, if_neg h1, iteB_f]
    by_cases h2 : a < 192
    · rw [decide_eq_true h2, if_pos h2]; rfl
    · rw [decide_eq_false h2, if_neg h2, iteB_f]
      by_cases h3 : a < 224
      · rw [decide_eq_true h3, if_pos h3]; rfl
      · rw [decide_eq_false h3, if_neg h3, iteB_f]
        by_cases h4 : a < 240
        · rw [decide_eq_true h4, if_pos h4]; rfl
        · rw [decide_eq_false h4, if_neg h4, iteB_f]
          by_cases h5 : a < 248
          · rw [decide_eq_true h5, if_pos h5]; rfl
          · rw [decide_eq_false h5, if_neg h5, iteB_f]; rfl
theorem lead_eq (k n : Nat) (h0 : 1 ≤ n) (h1 : n ≤ 4) : F84 k (n : Int) = some (leadU n) := by
  rw [F84]
  rcases (show n = 1 ∨ n = 2 ∨ n = 3 ∨ n = 4 by omega) with rfl | rfl | rfl | rfl <;> decide +kernel
theorem off_fin : ∀ a : Fin 256, lenU (a.val : Int) ≠ 0 → IntKind.wrap .i32 (bAndNot .i32 (a.val : Int) (leadU (lenU (a.val : Int)))) = (a.val : Int) - leadU (lenU (a.val : Int)) := by decide +kernel
theorem lead_off {a : Int} (h0 : 0 ≤ a) (h1 : a ≤ 255) (h : lenU a ≠ 0) : IntKind.wrap .i32 (bAndNot .i32 a (leadU (lenU a))) = a - leadU (lenU a) := by
  obtain ⟨m, rfl⟩ := Int.eq_ofNat_of_zero_le h0
  exact off_fin ⟨m, by omega⟩ h
theorem goes_fin : ∀ b : Fin 256, (IntKind.wrap .u8 (bAndNot .u8 (b.val : Int) 63) == (128 : Int)) = decide (128 ≤ (b.val : Int) ∧ (b.val : Int) ≤ 191) := by decide +kernel
theorem goes_eq (k : Nat) {b : Int} (h0 : 0 ≤ b) (h1 : b ≤ 255) : F83 k b = some (decide (128 ≤ b ∧ b ≤ 191)) := by
  obtain ⟨m, rfl⟩ := Int.eq_ofNat_of_zero_le h0
  rw [F83]
  exact congrArg some (goes_fin ⟨m, by omega⟩)
theorem acc_step {c b : Int} {m : Nat} (h0 : 0 ≤ c) (hb : 0 ≤ b) (hc : c * 64 ^ (m + 1) + 64 ^ (m + 1) ≤ 2097152) : c * 64 + 64 ≤ 2097152 ∧ (c * 64 + b % 64) * 64 ^ m + 64 ^ m ≤ 2097152 := by
  have hp : (0 : Int) < 64 ^ m := Int.pow_pos (by omega)
  have hpe : (64 : Int) ^ (m + 1) = 64 ^ m * 64 := Int.pow_succ ..
  rw [hpe] at hc
  generalize (64 : Int) ^ m = P at hc hp
  clear hpe
  have e1 : c * (P * 64) = c * 64 * P := by rw [Int.mul_comm P 64, Int.mul_assoc]
  rw [e1] at hc
  have h1 : (c * 64 + 64) * 1 ≤ (c * 64 + 64) * P := Int.mul_le_mul_of_nonneg_left (by omega) (by omega)
  have h2 : (c * 64 + 64) * P = c * 64 * P + 64 * P := Int.add_mul ..
  have e5 : (c * 64 + b % 64) * P ≤ (c * 64 + 63) * P := Int.mul_le_mul_of_nonneg_right (by omega) (by omega)
  have e6 : (c * 64 + 63) * P = c * 64 * P + 63 * P := Int.add_mul ..
  rw [h2] at h1
  rw [e6] at e5
  generalize c * 64 * P = X at *
  generalize (c * 64 + b % 64) * P = Y at *
  exact ⟨by omega, by omega⟩
theorem acc_eq {c b : Int} (h0 : 0 ≤ c) (hb : 0 ≤ b) (hb1 : b ≤ 255) (hc : c * 64 + 64 ≤ 2097152) : IntKind.wrap .i32 (bOr .i32 (IntKind.wrap .i32 (bShl .i32 c 6)) (IntKind.wrap .i32 (IntKind.wrap .u8 (bAnd .u8 b (63 : Int))))) = c * 64 + b % 64 := by
  have e1 : bAnd .u8 b 63 = b % 64 := bAnd_low .u8 6 b hb (by show b < 256; omega) (by decide) 63 (by decide)
  have e2 : bShl .i32 c 6 = c * 64 := by
    unfold bShl
    rw [show (2 : Int) ^ min 6 (IntKind.bits .i32) = 64 by decide]
  rw [e1, e2, wu8 (by omega), w32 (n := b % 64) (by omega), w32 (n := c * 64) (by omega)]
  rw [bOr_add .i32 6 (c * 64) (b % 64) (by omega) (by show c * 64 < 4294967296; omega) (by show c * 64 % 64 = 0; omega) (by omega) (by show b % 64 < 64; omega) (by decide), w32 (by omega)]

/-! ### Next -/
theorem ev_Next_loop (s : List UInt8) (n : Nat) (hn : n ≤ 4) (hns : n ≤ s.length) : ∀ (m i : Nat) (c : Int), i + m = n → 0 ≤ c → c * 64 ^ m + 64 ^ m ≤ 2097152 →
    Ev (fun k => F44_L1 k s (n : Int) c (i : Int)) (contU n c ((ints s).drop i) m) := by
  intro m
  induction m with
  | zero =>
    intro i c hi h0 hc
    rw [contU_fin]
    unfold finU
    by_cases hr : rightU c
    · by_cases hz : utfSize c = (n : Int)
      · rw [if_pos (show rightU c ∧ utfSize c = (n : Int) from ⟨hr, hz⟩)]
        refine Ev.step (Ev.pure.congr fun k => ?_)
        rw [F44_L1, decide_eq_false (by omega), iteB_f, right_eq, bind_some', decide_eq_true hr]
        show iteB false _ _ = _
        rw [iteB_f, size_eq, bind_some', show (utfSize c != (n : Int)) = false by rw [hz]; simp, iteB_f]
      · rw [if_neg (show ¬ (rightU c ∧ utfSize c = (n : Int)) from fun e => hz e.2)]
        refine Ev.step (Ev.pure.congr fun k => ?_)
        rw [F44_L1, decide_eq_false (by omega), iteB_f, right_eq, bind_some', decide_eq_true hr]
        show iteB false _ _ = _
        rw [iteB_f, size_eq, bind_some', show (utfSize c != (n : Int)) = true by rw [bne_iff_ne]; exact hz, iteB_t]
    · rw [if_neg (show ¬ (rightU c ∧ utfSize c = (n : Int)) from fun e => hr e.1)]
      refine Ev.step (Ev.pure.congr fun k => ?_)
      rw [F44_L1, decide_eq_false (by omega), iteB_f, right_eq, bind_some', decide_eq_false hr]
      rfl
  | succ m ih =>
    intro i c hi h0 hc
    rw [drop_bt s i (by omega)]
    have hb := bt_bd s i
    have hbe : ((s.getD i 0).toNat : Int) = bt s i := rfl
    have hw : IntKind.wrap .i64 ((i : Int) + 1) = ((i + 1 : Nat) : Int) := by rw [w64 (by omega)]; omega
    have hg := fun k => goes_eq k hb.1 hb.2
    generalize bt s i = b at *
    by_cases hcn : 128 ≤ b ∧ b ≤ 191
    · obtain ⟨k1, k2⟩ := acc_step h0 hb.1 hc
      rw [contU_step hcn]
      refine Ev.step ((ih (i + 1) (c * 64 + b % 64) (by omega) (by omega) k2).congr fun k => ?_)
      rw [F44_L1, decide_eq_true (by omega), iteB_t, grd_t _ (by omega), toNat_nat, hbe, hg, bind_some', decide_eq_true hcn]
      show iteB false _ _ = _
      rw [iteB_f, grd_t _ (by omega), acc_eq h0 hb.1 hb.2 k1, hw]
    · rw [contU_no hcn]
      refine Ev.step (Ev.pure.congr fun k => ?_)
      rw [F44_L1, decide_eq_true (by omega), iteB_t, grd_t _ (by omega), toNat_nat, hbe, hg, bind_some', decide_eq_false hcn]
      rfl
theorem lenU_le (a : Int) : lenU a ≤ 4 := by
  unfold lenU
  repeat' split
  all_goals omega
theorem ev_Next (s : List UInt8) : Ev (fun k => F44 k s) (nextU (ints s)) := by
  by_cases h0 : s.length = 0
  · obtain rfl := List.eq_nil_of_length_eq_zero h0
    refine Ev.pure.congr fun k => ?_
    rw [F44]; rfl
  · have hd := drop_bt s 0 (by omega)
    rw [List.drop_zero] at hd
    have hb := bt_bd s 0
    have hbe : ((s.getD 0 0).toNat : Int) = bt s 0 := rfl
    have hne : (s == []) = false := by rw [beq_eq_false_iff_ne]; rintro rfl; exact h0 rfl
    have z0 : ((0 : Int)).toNat = 0 := rfl
    rw [hd]
    have hlen : (bt s 0 :: (ints s).drop 1).length = s.length := by simp [ints_len]; omega
    show Ev _ (nextU (bt s 0 :: (ints s).drop 1))
    rw [nextU, hlen]
    have h4 := lenU_le (bt s 0)
    generalize hB : bt s 0 = b at *
    by_cases hz : lenU b = 0
    · rw [if_pos (.inl hz)]
      refine Ev.pure.congr fun k => ?_
      rw [F44, hne, iteB_f, grd_t _ (by omega), z0, hbe, length_eq, bind_some', hz]; rfl
    · by_cases hg : lenU b > s.length
      · rw [if_pos (.inr hg)]
        refine Ev.pure.congr fun k => ?_
        rw [F44, hne, iteB_f, grd_t _ (by omega), z0, hbe, length_eq, bind_some', show (((lenU b : Nat) : Int) == 0) = false by rw [beq_eq_false_iff_ne]; omega, iteB_f, decide_eq_true (by omega), iteB_t]
      · rw [if_neg (by omega)]
        have hlead : 0 ≤ b - leadU (lenU b) ∧ (b - leadU (lenU b)) * 64 ^ (lenU b - 1) + 64 ^ (lenU b - 1) ≤ 2097152 := by
          rcases (show b < 128 ∨ (192 ≤ b ∧ b < 224) ∨ (224 ≤ b ∧ b < 240) ∨ (240 ≤ b ∧ b < 248) ∨ ((128 ≤ b ∧ b < 192) ∨ 248 ≤ b) by omega) with e | ⟨e1, e2⟩ | ⟨e1, e2⟩ | ⟨e1, e2⟩ | e
          · rw [len_1 e, show leadU 1 = 0 from rfl]; simp; omega
          · rw [len_2 e1 e2, show leadU 2 = 192 from rfl]; simp; omega
          · rw [len_3 e1 e2, show leadU 3 = 224 from rfl]; simp; omega
          · rw [len_4 e1 e2, show leadU 4 = 240 from rfl]; simp; omega
          · exact absurd (len_0 e) hz
        have e := ev_Next_loop s (lenU b) h4 (by omega) (lenU b - 1) 1 (b - leadU (lenU b)) (by omega) hlead.1 hlead.2
        refine e.congr fun k => ?_
        rw [F44, hne, iteB_f, grd_t _ (by omega), z0, hbe, length_eq, bind_some', show (((lenU b : Nat) : Int) == 0) = false by rw [beq_eq_false_iff_ne]; omega, iteB_f, decide_eq_false (by omega), iteB_f, grd_t _ (by omega), lead_eq k (lenU b) (by omega) (by omega), bind_some', w32 (n := b) (by omega), lead_off hb.1 hb.2 hz]
        rfl

theorem ofB_toB {x : Int} (h : 0 ≤ x ∧ x ≤ 255) : ofB (toB x) = x := by
  unfold ofB toB
  rw [UInt8.toNat_ofNat']
  omega
theorem map_toB_eq {l : List Int} (hl : Bytes l) (t : List UInt8) : (l.map toB == t) = decide (l = ints t) := by
  rw [Bool.eq_iff_iff, beq_iff_eq, decide_eq_true_eq]
  constructor
  · rintro rfl
    unfold ints
    rw [List.map_map]
    conv => lhs; rw [← List.map_id l]
    exact List.map_congr_left fun x hx => (ofB_toB (hl x hx)).symm
  · rintro rfl
    unfold ints
    rw [List.map_map]
    conv => rhs; rw [← List.map_id t]
    refine List.map_congr_left fun x _ => ?_
    show UInt8.ofNat ((x.toNat : Int)).toNat = x
    rw [toNat_nat]; simp
theorem ints_cons (s : List UInt8) (h : s.length ≠ 0) : ∃ a r, ints s = a :: r := by
  cases hb : ints s with
  | nil => have := ints_len s; rw [hb] at this; simp at this; omega
  | cons a r => exact ⟨a, r, rfl⟩
end Go.Proofs.YtbamlphgolldlaaX

/- Characters: Count and Right. -/
set_option linter.unusedVariables false
set_option linter.unusedSimpArgs false
namespace Go.Proofs.YtbamlphgolldlaaX
open Go
theorem ev_Count_loop : ∀ (d : Nat) (s : List UInt8) (n : Int), s.length ≤ d → s.length ≤ 1000000000 → 0 ≤ n → n + s.length ≤ 1000000000 →
    Ev (fun k => F48_L1 k s n) (countU n (ints s)) := by
  intro d
  have zero : ∀ (s : List UInt8) (n : Int), s.length = 0 → Ev (fun k => F48_L1 k s n) (countU n (ints s)) := by
    intro s n hz
    obtain rfl := List.eq_nil_of_length_eq_zero hz
    rw [show ints [] = [] from rfl, count_nil]
    exact Ev.step (Ev.pure.congr fun k => by rw [F48_L1]; rfl)
  induction d with
  | zero => intro s n hd hs h0 hn; exact zero s n (by omega)
  | succ d ih =>
    intro s n hd hs h0 hn
    by_cases hz : s.length = 0
    · exact zero s n hz
    · obtain ⟨a, r, hl⟩ := ints_cons s hz
      have hb := ints_bytes s
      have hlen := ints_len s
      obtain ⟨N1, e1⟩ := ev_Next s
      have hne : (s == []) = false := by rw [beq_eq_false_iff_ne]; rintro rfl; exact hz rfl
      rw [hl] at hb hlen e1 ⊢
      by_cases h : (nextU (a :: r)).2 = 0
      · rw [count_bad h]
        have hzb : ((nextU (a :: r)).2 == (0 : Int)) = true := by rw [h]; rfl
        refine Ev.step ⟨N1, fun n' hn' => ?_⟩
        have q := e1 n' hn'
        dsimp only at q
        show F48_L1 (n' + 1) s n = _
        rw [F48_L1, hne, Bool.not_false, iteB_t, q, bind_some', hzb, iteB_t]
      · have hp := next_pos hb h
        rw [count_good h]
        have hzb : ((nextU (a :: r)).2 == (0 : Int)) = false := by rw [beq_eq_false_iff_ne]; exact h
        have hdr : ints (s.drop (nextU (a :: r)).2.toNat) = r.drop ((nextU (a :: r)).2.toNat - 1) := by rw [ints_drop, hl, drop_pos hp.1]
        have hw : IntKind.wrap .i64 (n + 1) = n + 1 := w64 (by omega)
        obtain ⟨M2, i2⟩ := ih (s.drop (nextU (a :: r)).2.toNat) (n + 1) (by rw [List.length_drop]; omega) (by rw [List.length_drop]; omega) (by omega) (by rw [List.length_drop]; omega)
        rw [hdr] at i2
        have q1 : (nextU (a :: r)).2 ≤ (s.length : Int) := by rw [← hlen]; exact hp.2
        refine Ev.step ⟨N1 + M2, fun n' hn' => ?_⟩
        have q := e1 n' (by omega)
        have q' := i2 n' (by omega)
        dsimp only at q q'
        show F48_L1 (n' + 1) s n = _
        rw [F48_L1, hne, Bool.not_false, iteB_t, q, bind_some', hzb, iteB_f, grd_t _ (by omega), hw, q']
theorem ev_Count (s : List UInt8) (hs : s.length ≤ 1000000000) : Ev (fun k => F48 k s) (countU 0 (ints s)) := (ev_Count_loop s.length s 0 (Nat.le_refl _) hs (by omega) (by omega)).congr fun k => rfl
theorem ev_Right (s : List UInt8) (hs : s.length ≤ 1000000000) : Ev (fun k => F13 k s) (decide ((0 : Int) ≤ countU 0 (ints s))) :=
  (Ev.bind (g := fun _ v => some (decide ((0 : Int) ≤ v))) (ev_Count s hs) Ev.pure).congr fun k => rfl
end Go.Proofs.YtbamlphgolldlaaX

/- Characters: what utf.Put and Clean answer. -/
set_option linter.unusedVariables false
set_option linter.unusedSimpArgs false
namespace Go.Proofs.YtbamlphgolldlaaX
open Go

theorem leadB (L d : Int) (i : Nat) (hi : i ≤ 8) (h0 : 0 ≤ d) (h1 : d < 2 ^ i) (hL : L % 2 ^ i = 0) (hL0 : 0 ≤ L) (hs : L + d ≤ 255) : IntKind.u8.wrap (IntKind.i32.wrap (bOr .i32 L d)) = L + d := by
  have e : (2 : Int) ^ IntKind.i32.bits = 4294967296 := by decide
  rw [bOr_add .i32 i L d hL0 (by omega) hL h0 h1 (by show i ≤ 32; omega), Go.IntWalk.i32_in _ (by omega), Go.IntWalk.u8_in _ (by omega)]
theorem followB (d : Int) (h0 : 0 ≤ d) (h1 : d < 2147483648) : IntKind.u8.wrap (IntKind.i32.wrap (bOr .i32 128 (IntKind.i32.wrap (bAnd .i32 d 63)))) = 128 + d % 64 := by
  have e : (2 : Int) ^ IntKind.i32.bits = 4294967296 := by decide
  rw [bAnd_low .i32 6 d h0 (by omega) (by decide) 63 (by decide), Go.IntWalk.i32_in (d % 2 ^ 6) (by omega)]
  exact leadB 128 (d % 2 ^ 6) 6 (by omega) (by omega) (by omega) (by decide) (by decide) (by omega)
/-- The bytes behind the first one. -/
def tailU (c : Int) : Nat → List Int
  | 0 => []
  | k + 1 => (128 + c / 64 ^ k % 64) :: tailU c k
theorem put_loop (c : Int) (h0 : 0 ≤ c) (h1 : c ≤ 1114111) : ∀ (k : Nat) (l : List Int), k ≤ 3 → l.length + k ≤ 549755813000 → Ev (fun n => F81_L1 n c ((k : Int) - 1) l) (l ++ tailU c k)
  | 0, l, hk, hl => Ev.step (Ev.pure.congr fun n => by
      rw [F81_L1, decide_eq_false (by omega), iteB_f]; simp [tailU])
  | k + 1, l, hk, hl => by
    have e1 : (((k + 1 : Nat) : Int) - 1) = (k : Int) := by omega
    have e2 : IntKind.wrap .i64 ((k : Int) - 1) = (k : Int) - 1 := w64 (by omega)
    have e3 : IntKind.wrap .i64 (6 * (k : Int)) = 6 * (k : Int) := w64 (by omega)
    have hp : (1 : Int) ≤ 64 ^ k := by
      match k, hk with
      | 0, _ => decide
      | 1, _ => decide
      | 2, _ => decide
    have e4 : bShr .i32 c (6 * (k : Int)).toNat = c / 64 ^ k := by
      refine bShr_div .i32 c _ _ ?_ (by omega)
      match k, hk with
      | 0, _ => decide
      | 1, _ => decide
      | 2, _ => decide
    have q0 : 0 ≤ c / 64 ^ k := Int.ediv_nonneg h0 (by omega)
    have q1 : c / 64 ^ k ≤ c := Int.ediv_le_self _ h0
    have ih := put_loop c h0 h1 k (l ++ [128 + c / 64 ^ k % 64]) (by omega) (by simp; omega)
    rw [show l ++ tailU c (k + 1) = l ++ [128 + c / 64 ^ k % 64] ++ tailU c k by simp [tailU]]
    refine Ev.step (ih.congr fun n => ?_)
    show F81_L1 (n + 1) c (((k + 1 : Nat) : Int) - 1) l = _
    rw [e1, F81_L1, decide_eq_true (show (0 : Int) ≤ (k : Int) by omega), iteB_t, e3, e2, e4, followB _ q0 (by omega)]
    rw [grd_t _ (by omega), grd_t _ (by omega)]
theorem ev_Put (l : List Int) (c : Int) (hc0 : -2147483648 ≤ c) (hc1 : c ≤ 2147483647) (hl : l.length ≤ 549755800000) : Ev (fun n => F81 n l c) (l ++ putU c) := by
  by_cases hr : rightU c
  case neg =>
    refine Ev.pure.congr fun n => ?_
    rw [F81, grd_t _ (by omega), right_eq, bind_some', decide_eq_false hr, Bool.not_false, iteB_t, putU_no hr, List.append_nil]
  obtain ⟨h0, h1, _⟩ := id hr
  have key : ∀ (k : Nat) (L m : Int), k ≤ 3 → utfSize c = (k : Int) + 1 → leadU (k + 1) = L → 64 ^ k = m → IntKind.u8.wrap (IntKind.i32.wrap (bOr .i32 L (c / m))) = L + c / m → putU c = (L + c / m) :: tailU c k → Ev (fun n => F81 n l c) (l ++ putU c) := by
    intro k L m hk hs hL hm hb hp
    have ih := put_loop c h0 h1 k (l ++ [L + c / m]) hk (by simp; omega)
    rw [hp]
    rw [List.append_assoc] at ih
    refine ih.congr fun n => ?_
    have e1 : IntKind.wrap .i64 ((k : Int) + 1 - 1) = (k : Int) := by rw [w64 (by omega)]; omega
    have e2 : IntKind.wrap .i64 ((k : Int) + 1 - 2) = (k : Int) - 1 := by rw [w64 (by omega)]; omega
    have e3 : IntKind.wrap .i64 (6 * (k : Int)) = 6 * (k : Int) := w64 (by omega)
    have e4 : bShr .i32 c (6 * (k : Int)).toNat = c / m := by
      subst hm
      refine bShr_div .i32 c _ _ ?_ ?_
      · match k, hk with
        | 0, _ => decide
        | 1, _ => decide
        | 2, _ => decide
        | 3, _ => decide
      · match k, hk with
        | 0, _ => decide
        | 1, _ => decide
        | 2, _ => decide
        | 3, _ => decide
    have hle := lead_eq n (k + 1) (by omega) (by omega)
    rw [show (((k + 1 : Nat)) : Int) = (k : Int) + 1 from by omega, hL] at hle
    rw [F81, grd_t _ (by omega), right_eq, bind_some', decide_eq_true hr, Bool.not_true, iteB_f, size_eq, bind_some', hs, hle, bind_some', e1, e2, e3, grd_t _ (by omega), grd_t _ (by omega), e4, hb]
  rcases (show c < 128 ∨ (128 ≤ c ∧ c < 2048) ∨ (2048 ≤ c ∧ c < 65536) ∨ 65536 ≤ c by omega) with a | ⟨a, b⟩ | ⟨a, b⟩ | a
  · exact key 0 0 1 (by omega) (size_1 a) (by decide) (by decide) (leadB 0 (c / 1) 7 (by omega) (by omega) (by omega) (by decide) (by decide) (by omega)) (by rw [putU_1 hr a]; simp [tailU])
  · exact key 1 192 64 (by omega) (size_2 a b) (by decide) (by decide) (leadB 192 (c / 64) 5 (by omega) (by omega) (by omega) (by decide) (by decide) (by omega)) (by rw [putU_2 hr a b]; simp [tailU])
  · exact key 2 224 4096 (by omega) (size_3 a b) (by decide) (by decide) (leadB 224 (c / 4096) 4 (by omega) (by omega) (by omega) (by decide) (by decide) (by omega)) (by rw [putU_3 hr a b]; simp [tailU])
  · exact key 3 240 262144 (by omega) (size_4 a) (by decide) (by decide) (leadB 240 (c / 262144) 3 (by omega) (by omega) (by omega) (by decide) (by decide) (by omega)) (by rw [putU_4 hr a]; simp [tailU])
theorem clean_loop : ∀ (d : Nat) (s : List UInt8) (l : List Int), s.length ≤ d → d ≤ 1000000000 → l.length + 4 * d ≤ 10000000000 → Ev (fun n => F43_L1 n s l) ((l ++ flatU (charsU (ints s))).map toB) := by
  intro d
  induction d with
  | zero =>
    intro s l hd _ _
    obtain rfl := List.eq_nil_of_length_eq_zero (by omega : s.length = 0)
    rw [show ints [] = [] from rfl, chars_nil]
    exact Ev.step (Ev.pure.congr fun n => by rw [F43_L1]; simp [flatU, iteB])
  | succ d ih =>
    intro s l hd hd1 hl
    by_cases hz : s.length = 0
    · obtain rfl := List.eq_nil_of_length_eq_zero hz
      rw [show ints [] = [] from rfl, chars_nil]
      exact Ev.step (Ev.pure.congr fun n => by rw [F43_L1]; simp [flatU, iteB])
    · obtain ⟨a, r, hi⟩ := ints_cons s hz
      have hb := ints_bytes s
      have hlen := ints_len s
      obtain ⟨N1, e1⟩ := ev_Next s
      have hne : (s == []) = false := by rw [beq_eq_false_iff_ne]; rintro rfl; exact hz rfl
      rw [hi] at hb hlen e1 ⊢
      by_cases h : (nextU (a :: r)).2 = 0
      · have hzb : ((nextU (a :: r)).2 == (0 : Int)) = true := by rw [h]; rfl
        rw [chars_bad h]
        obtain ⟨N2, e2⟩ := ev_Put l 65533 (by omega) (by omega) (by omega)
        obtain ⟨N3, e3⟩ := ih (s.drop 1) (l ++ putU 65533) (by rw [List.length_drop]; omega) (by omega) (by have := putU_bd 65533; simp; omega)
        have hdr : ints (s.drop 1) = r := by rw [ints_drop, hi]; rfl
        rw [hdr, List.append_assoc] at e3
        refine Ev.step ⟨N1 + N2 + N3, fun n hn => ?_⟩
        have q1 := e1 n (by omega)
        have q2 := e2 n (by omega)
        have q3 := e3 n (by omega)
        dsimp only at q1 q2 q3
        show F43_L1 (n + 1) s l = _
        rw [F43_L1, hne, Bool.not_false, iteB_t, q1, bind_some', hzb, iteB_t, F43_J2, q2, bind_some', grd_t _ (by omega)]
        exact q3
      · have hzb : ((nextU (a :: r)).2 == (0 : Int)) = false := by rw [beq_eq_false_iff_ne]; exact h
        have hp := next_pos hb h
        have hr := (put_next' _ hb h).1
        obtain ⟨g0, g1, _⟩ := id hr
        rw [chars_good h]
        obtain ⟨N2, e2⟩ := ev_Put l (nextU (a :: r)).1 (by omega) (by omega) (by omega)
        obtain ⟨N3, e3⟩ := ih (s.drop (nextU (a :: r)).2.toNat) (l ++ putU (nextU (a :: r)).1) (by rw [List.length_drop]; omega) (by omega) (by have := putU_bd (nextU (a :: r)).1; simp; omega)
        have hdr : ints (s.drop (nextU (a :: r)).2.toNat) = r.drop ((nextU (a :: r)).2.toNat - 1) := by rw [ints_drop, hi, drop_pos hp.1]
        rw [hdr, List.append_assoc] at e3
        refine Ev.step ⟨N1 + N2 + N3, fun n hn => ?_⟩
        have q1 := e1 n (by omega)
        have q2 := e2 n (by omega)
        have q3 := e3 n (by omega)
        dsimp only at q1 q2 q3
        show F43_L1 (n + 1) s l = _
        rw [F43_L1, hne, Bool.not_false, iteB_t, q1, bind_some', hzb, iteB_f, F43_J2, q2, bind_some', grd_t _ (by omega)]
        exact q3
theorem ev_Clean (s : List UInt8) (hs : s.length ≤ 1000000000) : Ev (fun n => F43 n s) ((flatU (charsU (ints s))).map toB) := by
  have := clean_loop s.length s [] (Nat.le_refl _) hs (by simp; omega)
  rw [List.nil_append] at this
  exact this.congr fun n => rfl
end Go.Proofs.YtbamlphgolldlaaX

/- What stands between elements, in characters: its bytes, and when it is as it was. -/
set_option linter.unusedVariables false
set_option linter.unusedSimpArgs false
namespace Go.Proofs.YtbamlphgolldlaaX
open Go

def escC (c : Int) : List Int :=
  if c = 60 then [38, 108, 116, 59] else if c = 62 then [38, 103, 116, 59] else if c = 38 then [38, 97, 109, 112, 59] else if c = 34 then [38, 113, 117, 111, 116, 59]
  else if c = 13 then [38, 35, 49, 51, 59] else if c = 9 ∨ c = 10 then [c] else if c = 65534 ∨ c = 65535 then [65533] else if c < 32 then [65533] else [c]
/-- Of one character. -/
def esc1 (c : Int) : List Int := flatU (escC c)
def escU (cs : List Int) : List Int := cs.flatMap esc1
theorem flatU_one (c : Int) : flatU [c] = putU c := by simp [flatU]
theorem flatU_append (l r : List Int) : flatU (l ++ r) = flatU l ++ flatU r := by simp [flatU]
theorem escU_flat : ∀ cs : List Int, escU cs = flatU (cs.flatMap escC)
  | [] => rfl
  | c :: cs => by rw [List.flatMap_cons, flatU_append, ← escU_flat cs]; rfl
theorem escC_right {c : Int} (h : rightU c) : ∀ x ∈ escC c, rightU x := by
  intro x hx
  unfold escC at hx
  repeat' split at hx
  all_goals simp only [List.mem_cons, List.not_mem_nil, or_false] at hx
  all_goals (first | (subst hx; first | exact h | decide) | (rcases hx with h | h | h | h | h | h <;> (subst h; decide)) | (rcases hx with h | h | h | h | h <;> (subst h; decide)) | (rcases hx with h | h | h | h <;> (subst h; decide)))
theorem escU_well {cs : List Int} (h : ∀ c ∈ cs, rightU c) : wellU (escU cs) := by
  rw [escU_flat]
  refine (chars_flat _ fun x hx => ?_).2
  obtain ⟨c, hc, hx⟩ := List.mem_flatMap.1 hx
  exact escC_right (h c hc) x hx
/-- A sign that may not stand there. -/
def badS (x : Int) : Prop := x = 60 ∨ x = 62 ∨ x = 34 ∨ (x < 32 ∧ x ≠ 9 ∧ x ≠ 10)
theorem putU_hi {c : Int} (h : rightU c) (h1 : 128 ≤ c) : ∀ x ∈ putU c, 128 ≤ x := by
  intro x hx
  obtain ⟨h0, h2, h3⟩ := id h
  rcases (show (128 ≤ c ∧ c < 2048) ∨ (2048 ≤ c ∧ c < 65536) ∨ 65536 ≤ c by omega) with ⟨a, b⟩ | ⟨a, b⟩ | a
  · rw [putU_2 h a b] at hx; simp only [List.mem_cons, List.not_mem_nil, or_false] at hx; rcases hx with e | e <;> omega
  · rw [putU_3 h a b] at hx; simp only [List.mem_cons, List.not_mem_nil, or_false] at hx; rcases hx with e | e | e <;> omega
  · rw [putU_4 h a] at hx; simp only [List.mem_cons, List.not_mem_nil, or_false] at hx; rcases hx with e | e | e | e <;> omega
/-- The characters of an escaped text: none is a sign that may not stand there. -/
theorem escC_ok {c : Int} (h : rightU c) : ∀ x ∈ escC c, ¬ badS x := by
  intro x hx
  unfold escC at hx
  obtain ⟨g0, g1, g2⟩ := h
  repeat' split at hx
  all_goals simp only [List.mem_cons, List.not_mem_nil, or_false] at hx
  all_goals unfold badS
  all_goals omega
theorem escU_ok {cs : List Int} (h : ∀ c ∈ cs, rightU c) : ∀ x ∈ escU cs, ¬ badS x := by
  intro x hx
  rw [escU_flat] at hx
  obtain ⟨y, hy, hx⟩ := List.mem_flatMap.1 hx
  obtain ⟨c, hc, hy⟩ := List.mem_flatMap.1 hy
  have hr := escC_right (h c hc) y hy
  by_cases h8 : y < 128
  · rw [putU_1 hr h8] at hx
    simp only [List.mem_cons, List.not_mem_nil, or_false] at hx
    subst hx
    exact escC_ok (h c hc) x hy
  · have := putU_hi hr (by omega) x hx
    unfold badS; omega
/-- A byte that is special. -/
def spec (x : Int) : Prop := x = 60 ∨ x = 62 ∨ x = 38 ∨ x = 34 ∨ (x < 32 ∧ x ≠ 9 ∧ x ≠ 10) ∨ x = 239
theorem esc1_same {c : Int} (h : rightU c) (hs : ∀ x ∈ putU c, ¬ spec x) : esc1 c = putU c := by
  have key : escC c = [c] := by
    obtain ⟨h0, h2, h3⟩ := id h
    by_cases h8 : c < 128
    · rw [putU_1 h h8] at hs
      have := hs c (by simp)
      unfold spec at this
      unfold escC
      rw [if_neg (by omega), if_neg (by omega), if_neg (by omega), if_neg (by omega), if_neg (by omega)]
      split
      · rfl
      · rw [if_neg (by omega), if_neg (by omega)]
    · have hn : ¬ (c = 65534 ∨ c = 65535) := by
        intro e
        have e3 : putU c = [224 + c / 4096, 128 + c / 64 % 64, 128 + c % 64] := putU_3 h (by omega) (by omega)
        rw [e3] at hs
        have := hs (224 + c / 4096) (by simp)
        unfold spec at this
        omega
      unfold escC
      rw [if_neg (by omega), if_neg (by omega), if_neg (by omega), if_neg (by omega), if_neg (by omega), if_neg (by omega), if_neg hn, if_neg (by omega)]
  unfold esc1
  rw [key, flatU_one]
theorem escU_same : ∀ {cs : List Int}, (∀ c ∈ cs, rightU c) → (∀ x ∈ flatU cs, ¬ spec x) → escU cs = flatU cs
  | [], _, _ => rfl
  | c :: cs, h, hs => by
    show esc1 c ++ escU cs = putU c ++ flatU cs
    rw [esc1_same (h c (by simp)) (fun x hx => hs x (by show x ∈ putU c ++ flatU cs; exact List.mem_append_left _ hx)), escU_same (fun x hx => h x (by simp [hx])) (fun x hx => hs x (by show x ∈ putU c ++ flatU cs; exact List.mem_append_right _ hx))]
theorem esc1_len (c : Int) : (esc1 c).length ≤ 24 := by
  have : (escC c).length ≤ 6 := by unfold escC; repeat' split
                                   all_goals simp
  have := flatU_len (escC c)
  unfold esc1; omega
theorem escU_len : ∀ cs : List Int, (escU cs).length ≤ 24 * cs.length
  | [] => by simp [escU]
  | c :: cs => by
    show (esc1 c ++ escU cs).length ≤ _
    have := esc1_len c
    have := escU_len cs
    simp; omega
theorem escU_bytes (cs : List Int) : Bytes (escU cs) := by rw [escU_flat]; exact flatU_bytes _
end Go.Proofs.YtbamlphgolldlaaX

/- What xmlout.Escape answers. -/
set_option linter.unusedVariables false
set_option linter.unusedSimpArgs false
namespace Go.Proofs.YtbamlphgolldlaaX
open Go

theorem of_ints {s : List UInt8} {l : List Int} (h : ints s = l) : s = l.map toB := by
  have hb : Bytes l := h ▸ ints_bytes s
  have := map_toB_eq hb s
  rw [h, decide_eq_true rfl] at this
  exact (beq_iff_eq.1 this).symm
theorem ints_toB {l : List Int} (h : Bytes l) : ints (l.map toB) = l := by
  have := map_toB_eq h (l.map toB)
  rw [beq_self_eq_true] at this
  exact (of_decide_eq_true this.symm).symm
theorem toB_inj : ∀ {a b : List Int}, Bytes a → Bytes b → a.map toB = b.map toB → a = b := fun ha hb h => by
  have := congrArg ints h
  rwa [ints_toB ha, ints_toB hb] at this
theorem esc1_of {c : Int} {l : List Int} (h : escC c = l) (hf : flatU l = l) : esc1 c = l := by unfold esc1; rw [h, hf]
theorem bq {a b : Int} (h : ¬ a = b) : (a == b) = false := beq_eq_false_iff_ne.2 h
theorem bqt {a b : Int} (h : a = b) : (a == b) = true := by rw [h]; exact beq_self_eq_true b
theorem sign_eq (n : Nat) (c : Int) : F46 n c ((putU c).map toB) = some ((esc1 c).map toB) := by
  unfold F46
  by_cases h1 : c = 60
  · subst h1; rfl
  by_cases h2 : c = 62
  · subst h2; rfl
  by_cases h3 : c = 38
  · subst h3; rfl
  by_cases h4 : c = 34
  · subst h4; rfl
  by_cases h5 : c = 13
  · subst h5; rfl
  rw [bq h1, iteB_f, bq h2, iteB_f, bq h3, iteB_f, bq h4, iteB_f, bq h5, iteB_f]
  by_cases h6 : c = 9
  · subst h6; rfl
  by_cases h7 : c = 10
  · subst h7; rfl
  rw [bq h6, bq h7, iteB_f]
  unfold F46_J1
  rw [iteB_f]
  by_cases h8 : c = 65534
  · subst h8; rfl
  by_cases h9 : c = 65535
  · subst h9; rfl
  rw [bq h8, bq h9, iteB_f, iteB_f]
  have e : esc1 c = if c < 32 then [239, 191, 189] else putU c := by
    unfold esc1 escC
    rw [if_neg h1, if_neg h2, if_neg h3, if_neg h4, if_neg h5, if_neg (by omega), if_neg (by omega)]
    split
    · rfl
    · exact flatU_one c
  rw [e]
  by_cases ha : c < 32
  · rw [decide_eq_true ha, iteB_t, if_pos ha]; rfl
  · rw [decide_eq_false ha, iteB_f, if_neg ha]
theorem esc1_bytes (c : Int) : Bytes (esc1 c) := flatU_bytes _
theorem all_bytes {l : List Int} (h : Bytes l) : (l.all fun x => decide (0 ≤ x) && decide (x < 256)) = true := by
  rw [List.all_eq_true]
  intro x hx
  have := h x hx
  simp only [Bool.and_eq_true, decide_eq_true_eq]
  omega
theorem bld_String (n : Nat) (b : Bool) (l : List Int) (h : Bytes l) (hl : l.length ≤ 549755813888) : F47 n (b, l) = some (l.map toB, (b, l)) := by
  unfold F47
  exact if_pos ⟨hl, all_bytes h⟩
theorem bld_Write (n : Nat) (b : Bool) (l : List Int) (s : List UInt8) (hl : l.length + s.length ≤ 549755813888) : F45 n (b, l) s = some ((s.length : Int), (), true, l ++ ints s) := by
  unfold F45
  rw [show F87 n (b, l) = some (true, l) from rfl, bind_some', grd_t _ hl]
  rfl
theorem escape_loop : ∀ (cs : List Int) (s : List UInt8) (b : Bool) (l : List Int), (∀ c ∈ cs, rightU c) → ints s = flatU cs → Bytes l → l.length + 24 * cs.length ≤ 549755813000 → s.length ≤ 4000000000 →
    Ev (fun n => F12_L1 n s b l) ((l ++ escU cs).map toB)
  | [], s, b, l, hr, hs, hb, hl, hsl => by
    obtain rfl : s = [] := of_ints hs
    rw [show escU [] = [] from rfl, List.append_nil]
    exact Ev.step (Ev.pure.congr fun n => by
      rw [F12_L1, show (!(([] : List UInt8) == [])) = false from rfl, iteB_f, bld_String n b l hb (by simp at hl; omega), bind_some'])
  | c :: cs, s, b, l, hr, hs, hb, hl, hsl => by
    have hc := hr c (by simp)
    have hs' : ints s = putU c ++ flatU cs := hs
    obtain ⟨N1, e1⟩ := ev_Next s
    rw [hs', next_put hc] at e1
    have hlen := ints_len s
    rw [hs', List.length_append] at hlen
    obtain ⟨x, r, hp⟩ := putU_ne hc
    have hp1 : 1 ≤ (putU c).length := by rw [hp]; simp
    have hne : (s == []) = false := by
      rw [beq_eq_false_iff_ne]; rintro rfl
      rw [List.length_nil] at hlen; omega
    have htake : s.take (putU c).length = (putU c).map toB := of_ints (by rw [ints_take, hs', List.take_left])
    have hdrop : ints (s.drop (putU c).length) = flatU cs := by rw [ints_drop, hs', List.drop_left]
    have h24 := esc1_len c
    have hl' : l.length + 24 * (cs.length + 1) ≤ 549755813000 := hl
    obtain ⟨N2, e2⟩ := escape_loop cs (s.drop (putU c).length) true (l ++ esc1 c) (fun y hy => hr y (by simp [hy])) hdrop (hb.append (esc1_bytes c)) (by simp; omega) (by rw [List.length_drop]; omega)
    refine Ev.step ⟨N1 + N2, fun n hn => ?_⟩
    have q1 := e1 n (by omega)
    have q2 := e2 n (by omega)
    dsimp only at q1 q2
    show F12_L1 (n + 1) s b l = _
    rw [F12_L1, hne, Bool.not_false, iteB_t, q1, bind_some', grd_t _ (by dsimp only; omega)]
    dsimp only
    rw [toNat_nat, htake, sign_eq, bind_some', bld_Write n b l _ (by rw [List.length_map]; omega), bind_some', grd_t _ (by omega)]
    dsimp only
    rw [ints_toB (esc1_bytes c), q2, List.append_assoc]
    rfl
/-- The characters of a text. -/
def chs (s : List UInt8) : List Int := charsU (ints s)
theorem chs_right (s : List UInt8) : ∀ c ∈ chs s, rightU c := chars_right _ _ (Nat.le_refl _) (ints_bytes s)
theorem chs_len (s : List UInt8) : (chs s).length ≤ s.length := by
  have := chars_len (ints s).length (ints s) (Nat.le_refl _)
  rwa [ints_len] at this
theorem ev_Escape (s : List UInt8) (hs : s.length ≤ 1000000000) : Ev (fun n => F12 n s) ((escU (chs s)).map toB) := by
  have hl := chs_len s
  have hfl := flatU_len (chs s)
  have := escape_loop (chs s) ((flatU (chs s)).map toB) false [] (chs_right s) (ints_toB (flatU_bytes _)) Bytes.nil (by simp; omega) (by rw [List.length_map]; omega)
  rw [List.nil_append] at this
  exact (Ev.bind (g := fun n v => F12_L1 n v false []) (ev_Clean s hs) this).congr fun n => rfl
end Go.Proofs.YtbamlphgolldlaaX

/- XmloutPlain: what stands between elements is right, has no sign of its own, and is as it was, where it had none that is special. -/
set_option linter.unusedVariables false
set_option linter.unusedSimpArgs false
namespace Go.Proofs.YtbamlphgolldlaaX
open Go

theorem bs_bool {p : Prop} [Decidable p] {b : Bool} (h : (b = true) ↔ p) : b = decide p := by
  cases b with
  | true => exact (decide_eq_true (h.1 rfl)).symm
  | false => exact (decide_eq_false (fun e => by cases h.2 e)).symm
instance (x : Int) : Decidable (spec x) := by unfold spec; exact inferInstance
instance (x : Int) : Decidable (badS x) := by unfold badS; exact inferInstance
/-- Is one of these special? -/
def specs (l : List Int) : Bool := l.any fun x => decide (spec x)
theorem g64 (i : Nat) (h : i ≤ 1000000000) : IntKind.wrap .i64 ((i : Int) + 1) = ((i + 1 : Nat) : Int) := by rw [w64 (by omega)]; omega
theorem plain_spec (s e : List UInt8) (hs : s.length ≤ 1000) (hG : ∀ sp, (sp = false → e = s) → Ev (fun n => F3_L3 n s e sp 0) true) :
    ∀ (d i : Nat) (sp : Bool), i + d = s.length → (sp = false → specs ((ints s).drop i) = false → e = s) → Ev (fun n => F3_L2 n s e sp (i : Int)) true := by
  intro d
  induction d with
  | zero =>
    intro i sp hd hsp
    refine Ev.step ((hG sp fun h => hsp h ?_).congr fun n => ?_)
    · rw [List.drop_of_length_le (by rw [ints_len]; omega)]; rfl
    · rw [F3_L2, decide_eq_false (by omega), iteB_f]
  | succ d ih =>
    intro i sp hd hsp
    have hdr := drop_bt s i (by omega)
    have hb := bt_bd s i
    have hw := g64 i (by omega)
    have hlt : (i : Int) < (s.length : Int) := by omega
    cases sp with
    | true =>
      refine Ev.step ((ih (i + 1) true (by omega) (fun h => by cases h)).congr fun n => ?_)
      rw [F3_L2, decide_eq_true hlt, iteB_t, iteB_t, hw]
    | false =>
      have hspec : specs ((ints s).drop i) = (decide (spec (bt s i)) || specs ((ints s).drop (i + 1))) := by rw [hdr]; rfl
      rw [hspec] at hsp
      have ih' := ih (i + 1) (decide (spec (bt s i))) (by omega) (fun h1 h2 => hsp rfl (by rw [h1, h2]; rfl))
      refine Ev.step (ih'.congr fun n => ?_)
      rw [F3_L2, decide_eq_true hlt, iteB_t, iteB_f, hw]
      simp only [grd_t _ (show 0 ≤ (i : Int) ∧ (i : Int) < (s.length : Int) from ⟨by omega, hlt⟩), toNat_nat]
      show iteB (bt s i == 60) _ (iteB (bt s i == 62) _ (iteB (bt s i == 38) _ (iteB (bt s i == 34) _ (iteB (decide (bt s i < 32)) (iteB (bt s i != 9) (iteB (bt s i != 10) _ (F3_L2 n s e (bt s i == 239) _)) (F3_L2 n s e (bt s i == 239) _)) (F3_L2 n s e (bt s i == 239) _))))) = _
      generalize bt s i = x at hb
      by_cases h1 : x = 60
      · rw [bqt h1, iteB_t, decide_eq_true (show spec x by unfold spec; omega)]
      by_cases h2 : x = 62
      · rw [bq h1, iteB_f, bqt h2, iteB_t, decide_eq_true (show spec x by unfold spec; omega)]
      by_cases h3 : x = 38
      · rw [bq h1, iteB_f, bq h2, iteB_f, bqt h3, iteB_t, decide_eq_true (show spec x by unfold spec; omega)]
      by_cases h4 : x = 34
      · rw [bq h1, iteB_f, bq h2, iteB_f, bq h3, iteB_f, bqt h4, iteB_t, decide_eq_true (show spec x by unfold spec; omega)]
      rw [bq h1, iteB_f, bq h2, iteB_f, bq h3, iteB_f, bq h4, iteB_f]
      have key : (x == 239) = decide (spec x) ∨ (x < 32 ∧ x ≠ 9 ∧ x ≠ 10) := by
        by_cases hc : x < 32 ∧ x ≠ 9 ∧ x ≠ 10
        · exact .inr hc
        · refine .inl (bs_bool ?_)
          rw [beq_iff_eq]; unfold spec; omega
      by_cases h5 : x < 32
      · rw [decide_eq_true h5, iteB_t]
        by_cases h6 : x = 9
        · rw [show (x != 9) = false by rw [h6]; rfl, iteB_f]
          rcases key with k | k
          · rw [k]
          · omega
        · rw [show (x != 9) = true by rw [bne, bq h6]; rfl, iteB_t]
          by_cases h7 : x = 10
          · rw [show (x != 10) = false by rw [h7]; rfl, iteB_f]
            rcases key with k | k
            · rw [k]
            · omega
          · rw [show (x != 10) = true by rw [bne, bq h7]; rfl, iteB_t, decide_eq_true (show spec x by unfold spec; omega)]
      · rw [decide_eq_false h5, iteB_f]
        rcases key with k | k
        · rw [k]
        · omega
theorem plain_amp : Ev (fun n => F12 n [38]) [38, 97, 109, 112, 59] := by
  have h := ev_Escape [38] (by decide)
  have e : (escU (chs [38])).map toB = [38, 97, 109, 112, 59] := by
    have e1 : chs [38] = [38] := by
      have h1 : ints [38] = flatU [38] := by decide
      unfold chs
      rw [h1]
      exact (chars_flat [38] (by decide)).1
    rw [e1]; decide
  rwa [e] at h
theorem plain_ok (s e : List UInt8) (sp : Bool) (he : e.length ≤ 24000) (hw : wellU (ints e)) (hok : ∀ x ∈ ints e, ¬ badS x) (hsp : sp = false → e = s) :
    ∀ (d i : Nat), i + d = e.length → Ev (fun n => F3_L3 n s e sp (i : Int)) true := by
  intro d
  induction d with
  | zero =>
    intro i hd
    obtain ⟨N1, e1⟩ := ev_Right e (by omega)
    obtain ⟨N2, e2⟩ := plain_amp
    refine Ev.step ⟨N1 + N2, fun n hn => ?_⟩
    have q1 := e1 n (by omega)
    have q2 := e2 n (by omega)
    dsimp only at q1 q2
    show F3_L3 (n + 1) s e sp (i : Int) = _
    rw [F3_L3, decide_eq_false (by omega), iteB_f, q1, bind_some', decide_eq_true (count_ge.2 hw), iteB_t]
    cases sp with
    | true => rw [iteB_t, q2]; rfl
    | false => rw [iteB_f, hsp rfl, beq_self_eq_true, iteB_t, q2]; rfl
  | succ d ih =>
    intro i hd
    have hw64 := g64 i (by omega)
    have hlt : (i : Int) < (e.length : Int) := by omega
    have hx : bt e i ∈ ints e := by
      have h := drop_bt e i (by omega)
      have : bt e i ∈ (ints e).drop i := by rw [h]; simp
      exact List.mem_of_mem_drop this
    have hn := hok _ hx
    refine Ev.step ((ih (i + 1) (by omega)).congr fun n => ?_)
    rw [F3_L3, decide_eq_true hlt, iteB_t, hw64]
    simp only [grd_t _ (show 0 ≤ (i : Int) ∧ (i : Int) < (e.length : Int) from ⟨by omega, hlt⟩), toNat_nat]
    show iteB (bt e i == 60) _ (iteB (bt e i == 62) _ (iteB (bt e i == 34) _ (iteB (decide (bt e i < 32)) (iteB (bt e i != 9) (iteB (bt e i != 10) _ _) _) _))) = _
    generalize bt e i = x at hn
    unfold badS at hn
    rw [bq (show ¬ x = 60 by omega), iteB_f, bq (show ¬ x = 62 by omega), iteB_f, bq (show ¬ x = 34 by omega), iteB_f]
    by_cases h5 : x < 32
    · rw [decide_eq_true h5, iteB_t]
      by_cases h6 : x = 9
      · rw [show (x != 9) = false by rw [h6]; rfl, iteB_f]
      · rw [show (x != 9) = true by rw [bne, bq h6]; rfl, iteB_t, show (x != 10) = false by rw [show x = 10 by omega]; rfl, iteB_f]
    · rw [decide_eq_false h5, iteB_f]
theorem plain_main (s : List UInt8) (hs : s.length ≤ 1000) : Ev (fun n => F3_J1 n s) true := by
  have hl := chs_len s
  have hel := escU_len (chs s)
  have hei : ints ((escU (chs s)).map toB) = escU (chs s) := ints_toB (escU_bytes _)
  have h3 : ∀ sp, (sp = false → (escU (chs s)).map toB = s) → Ev (fun n => F3_L3 n s ((escU (chs s)).map toB) sp 0) true := fun sp h =>
    plain_ok s _ sp (by rw [List.length_map]; omega) (by rw [hei]; exact escU_well (chs_right s)) (by rw [hei]; exact escU_ok (chs_right s)) h ((escU (chs s)).map toB).length 0 (by omega)
  obtain ⟨N1, e1⟩ := ev_Escape s (by omega)
  obtain ⟨N2, e2⟩ := ev_Right s (by omega)
  have h2 : Ev (fun n => F3_L2 n s ((escU (chs s)).map toB) (!decide ((0 : Int) ≤ countU 0 (ints s))) ((0 : Nat) : Int)) true := by
    refine plain_spec s _ hs h3 s.length 0 _ (by omega) fun g1 g2 => ?_
    have hw : wellU (ints s) := count_ge.1 (of_decide_eq_true (by simpa using g1))
    have hf : flatU (chs s) = ints s := (well_iff (ints_bytes s)).1 hw
    rw [List.drop_zero] at g2
    have hn : ∀ x ∈ flatU (chs s), ¬ spec x := by
      intro x hx hsx
      rw [hf] at hx
      have := List.any_eq_false.1 g2 x hx
      rw [decide_eq_true hsx] at this
      exact this rfl
    rw [escU_same (chs_right s) hn, hf]
    exact (of_ints rfl).symm
  obtain ⟨N3, e3⟩ := h2
  refine ⟨N1 + N2 + N3, fun n hn => ?_⟩
  have q1 := e1 n (by omega)
  have q2 := e2 n (by omega)
  have q3 := e3 n (by omega)
  dsimp only at q1 q2 q3
  show F3_J1 n s = _
  rw [F3_J1, q1, bind_some', q2, bind_some']
  exact q3
theorem plain_law (s : List UInt8) : Ev (fun n => F3 n s) true := by
  by_cases h : 1000 < s.length
  · refine (plain_main (s.take 1000) (by rw [List.length_take]; omega)).congr fun n => ?_
    rw [F3, decide_eq_true (by omega), iteB_t, grd_t _ (by omega)]
  · refine (plain_main s (by omega)).congr fun n => ?_
    rw [F3, decide_eq_false (by omega), iteB_f]
end Go.Proofs.YtbamlphgolldlaaX

/- XmloutPlain, as its row asks it. -/
set_option linter.unusedVariables false
set_option linter.unusedSimpArgs false
namespace Go.Proofs.YtbamlphgolldlaaX
open Go

theorem law_main (v0 : List UInt8) (h0 : okT9 v0) : ∃ n, F3 n v0 = some true := by
  obtain ⟨N, h⟩ := plain_law v0
  exact ⟨N, h N (Nat.le_refl _)⟩
end Go.Proofs.YtbamlphgolldlaaX

set_option linter.unusedVariables false
namespace Go.Proofs.YtbamlphgolldlaaX
open Go Go.RowKit Go.Proofs
set_option maxRecDepth 100000
theorem shapedRow (xs : List T) (h : ShapesW Try.prog [9] xs) : FnC Try.prog 3 xs (tb true) := shapedXmloutPlain law_main xs h
end Go.Proofs.YtbamlphgolldlaaX
namespace Go.Proofs.Ytbamlphgolldlaa.xmloutPlain
open Go.ChangeShapes Go.WideShapes Go.ChangeAt Go.RowKit
set_option linter.unusedVariables false
theorem own : ownKnob Try.prog.godebug = none := by kernel_rfl
set_option maxRecDepth 100000 in
theorem lifted (os : Os) (started : os.Started) (H : Type) (enc : TypeId × Value → H) :
    ReturnsInHanded {} Try.checked os 3 .any (Rows.xmloutPlainSpec.pre6 enc Try.prog Try.f3 Rows.xmloutPlainRow.domain false) (Rows.xmloutPlainSpec.post enc Try.prog Try.f3 false true false false) := by
  refine returnsInHanded_of_change_sized (C := Try.checked) own started (by kernel_rfl) Try.func3
    (ChangeSpec.witness6 (enc := enc) (C := Try.checked) false ⟨#[], #[.string ByteArray.empty], []⟩ 8 (by kernel_rfl) (by kernel_rfl) (by kernel_rfl) (by kernel_rfl)) ?_
  intro W base args ds gs before hval0 hW hcnd hsz0 _
  exact YtbamlphgolldlaaX.row_contract (P := Try.prog) (fn := Try.f3) (s := Rows.xmloutPlainSpec) (ts := [9]) (tb := 4) (L := [9]) (by kernel_rfl) (by kernel_rfl) (by kernel_rfl) (by kernel_rfl) (by kernel_rfl) (by kernel_rfl) rfl
    (fun H ds h => by
      match ds, h with
      | [d0], _ => rfl) YtbamlphgolldlaaX.shapedRow W base args ds gs before hval0 hW
theorem over : Rows.xmloutPlainRow.holds Try.pinned (OpenSpec.ofChange Rows.xmloutPlainSpec) :=
  OpenClaim.holds_of_wide 3 Try.f3 rfl rfl rfl rfl rfl rfl rfl ⟨rfl, rfl, rfl, rfl, rfl⟩ rfl rfl rfl rfl rfl (by kernel_rfl) Try.func3 (by kernel_rfl)
    (of_decide_eq_true (by kernel_rfl)) (by unfold Func.isWrapper; first | (rw [if_pos (by decide +kernel)]; kernel_rfl) | (rw [if_neg (by decide +kernel)]; exact ⟨rfl, rfl⟩))
    (fun os started H enc _ => lifted os started H enc)
theorem proved : Rows.XmloutPlainSaid := over
#print axioms proved
end Go.Proofs.Ytbamlphgolldlaa.xmloutPlain
namespace Go.Proofs.Ytbamlphgolldlaa
/-- The row, under a short name, for the claim. -/
theorem xmloutPlain_holds : Rows.XmloutPlainSaid := xmloutPlain.proved
end Go.Proofs.Ytbamlphgolldlaa
