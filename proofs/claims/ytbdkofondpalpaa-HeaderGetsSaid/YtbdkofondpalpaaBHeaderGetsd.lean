/- Part of the proof of HeaderGets: walks and plain words, merged. -/
import Derived.Test.YtbdkofondpalpaaBHeaderGetsc
import Derived.Test.YtbdkofondpalpaaBHeaderGetsb
import Derived.Lib.Join
import Derived.Test.YtbdkofondpalpaaRows
import Derived.Test.YtbdkofondpalpaaChecked
import Derived.WalkKit
import Derived.ProofKit
import Derived.OpenShut
set_option linter.unusedVariables false
set_option linter.unusedSimpArgs false

set_option linter.unusedVariables false
set_option linter.unusedSimpArgs false
namespace Go.Proofs.YtbdkofondpalpaaX
open Go Go.RowKit Go.Proofs
set_option maxRecDepth 100000
attribute [local go_sem ↓] stepsK_build stepsK_build0 stepsK_bs stepsK_bs0 appendS
attribute [local go_sem] String.reduceEq String.reduceNe reduceCtorEq Int.reduceEq Nat.reduceAdd Nat.reduceSub Nat.reduceMul Nat.reduceLT Nat.reduceLeDiff Nat.reduceEqDiff Nat.reduceBEq Int.reduceToNat Int.reduceLT Int.reduceLE Int.reduceGT Int.reduceGE Int.reduceAdd Int.reduceSub Int.reduceMul Int.reduceNeg Int.reduceBEq Int.reduceBNe Int.reducePow Int.reduceDiv Int.reduceMod Int.reduceTDiv Int.reduceTMod Int.reduceNatCast
/-! ### shadowboxref30.blank -/
def F27 (n : Nat) (a0 : Int) : Option (Bool) := iteB (a0 == (32 : Int)) (some true) (some (a0 == (9 : Int)))
set_option maxHeartbeats 4000000 in
theorem F27_ok : ∀ (n : Nat) (a0 : Int) (r : Bool), F27 n a0 = some r → FnC Try.prog 27 [.imm (.int .u8 a0)] (.imm (.bool r))
  | n, a0, r, h => by
    unfold F27 at h
    refine FnC.goX mixed Try.func27 (by kernel_rfl) rfl ?_
    simp only [Try.ntmps27, List.length_cons, List.length_nil, List.replicate, List.cons_append, List.nil_append, Nat.reduceAdd, Nat.reduceSub]
    refine runX_seq ?_
    refine runX_regionC fun C hC => ?_
    try simp -implicitDefEqProofs (maxSteps := 4000000) (disch := first | omega | decide | (simp only [go_sem]; omega)) only [go_sem, ↓reduceIte]
    repeat (with_reducible refine And.intro (by first | assumption | omega | (simp; done) | (simp; omega)) ?_)
    refine toEnd hC ?_
    refine endX_seq ?_
    refine runX_seq ?_
    refine runX_regionC fun C hC => ?_
    try simp -implicitDefEqProofs (maxSteps := 4000000) (disch := first | omega | decide | (simp only [go_sem]; omega)) only [go_sem, ↓reduceIte]
    repeat (with_reducible refine And.intro (by first | assumption | omega | (simp; done) | (simp; omega)) ?_)
    rcases iteB_some h with ⟨c1, h⟩ | ⟨c1, h⟩
    · refine guardK_F c1 ?_
      try simp -implicitDefEqProofs (maxSteps := 4000000) (disch := first | omega | decide | (simp only [go_sem]; omega)) only [go_sem, ↓reduceIte]
      repeat (with_reducible refine And.intro (by first | assumption | omega | (simp; done) | (simp; omega)) ?_)
      refine toEnd hC ?_
      refine endX_seq ?_
      refine runX_ret ?_
      refine endX_q ?_
      obtain rfl := Option.some.inj h
      show RetW _ _ _ _ _
      simp only [RetW]
      (try simp -implicitDefEqProofs (maxSteps := 4000000) (disch := first | omega | decide | (simp only [go_sem]; omega)) only [go_sem, ↓reduceIte])
      (try simp (disch := omega) only [if_pos, Nat.sub_zero])
      exact leT_refl _
    · refine guardK_T c1 ?_
      try simp -implicitDefEqProofs (maxSteps := 4000000) (disch := first | omega | decide | (simp only [go_sem]; omega)) only [go_sem, ↓reduceIte]
      repeat (with_reducible refine And.intro (by first | assumption | omega | (simp; done) | (simp; omega)) ?_)
      refine toEnd hC ?_
      refine endX_seq ?_
      refine runX_ret ?_
      refine endX_q ?_
      obtain rfl := Option.some.inj h
      show RetW _ _ _ _ _
      simp only [RetW]
      (try simp -implicitDefEqProofs (maxSteps := 4000000) (disch := first | omega | decide | (simp only [go_sem]; omega)) only [go_sem, ↓reduceIte])
      (try simp (disch := omega) only [if_pos, Nat.sub_zero])
      exact leT_refl _
end Go.Proofs.YtbdkofondpalpaaX

set_option linter.unusedVariables false
set_option linter.unusedSimpArgs false
namespace Go.Proofs.YtbdkofondpalpaaX
open Go Go.RowKit Go.Proofs
set_option maxRecDepth 100000
attribute [local go_sem ↓] stepsK_build stepsK_build0 stepsK_bs stepsK_bs0 appendS
attribute [local go_sem] String.reduceEq String.reduceNe reduceCtorEq Int.reduceEq Nat.reduceAdd Nat.reduceSub Nat.reduceMul Nat.reduceLT Nat.reduceLeDiff Nat.reduceEqDiff Nat.reduceBEq Int.reduceToNat Int.reduceLT Int.reduceLE Int.reduceGT Int.reduceGE Int.reduceAdd Int.reduceSub Int.reduceMul Int.reduceNeg Int.reduceBEq Int.reduceBNe Int.reducePow Int.reduceDiv Int.reduceMod Int.reduceTDiv Int.reduceTMod Int.reduceNatCast
/-! ### shadowboxref30.trim -/
def F26_S2 (x7 : List UInt8) : St := ⟨[.imm (.string (bs x7)), .junk, .junk, .junk, .junk, .junk, .junk, .junk, .junk, .junk, .junk, .junk, .junk, .junk, .junk, .junk, .junk, .junk, .junk, .junk, .junk, .junk, .junk, .junk, .junk, .junk, .junk, .junk, .junk, .junk], []⟩
def F26_S3 (x13 : List UInt8) : St := ⟨[.imm (.string (bs x13)), .junk, .junk, .junk, .junk, .junk, .junk, .junk, .junk, .junk, .junk, .junk, .junk, .junk, .junk, .junk, .junk, .junk, .junk, .junk, .junk, .junk, .junk, .junk, .junk, .junk, .junk, .junk, .junk, .junk], []⟩
def F26_S1 (x1 : List UInt8) : St := ⟨[.imm (.string (bs x1)), .junk, .junk, .junk, .junk, .junk, .junk, .junk, .junk, .junk, .junk, .junk, .junk, .junk, .junk, .junk, .junk, .junk, .junk, .junk, .junk, .junk, .junk, .junk, .junk, .junk, .junk, .junk, .junk, .junk], []⟩
mutual
def F26_L2 : Nat → (List UInt8) → Option (List UInt8)
  | 0, _ => none
  | m2 + 1, x7 => iteB (decide ((0 : Int) < (x7.length : Int))) (grd (0 ≤ (IntKind.wrap .i64 ((x7.length : Int) - (1 : Int))) ∧ (IntKind.wrap .i64 ((x7.length : Int) - (1 : Int))) < (x7.length : Int)) ((F27 m2 ((x7.getD (IntKind.wrap .i64 ((x7.length : Int) - (1 : Int))).toNat 0).toNat : Int)).bind fun v10 => iteB v10 (grd (0 ≤ (IntKind.wrap .i64 ((x7.length : Int) - (1 : Int))) ∧ (IntKind.wrap .i64 ((x7.length : Int) - (1 : Int))) ≤ (x7.length : Int)) (F26_L2 m2 (x7.take (IntKind.wrap .i64 ((x7.length : Int) - (1 : Int))).toNat))) (some x7))) (some x7)
def F26_L3 : Nat → (List UInt8) → Option (List UInt8)
  | 0, _ => none
  | m3 + 1, x13 => iteB (decide ((0 : Int) < (x13.length : Int))) (grd (0 ≤ (IntKind.wrap .i64 ((x13.length : Int) - (1 : Int))) ∧ (IntKind.wrap .i64 ((x13.length : Int) - (1 : Int))) < (x13.length : Int)) ((F27 m3 ((x13.getD (IntKind.wrap .i64 ((x13.length : Int) - (1 : Int))).toNat 0).toNat : Int)).bind fun v16 => iteB v16 (grd (0 ≤ (IntKind.wrap .i64 ((x13.length : Int) - (1 : Int))) ∧ (IntKind.wrap .i64 ((x13.length : Int) - (1 : Int))) ≤ (x13.length : Int)) (F26_L3 m3 (x13.take (IntKind.wrap .i64 ((x13.length : Int) - (1 : Int))).toNat))) (some x13))) (some x13)
def F26_L1 : Nat → (List UInt8) → Option (List UInt8)
  | 0, _ => none
  | m1 + 1, x1 => iteB (decide ((0 : Int) < (x1.length : Int))) (grd ((0 : Int) < (x1.length : Int)) ((F27 m1 ((x1.getD (0 : Int).toNat 0).toNat : Int)).bind fun v4 => iteB v4 (grd ((1 : Int) ≤ (x1.length : Int)) (F26_L1 m1 (x1.drop 1))) (F26_L2 m1 x1))) (F26_L3 m1 x1)
end
def F26 (n : Nat) (a0 : List UInt8) : Option (List UInt8) := F26_L1 n a0
set_option maxHeartbeats 4000000 in
theorem F26_ok : ∀ (n : Nat) (a0 : List UInt8) (r : List UInt8), F26 n a0 = some r → FnC Try.prog 26 [.imm (.string (bs a0))] (.imm (.string (bs r)))
  | n, a0, r, h => by
    unfold F26 at h
    refine FnC.goX mixed Try.func26 (by kernel_rfl) rfl ?_
    simp only [Try.ntmps26, List.length_cons, List.length_nil, List.replicate, List.cons_append, List.nil_append, Nat.reduceAdd, Nat.reduceSub]
    refine runX_seq ?_
    refine runX_regionC fun C hC => ?_
    try simp -implicitDefEqProofs (maxSteps := 4000000) (disch := first | omega | decide | (simp only [go_sem]; omega)) only [go_sem, ↓reduceIte]
    repeat (with_reducible refine And.intro (by first | assumption | omega | (simp; done) | (simp; omega)) ?_)
    refine toEnd hC ?_
    refine endX_seq ?_
    refine runX_seq ?_
    refine runX_block ?_
    refine runX_loop [0] (fun m S => ∃ (x1 : List UInt8), S = F26_S1 x1 ∧ m ≤ n ∧ F26_L1 m x1 = some r) n ⟨F26_S1 a0, ?_, a0, rfl, Nat.le_refl _, h⟩ ?_
    · simp only [F26_S1]
      (try simp -implicitDefEqProofs (maxSteps := 4000000) (disch := first | omega | decide | (simp only [go_sem]; omega)) only [go_sem, ↓reduceIte])
      first | exact leS_refl _ | (refine leS_le ?_ ?_ <;> first | exact leL_refl _ | exact leOs_refl _ | (repeat (first | exact leL_refl _ | refine leL_cons (by first | exact leT_refl _ | exact leT_virt | exact leT_junk _ | exact leT_sl | exact leT_sln | exact leT_nil) ?_)))
    · clear h
      rintro m1 S ⟨x1, rfl, hm1, h⟩
      cases m1 with
      | zero => first | cases (show (none : Option _) = some _ from h) | (rw [F26_L1] at h; cases h)
      | succ m1 =>
        rw [F26_L1] at h
        simp only [F26_S1]
        refine runX_seq ?_
        refine runX_seq ?_
        refine runX_regionC fun C hC => ?_
        try simp -implicitDefEqProofs (maxSteps := 4000000) (disch := first | omega | decide | (simp only [go_sem]; omega)) only [go_sem, ↓reduceIte]
        repeat (with_reducible refine And.intro (by first | assumption | omega | (simp; done) | (simp; omega)) ?_)
        rcases iteB_some h with ⟨c2, h⟩ | ⟨c2, h⟩
        · refine guardK_T c2 ?_
          obtain ⟨g3, h⟩ := grd_some h
          obtain ⟨v4, h4, h⟩ := bnd_some h
          try simp -implicitDefEqProofs (maxSteps := 4000000) (disch := first | omega | decide | (simp only [go_sem]; omega)) only [go_sem, ↓reduceIte]
          repeat (with_reducible refine And.intro (by first | assumption | omega | (simp; done) | (simp; omega)) ?_)
          refine callG_X (by first | rfl | (simp only [go_sem]; done) | (simp only [closedL, closedT, Bool.and_true]; exact closedL_map _ (fun _ => by first | rfl | (simp only [go_sem]; done)) _)) (F27_ok m1 ((x1.getD (0 : Int).toNat 0).toNat : Int) _ h4) (by repeat (first | exact leL_refl _ | refine leL_cons (by first | exact leT_refl _ | exact leT_virt | exact leT_junk _ | exact leT_sl | exact leT_sln | exact leT_nil) ?_)) ?_
          try simp -implicitDefEqProofs (maxSteps := 4000000) (disch := first | omega | decide | (simp only [go_sem]; omega)) only [go_sem, ↓reduceIte]
          repeat (with_reducible refine And.intro (by first | assumption | omega | (simp; done) | (simp; omega)) ?_)
          refine toEnd hC ?_
          refine endX_seq ?_
          rcases iteB_some h with ⟨c5, h⟩ | ⟨c5, h⟩
          · refine runX_condT rfl c5 ?_
            refine runX_skip ?_
            refine endX_seq ?_
            refine runX_block ?_
            refine runX_regionC fun C hC => ?_
            obtain ⟨g6, h⟩ := grd_some h
            try simp -implicitDefEqProofs (maxSteps := 4000000) (disch := first | omega | decide | (simp only [go_sem]; omega)) only [go_sem, ↓reduceIte]
            repeat (with_reducible refine And.intro (by first | assumption | omega | (simp; done) | (simp; omega)) ?_)
            refine toEnd hC ?_
            refine endX_blk ?_
            refine endX_q (roundQ_normal ⟨m1, by omega, F26_S1 (x1.drop 1), ?_, (x1.drop 1), rfl, by omega, h⟩)
            simp only [F26_S1]
            (try simp -implicitDefEqProofs (maxSteps := 4000000) (disch := first | omega | decide | (simp only [go_sem]; omega)) only [go_sem, ↓reduceIte])
            first | exact leS_refl _ | (refine leS_le ?_ ?_ <;> first | exact leL_refl _ | exact leOs_refl _ | (repeat (first | exact leL_refl _ | refine leL_cons (by first | exact leT_refl _ | exact leT_virt | exact leT_junk _ | exact leT_sl | exact leT_sln | exact leT_nil) ?_)))
          · refine runX_condF rfl c5 ?_
            refine runX_exit ?_
            refine endX_seqE ?_
            refine endX_q (roundQ_exit ?_)
            refine endX_blkE ?_
            refine endX_seq ?_
            refine runX_seq ?_
            refine runX_block ?_
            refine runX_loop [0] (fun m S => ∃ (x7 : List UInt8), S = F26_S2 x7 ∧ m ≤ m1 ∧ F26_L2 m x7 = some r) m1 ⟨F26_S2 x1, ?_, x1, rfl, Nat.le_refl _, h⟩ ?_
            · simp only [F26_S2]
              (try simp -implicitDefEqProofs (maxSteps := 4000000) (disch := first | omega | decide | (simp only [go_sem]; omega)) only [go_sem, ↓reduceIte])
              first | exact leS_refl _ | (refine leS_le ?_ ?_ <;> first | exact leL_refl _ | exact leOs_refl _ | (repeat (first | exact leL_refl _ | refine leL_cons (by first | exact leT_refl _ | exact leT_virt | exact leT_junk _ | exact leT_sl | exact leT_sln | exact leT_nil) ?_)))
            · clear h
              rintro m2 S ⟨x7, rfl, hm2, h⟩
              cases m2 with
              | zero => first | cases (show (none : Option _) = some _ from h) | (rw [F26_L2] at h; cases h)
              | succ m2 =>
                rw [F26_L2] at h
                simp only [F26_S2]
                refine runX_seq ?_
                refine runX_seq ?_
                refine runX_regionC fun C hC => ?_
                try simp -implicitDefEqProofs (maxSteps := 4000000) (disch := first | omega | decide | (simp only [go_sem]; omega)) only [go_sem, ↓reduceIte]
                repeat (with_reducible refine And.intro (by first | assumption | omega | (simp; done) | (simp; omega)) ?_)
                rcases iteB_some h with ⟨c8, h⟩ | ⟨c8, h⟩
                · refine guardK_T c8 ?_
                  obtain ⟨g9, h⟩ := grd_some h
                  obtain ⟨v10, h10, h⟩ := bnd_some h
                  try simp -implicitDefEqProofs (maxSteps := 4000000) (disch := first | omega | decide | (simp only [go_sem]; omega)) only [go_sem, ↓reduceIte]
                  repeat (with_reducible refine And.intro (by first | assumption | omega | (simp; done) | (simp; omega)) ?_)
                  refine callG_X (by first | rfl | (simp only [go_sem]; done) | (simp only [closedL, closedT, Bool.and_true]; exact closedL_map _ (fun _ => by first | rfl | (simp only [go_sem]; done)) _)) (F27_ok m2 ((x7.getD (IntKind.wrap .i64 ((x7.length : Int) - (1 : Int))).toNat 0).toNat : Int) _ h10) (by repeat (first | exact leL_refl _ | refine leL_cons (by first | exact leT_refl _ | exact leT_virt | exact leT_junk _ | exact leT_sl | exact leT_sln | exact leT_nil) ?_)) ?_
                  try simp -implicitDefEqProofs (maxSteps := 4000000) (disch := first | omega | decide | (simp only [go_sem]; omega)) only [go_sem, ↓reduceIte]
                  repeat (with_reducible refine And.intro (by first | assumption | omega | (simp; done) | (simp; omega)) ?_)
                  refine toEnd hC ?_
                  refine endX_seq ?_
                  rcases iteB_some h with ⟨c11, h⟩ | ⟨c11, h⟩
                  · refine runX_condT rfl c11 ?_
                    refine runX_skip ?_
                    refine endX_seq ?_
                    refine runX_block ?_
                    refine runX_regionC fun C hC => ?_
                    obtain ⟨g12, h⟩ := grd_some h
                    try simp -implicitDefEqProofs (maxSteps := 4000000) (disch := first | omega | decide | (simp only [go_sem]; omega)) only [go_sem, ↓reduceIte]
                    repeat (with_reducible refine And.intro (by first | assumption | omega | (simp; done) | (simp; omega)) ?_)
                    refine toEnd hC ?_
                    refine endX_blk ?_
                    refine endX_q (roundQ_normal ⟨m2, by omega, F26_S2 (x7.take (IntKind.wrap .i64 ((x7.length : Int) - (1 : Int))).toNat), ?_, (x7.take (IntKind.wrap .i64 ((x7.length : Int) - (1 : Int))).toNat), rfl, by omega, h⟩)
                    simp only [F26_S2]
                    (try simp -implicitDefEqProofs (maxSteps := 4000000) (disch := first | omega | decide | (simp only [go_sem]; omega)) only [go_sem, ↓reduceIte])
                    first | exact leS_refl _ | (refine leS_le ?_ ?_ <;> first | exact leL_refl _ | exact leOs_refl _ | (repeat (first | exact leL_refl _ | refine leL_cons (by first | exact leT_refl _ | exact leT_virt | exact leT_junk _ | exact leT_sl | exact leT_sln | exact leT_nil) ?_)))
                  · refine runX_condF rfl c11 ?_
                    refine runX_exit ?_
                    refine endX_seqE ?_
                    refine endX_q (roundQ_exit ?_)
                    refine endX_blkE ?_
                    refine endX_seq ?_
                    refine runX_seq ?_
                    refine runX_regionC fun C hC => ?_
                    try simp -implicitDefEqProofs (maxSteps := 4000000) (disch := first | omega | decide | (simp only [go_sem]; omega)) only [go_sem, ↓reduceIte]
                    repeat (with_reducible refine And.intro (by first | assumption | omega | (simp; done) | (simp; omega)) ?_)
                    refine toEnd hC ?_
                    refine endX_seq ?_
                    refine runX_ret ?_
                    refine endX_q ?_
                    obtain rfl := Option.some.inj h
                    show RetW _ _ _ _ _
                    simp only [RetW]
                    (try simp -implicitDefEqProofs (maxSteps := 4000000) (disch := first | omega | decide | (simp only [go_sem]; omega)) only [go_sem, ↓reduceIte])
                    (try simp (disch := omega) only [if_pos, Nat.sub_zero])
                    exact leT_refl _
                · refine guardK_F c8 ?_
                  try simp -implicitDefEqProofs (maxSteps := 4000000) (disch := first | omega | decide | (simp only [go_sem]; omega)) only [go_sem, ↓reduceIte]
                  repeat (with_reducible refine And.intro (by first | assumption | omega | (simp; done) | (simp; omega)) ?_)
                  refine toEnd hC ?_
                  refine endX_seq ?_
                  refine runX_condF rfl rfl ?_
                  refine runX_exit ?_
                  refine endX_seqE ?_
                  refine endX_q (roundQ_exit ?_)
                  refine endX_blkE ?_
                  refine endX_seq ?_
                  refine runX_seq ?_
                  refine runX_regionC fun C hC => ?_
                  try simp -implicitDefEqProofs (maxSteps := 4000000) (disch := first | omega | decide | (simp only [go_sem]; omega)) only [go_sem, ↓reduceIte]
                  repeat (with_reducible refine And.intro (by first | assumption | omega | (simp; done) | (simp; omega)) ?_)
                  refine toEnd hC ?_
                  refine endX_seq ?_
                  refine runX_ret ?_
                  refine endX_q ?_
                  obtain rfl := Option.some.inj h
                  show RetW _ _ _ _ _
                  simp only [RetW]
                  (try simp -implicitDefEqProofs (maxSteps := 4000000) (disch := first | omega | decide | (simp only [go_sem]; omega)) only [go_sem, ↓reduceIte])
                  (try simp (disch := omega) only [if_pos, Nat.sub_zero])
                  exact leT_refl _
        · refine guardK_F c2 ?_
          try simp -implicitDefEqProofs (maxSteps := 4000000) (disch := first | omega | decide | (simp only [go_sem]; omega)) only [go_sem, ↓reduceIte]
          repeat (with_reducible refine And.intro (by first | assumption | omega | (simp; done) | (simp; omega)) ?_)
          refine toEnd hC ?_
          refine endX_seq ?_
          refine runX_condF rfl rfl ?_
          refine runX_exit ?_
          refine endX_seqE ?_
          refine endX_q (roundQ_exit ?_)
          refine endX_blkE ?_
          refine endX_seq ?_
          refine runX_seq ?_
          refine runX_block ?_
          refine runX_loop [0] (fun m S => ∃ (x13 : List UInt8), S = F26_S3 x13 ∧ m ≤ m1 ∧ F26_L3 m x13 = some r) m1 ⟨F26_S3 x1, ?_, x1, rfl, Nat.le_refl _, h⟩ ?_
          · simp only [F26_S3]
            (try simp -implicitDefEqProofs (maxSteps := 4000000) (disch := first | omega | decide | (simp only [go_sem]; omega)) only [go_sem, ↓reduceIte])
            first | exact leS_refl _ | (refine leS_le ?_ ?_ <;> first | exact leL_refl _ | exact leOs_refl _ | (repeat (first | exact leL_refl _ | refine leL_cons (by first | exact leT_refl _ | exact leT_virt | exact leT_junk _ | exact leT_sl | exact leT_sln | exact leT_nil) ?_)))
          · clear h
            rintro m3 S ⟨x13, rfl, hm3, h⟩
            cases m3 with
            | zero => first | cases (show (none : Option _) = some _ from h) | (rw [F26_L3] at h; cases h)
            | succ m3 =>
              rw [F26_L3] at h
              simp only [F26_S3]
              refine runX_seq ?_
              refine runX_seq ?_
              refine runX_regionC fun C hC => ?_
              try simp -implicitDefEqProofs (maxSteps := 4000000) (disch := first | omega | decide | (simp only [go_sem]; omega)) only [go_sem, ↓reduceIte]
              repeat (with_reducible refine And.intro (by first | assumption | omega | (simp; done) | (simp; omega)) ?_)
              rcases iteB_some h with ⟨c14, h⟩ | ⟨c14, h⟩
              · refine guardK_T c14 ?_
                obtain ⟨g15, h⟩ := grd_some h
                obtain ⟨v16, h16, h⟩ := bnd_some h
                try simp -implicitDefEqProofs (maxSteps := 4000000) (disch := first | omega | decide | (simp only [go_sem]; omega)) only [go_sem, ↓reduceIte]
                repeat (with_reducible refine And.intro (by first | assumption | omega | (simp; done) | (simp; omega)) ?_)
                refine callG_X (by first | rfl | (simp only [go_sem]; done) | (simp only [closedL, closedT, Bool.and_true]; exact closedL_map _ (fun _ => by first | rfl | (simp only [go_sem]; done)) _)) (F27_ok m3 ((x13.getD (IntKind.wrap .i64 ((x13.length : Int) - (1 : Int))).toNat 0).toNat : Int) _ h16) (by repeat (first | exact leL_refl _ | refine leL_cons (by first | exact leT_refl _ | exact leT_virt | exact leT_junk _ | exact leT_sl | exact leT_sln | exact leT_nil) ?_)) ?_
                try simp -implicitDefEqProofs (maxSteps := 4000000) (disch := first | omega | decide | (simp only [go_sem]; omega)) only [go_sem, ↓reduceIte]
                repeat (with_reducible refine And.intro (by first | assumption | omega | (simp; done) | (simp; omega)) ?_)
                refine toEnd hC ?_
                refine endX_seq ?_
                rcases iteB_some h with ⟨c17, h⟩ | ⟨c17, h⟩
                · refine runX_condT rfl c17 ?_
                  refine runX_skip ?_
                  refine endX_seq ?_
                  refine runX_block ?_
                  refine runX_regionC fun C hC => ?_
                  obtain ⟨g18, h⟩ := grd_some h
                  try simp -implicitDefEqProofs (maxSteps := 4000000) (disch := first | omega | decide | (simp only [go_sem]; omega)) only [go_sem, ↓reduceIte]
                  repeat (with_reducible refine And.intro (by first | assumption | omega | (simp; done) | (simp; omega)) ?_)
                  refine toEnd hC ?_
                  refine endX_blk ?_
                  refine endX_q (roundQ_normal ⟨m3, by omega, F26_S3 (x13.take (IntKind.wrap .i64 ((x13.length : Int) - (1 : Int))).toNat), ?_, (x13.take (IntKind.wrap .i64 ((x13.length : Int) - (1 : Int))).toNat), rfl, by omega, h⟩)
                  simp only [F26_S3]
                  (try simp -implicitDefEqProofs (maxSteps := 4000000) (disch := first | omega | decide | (simp only [go_sem]; omega)) only [go_sem, ↓reduceIte])
                  first | exact leS_refl _ | (refine leS_le ?_ ?_ <;> first | exact leL_refl _ | exact leOs_refl _ | (repeat (first | exact leL_refl _ | refine leL_cons (by first | exact leT_refl _ | exact leT_virt | exact leT_junk _ | exact leT_sl | exact leT_sln | exact leT_nil) ?_)))
                · refine runX_condF rfl c17 ?_
                  refine runX_exit ?_
                  refine endX_seqE ?_
                  refine endX_q (roundQ_exit ?_)
                  refine endX_blkE ?_
                  refine endX_seq ?_
                  refine runX_seq ?_
                  refine runX_regionC fun C hC => ?_
                  try simp -implicitDefEqProofs (maxSteps := 4000000) (disch := first | omega | decide | (simp only [go_sem]; omega)) only [go_sem, ↓reduceIte]
                  repeat (with_reducible refine And.intro (by first | assumption | omega | (simp; done) | (simp; omega)) ?_)
                  refine toEnd hC ?_
                  refine endX_seq ?_
                  refine runX_ret ?_
                  refine endX_q ?_
                  obtain rfl := Option.some.inj h
                  show RetW _ _ _ _ _
                  simp only [RetW]
                  (try simp -implicitDefEqProofs (maxSteps := 4000000) (disch := first | omega | decide | (simp only [go_sem]; omega)) only [go_sem, ↓reduceIte])
                  (try simp (disch := omega) only [if_pos, Nat.sub_zero])
                  exact leT_refl _
              · refine guardK_F c14 ?_
                try simp -implicitDefEqProofs (maxSteps := 4000000) (disch := first | omega | decide | (simp only [go_sem]; omega)) only [go_sem, ↓reduceIte]
                repeat (with_reducible refine And.intro (by first | assumption | omega | (simp; done) | (simp; omega)) ?_)
                refine toEnd hC ?_
                refine endX_seq ?_
                refine runX_condF rfl rfl ?_
                refine runX_exit ?_
                refine endX_seqE ?_
                refine endX_q (roundQ_exit ?_)
                refine endX_blkE ?_
                refine endX_seq ?_
                refine runX_seq ?_
                refine runX_regionC fun C hC => ?_
                try simp -implicitDefEqProofs (maxSteps := 4000000) (disch := first | omega | decide | (simp only [go_sem]; omega)) only [go_sem, ↓reduceIte]
                repeat (with_reducible refine And.intro (by first | assumption | omega | (simp; done) | (simp; omega)) ?_)
                refine toEnd hC ?_
                refine endX_seq ?_
                refine runX_ret ?_
                refine endX_q ?_
                obtain rfl := Option.some.inj h
                show RetW _ _ _ _ _
                simp only [RetW]
                (try simp -implicitDefEqProofs (maxSteps := 4000000) (disch := first | omega | decide | (simp only [go_sem]; omega)) only [go_sem, ↓reduceIte])
                (try simp (disch := omega) only [if_pos, Nat.sub_zero])
                exact leT_refl _
end Go.Proofs.YtbdkofondpalpaaX

set_option linter.unusedVariables false
set_option linter.unusedSimpArgs false
namespace Go.Proofs.YtbdkofondpalpaaX
open Go Go.RowKit Go.Proofs
set_option maxRecDepth 100000
attribute [local go_sem ↓] stepsK_build stepsK_build0 stepsK_bs stepsK_bs0 appendS
attribute [local go_sem] String.reduceEq String.reduceNe reduceCtorEq Int.reduceEq Nat.reduceAdd Nat.reduceSub Nat.reduceMul Nat.reduceLT Nat.reduceLeDiff Nat.reduceEqDiff Nat.reduceBEq Int.reduceToNat Int.reduceLT Int.reduceLE Int.reduceGT Int.reduceGE Int.reduceAdd Int.reduceSub Int.reduceMul Int.reduceNeg Int.reduceBEq Int.reduceBNe Int.reducePow Int.reduceDiv Int.reduceMod Int.reduceTDiv Int.reduceTMod Int.reduceNatCast
/-! ### shadowboxref30.Canon -/
def F10_S2 (a0 : List ((List UInt8) × (List UInt8))) (a1 : List (List UInt8)) (x2 : Int) (v7 : List UInt8) (x11 : List UInt8) (x12 : Int) : St := ⟨[.sl 2 false (List.map eT34 a0), .sl 1 false (List.map eS a1), .junk, .junk, .junk, .imm (.string (bs x11)), .imm (.int .i64 x2), .imm (.string (bs v7)), .junk, .imm (.int .i64 x12), .junk, .junk, .junk, .junk, .junk, .junk, .junk, .junk, .junk, .junk, .junk, .junk, .junk, .junk, .junk, .junk, .junk, .junk, .junk, .junk, .junk, .junk, .junk, .junk, .junk, .junk, .junk, .junk, .junk, .junk, .junk, .junk, .junk, .junk, .junk, .junk, .junk, .junk, .junk, .junk, .junk, .junk, .junk, .junk, .junk, .junk, .junk, .junk, .junk, .junk, .junk, .junk, .junk, .junk, .junk, .junk, .junk], []⟩
def F10_S1 (a0 : List ((List UInt8) × (List UInt8))) (a1 : List (List UInt8)) (x1 : List UInt8) (x2 : Int) : St := ⟨[.sl 2 false (List.map eT34 a0), .sl 1 false (List.map eS a1), .junk, .junk, .junk, .imm (.string (bs x1)), .imm (.int .i64 x2), .junk, .junk, .junk, .junk, .junk, .junk, .junk, .junk, .junk, .junk, .junk, .junk, .junk, .junk, .junk, .junk, .junk, .junk, .junk, .junk, .junk, .junk, .junk, .junk, .junk, .junk, .junk, .junk, .junk, .junk, .junk, .junk, .junk, .junk, .junk, .junk, .junk, .junk, .junk, .junk, .junk, .junk, .junk, .junk, .junk, .junk, .junk, .junk, .junk, .junk, .junk, .junk, .junk, .junk, .junk, .junk, .junk, .junk, .junk, .junk], []⟩
mutual
def F10_L2 : Nat → (List ((List UInt8) × (List UInt8))) → (List (List UInt8)) → (Int) → (List UInt8) → (List UInt8) → (Int) → Option (List UInt8)
  | 0, _, _, _, _, _, _ => none
  | m2 + 1, a0, a1, x2, v7, x11, x12 => iteB (decide (x12 < (v7.length : Int))) (grd (0 ≤ x12 ∧ x12 < (v7.length : Int)) ((F27 m2 ((v7.getD x12.toNat 0).toNat : Int)).bind fun v15 => iteB (!v15) (grd (0 ≤ x12 ∧ x12 ≤ (IntKind.wrap .i64 (x12 + (1 : Int))) ∧ (IntKind.wrap .i64 (x12 + (1 : Int))) ≤ (v7.length : Int)) (grd (x11.length + ((v7.take (IntKind.wrap .i64 (x12 + (1 : Int))).toNat).drop x12.toNat).length ≤ 9223372036854775807) (F10_L2 m2 a0 a1 x2 v7 (x11 ++ ((v7.take (IntKind.wrap .i64 (x12 + (1 : Int))).toNat).drop x12.toNat)) (IntKind.wrap .i64 (x12 + (1 : Int)))))) (grd (0 ≤ (IntKind.wrap .i64 (x12 - (1 : Int))) ∧ (IntKind.wrap .i64 (x12 - (1 : Int))) < (v7.length : Int)) ((F27 m2 ((v7.getD (IntKind.wrap .i64 (x12 - (1 : Int))).toNat 0).toNat : Int)).bind fun v20 => iteB (!v20) (grd (x11.length + 1 ≤ 9223372036854775807) (F10_L2 m2 a0 a1 x2 v7 (x11 ++ ([32] : List UInt8)) (IntKind.wrap .i64 (x12 + (1 : Int))))) (F10_L2 m2 a0 a1 x2 v7 x11 (IntKind.wrap .i64 (x12 + (1 : Int)))))))) (grd (x11.length + 1 ≤ 9223372036854775807) (F10_L1 m2 a0 a1 (x11 ++ ([10] : List UInt8)) (IntKind.wrap .i64 (x2 + (1 : Int)))))
def F10_L1 : Nat → (List ((List UInt8) × (List UInt8))) → (List (List UInt8)) → (List UInt8) → (Int) → Option (List UInt8)
  | 0, _, _, _, _ => none
  | m1 + 1, a0, a1, x1, x2 => iteB (decide (x2 < (a1.length : Int))) (iteB (decide (x2 < (32 : Int))) (grd (0 ≤ x2 ∧ x2 < (a1.length : Int)) ((F7 m1 a0 (a1.getD x2.toNat default)).bind fun v6 => (F26 m1 v6.1).bind fun v7 => grd (0 ≤ x2 ∧ x2 < (a1.length : Int)) (grd (x1.length + (a1.getD x2.toNat default).length ≤ 9223372036854775807) (grd ((x1.length + (a1.getD x2.toNat default).length) + 1 ≤ 9223372036854775807) (F10_L2 m1 a0 a1 x2 v7 ((x1 ++ (a1.getD x2.toNat default)) ++ ([58] : List UInt8)) (0 : Int)))))) (some x1)) (some x1)
end
def F10 (n : Nat) (a0 : List ((List UInt8) × (List UInt8))) (a1 : List (List UInt8)) : Option (List UInt8) := F10_L1 n a0 a1 [] (0 : Int)
set_option maxHeartbeats 4000000 in
theorem F10_ok : ∀ (n : Nat) (a0 : List ((List UInt8) × (List UInt8))) (a1 : List (List UInt8)) (r : List UInt8), F10 n a0 a1 = some r → FnC Try.prog 10 [.sl 2 false (List.map eT34 a0), .sl 1 false (List.map eS a1)] (.imm (.string (bs r)))
  | n, a0, a1, r, h => by
    unfold F10 at h
    refine FnC.goX mixed Try.func10 (by kernel_rfl) rfl ?_
    simp only [Try.ntmps10, List.length_cons, List.length_nil, List.replicate, List.cons_append, List.nil_append, Nat.reduceAdd, Nat.reduceSub]
    refine runX_seq ?_
    refine runX_regionC fun C hC => ?_
    try simp -implicitDefEqProofs (maxSteps := 4000000) (disch := first | omega | decide | (simp only [go_sem]; omega)) only [go_sem, ↓reduceIte]
    repeat (with_reducible refine And.intro (by first | assumption | omega | (simp; done) | (simp; omega)) ?_)
    refine toEnd hC ?_
    refine endX_seq ?_
    refine runX_seq ?_
    refine runX_regionC fun C hC => ?_
    try simp -implicitDefEqProofs (maxSteps := 4000000) (disch := first | omega | decide | (simp only [go_sem]; omega)) only [go_sem, ↓reduceIte]
    repeat (with_reducible refine And.intro (by first | assumption | omega | (simp; done) | (simp; omega)) ?_)
    refine toEnd hC ?_
    refine endX_seq ?_
    refine runX_seq ?_
    refine runX_seq ?_
    refine runX_regionC fun C hC => ?_
    try simp -implicitDefEqProofs (maxSteps := 4000000) (disch := first | omega | decide | (simp only [go_sem]; omega)) only [go_sem, ↓reduceIte]
    repeat (with_reducible refine And.intro (by first | assumption | omega | (simp; done) | (simp; omega)) ?_)
    refine toEnd hC ?_
    refine endX_seq ?_
    refine runX_block ?_
    refine runX_loop [0, 1, 5, 6] (fun m S => ∃ (x1 : List UInt8) (x2 : Int), S = F10_S1 a0 a1 x1 x2 ∧ m ≤ n ∧ F10_L1 m a0 a1 x1 x2 = some r) n ⟨F10_S1 a0 a1 [] (0 : Int), ?_, [], (0 : Int), rfl, Nat.le_refl _, h⟩ ?_
    · simp only [F10_S1]
      (try simp -implicitDefEqProofs (maxSteps := 4000000) (disch := first | omega | decide | (simp only [go_sem]; omega)) only [go_sem, ↓reduceIte])
      first | exact leS_refl _ | (refine leS_le ?_ ?_ <;> first | exact leL_refl _ | exact leOs_refl _ | (repeat (first | exact leL_refl _ | refine leL_cons (by first | exact leT_refl _ | exact leT_virt | exact leT_junk _ | exact leT_sl | exact leT_sln | exact leT_nil) ?_)))
    · clear h
      rintro m1 S ⟨x1, x2, rfl, hm1, h⟩
      cases m1 with
      | zero => first | cases (show (none : Option _) = some _ from h) | (rw [F10_L1] at h; cases h)
      | succ m1 =>
        rw [F10_L1] at h
        simp only [F10_S1]
        refine runX_seq ?_
        refine runX_seq ?_
        refine runX_regionC fun C hC => ?_
        try simp -implicitDefEqProofs (maxSteps := 4000000) (disch := first | omega | decide | (simp only [go_sem]; omega)) only [go_sem, ↓reduceIte]
        repeat (with_reducible refine And.intro (by first | assumption | omega | (simp; done) | (simp; omega)) ?_)
        rcases iteB_some h with ⟨c3, h⟩ | ⟨c3, h⟩
        · refine guardK_T c3 ?_
          try simp -implicitDefEqProofs (maxSteps := 4000000) (disch := first | omega | decide | (simp only [go_sem]; omega)) only [go_sem, ↓reduceIte]
          repeat (with_reducible refine And.intro (by first | assumption | omega | (simp; done) | (simp; omega)) ?_)
          refine toEnd hC ?_
          refine endX_seq ?_
          rcases iteB_some h with ⟨c4, h⟩ | ⟨c4, h⟩
          · refine runX_condT rfl c4 ?_
            refine runX_skip ?_
            refine endX_seq ?_
            refine runX_seq ?_
            refine runX_block ?_
            refine runX_seq ?_
            refine runX_regionC fun C hC => ?_
            obtain ⟨g5, h⟩ := grd_some h
            obtain ⟨v6, h6, h⟩ := bnd_some h
            try simp -implicitDefEqProofs (maxSteps := 4000000) (disch := first | omega | decide | (simp only [go_sem]; omega)) only [go_sem, ↓reduceIte]
            repeat (with_reducible refine And.intro (by first | assumption | omega | (simp; done) | (simp; omega)) ?_)
            refine callG_X (by first | rfl | (simp only [go_sem]; done) | (simp only [closedL, closedT, Bool.and_true]; exact closedL_map _ (fun _ => by first | rfl | (simp only [go_sem]; done)) _)) (F7_ok m1 a0 (a1.getD x2.toNat default) _ h6) (by repeat (first | exact leL_refl _ | refine leL_cons (by first | exact leT_refl _ | exact leT_virt | exact leT_junk _ | exact leT_sl | exact leT_sln | exact leT_nil) ?_)) ?_
            try simp -implicitDefEqProofs (maxSteps := 4000000) (disch := first | omega | decide | (simp only [go_sem]; omega)) only [go_sem, ↓reduceIte]
            repeat (with_reducible refine And.intro (by first | assumption | omega | (simp; done) | (simp; omega)) ?_)
            refine toEnd hC ?_
            refine endX_seq ?_
            refine runX_seq ?_
            refine runX_regionC fun C hC => ?_
            obtain ⟨v7, h7, h⟩ := bnd_some h
            try simp -implicitDefEqProofs (maxSteps := 4000000) (disch := first | omega | decide | (simp only [go_sem]; omega)) only [go_sem, ↓reduceIte]
            repeat (with_reducible refine And.intro (by first | assumption | omega | (simp; done) | (simp; omega)) ?_)
            refine callG_X (by first | rfl | (simp only [go_sem]; done) | (simp only [closedL, closedT, Bool.and_true]; exact closedL_map _ (fun _ => by first | rfl | (simp only [go_sem]; done)) _)) (F26_ok m1 v6.1 _ h7) (by repeat (first | exact leL_refl _ | refine leL_cons (by first | exact leT_refl _ | exact leT_virt | exact leT_junk _ | exact leT_sl | exact leT_sln | exact leT_nil) ?_)) ?_
            try simp -implicitDefEqProofs (maxSteps := 4000000) (disch := first | omega | decide | (simp only [go_sem]; omega)) only [go_sem, ↓reduceIte]
            repeat (with_reducible refine And.intro (by first | assumption | omega | (simp; done) | (simp; omega)) ?_)
            refine toEnd hC ?_
            refine endX_seq ?_
            refine runX_seq ?_
            refine runX_regionC fun C hC => ?_
            obtain ⟨g8, h⟩ := grd_some h
            obtain ⟨g9, h⟩ := grd_some h
            obtain ⟨g10, h⟩ := grd_some h
            try simp -implicitDefEqProofs (maxSteps := 4000000) (disch := first | omega | decide | (simp only [go_sem]; omega)) only [go_sem, ↓reduceIte]
            repeat (with_reducible refine And.intro (by first | assumption | omega | (simp; done) | (simp; omega)) ?_)
            refine toEnd hC ?_
            refine endX_seq ?_
            refine runX_seq ?_
            refine runX_seq ?_
            refine runX_regionC fun C hC => ?_
            try simp -implicitDefEqProofs (maxSteps := 4000000) (disch := first | omega | decide | (simp only [go_sem]; omega)) only [go_sem, ↓reduceIte]
            repeat (with_reducible refine And.intro (by first | assumption | omega | (simp; done) | (simp; omega)) ?_)
            refine toEnd hC ?_
            refine endX_seq ?_
            refine runX_block ?_
            refine runX_loop [0, 1, 5, 6, 7, 9] (fun m S => ∃ (x11 : List UInt8) (x12 : Int), S = F10_S2 a0 a1 x2 v7 x11 x12 ∧ m ≤ m1 ∧ F10_L2 m a0 a1 x2 v7 x11 x12 = some r) m1 ⟨F10_S2 a0 a1 x2 v7 ((x1 ++ (a1.getD x2.toNat default)) ++ ([58] : List UInt8)) (0 : Int), ?_, ((x1 ++ (a1.getD x2.toNat default)) ++ ([58] : List UInt8)), (0 : Int), rfl, Nat.le_refl _, h⟩ ?_
            · simp only [F10_S2]
              (try simp -implicitDefEqProofs (maxSteps := 4000000) (disch := first | omega | decide | (simp only [go_sem]; omega)) only [go_sem, ↓reduceIte])
              first | exact leS_refl _ | (refine leS_le ?_ ?_ <;> first | exact leL_refl _ | exact leOs_refl _ | (repeat (first | exact leL_refl _ | refine leL_cons (by first | exact leT_refl _ | exact leT_virt | exact leT_junk _ | exact leT_sl | exact leT_sln | exact leT_nil) ?_)))
            · clear h
              rintro m2 S ⟨x11, x12, rfl, hm2, h⟩
              cases m2 with
              | zero => first | cases (show (none : Option _) = some _ from h) | (rw [F10_L2] at h; cases h)
              | succ m2 =>
                rw [F10_L2] at h
                simp only [F10_S2]
                refine runX_seq ?_
                refine runX_seq ?_
                refine runX_regionC fun C hC => ?_
                try simp -implicitDefEqProofs (maxSteps := 4000000) (disch := first | omega | decide | (simp only [go_sem]; omega)) only [go_sem, ↓reduceIte]
                repeat (with_reducible refine And.intro (by first | assumption | omega | (simp; done) | (simp; omega)) ?_)
                refine toEnd hC ?_
                refine endX_seq ?_
                rcases iteB_some h with ⟨c13, h⟩ | ⟨c13, h⟩
                · refine runX_condT rfl c13 ?_
                  refine runX_skip ?_
                  refine endX_seq ?_
                  refine runX_seq ?_
                  refine runX_block ?_
                  refine runX_seq ?_
                  refine runX_regionC fun C hC => ?_
                  obtain ⟨g14, h⟩ := grd_some h
                  obtain ⟨v15, h15, h⟩ := bnd_some h
                  try simp -implicitDefEqProofs (maxSteps := 4000000) (disch := first | omega | decide | (simp only [go_sem]; omega)) only [go_sem, ↓reduceIte]
                  repeat (with_reducible refine And.intro (by first | assumption | omega | (simp; done) | (simp; omega)) ?_)
                  refine callG_X (by first | rfl | (simp only [go_sem]; done) | (simp only [closedL, closedT, Bool.and_true]; exact closedL_map _ (fun _ => by first | rfl | (simp only [go_sem]; done)) _)) (F27_ok m2 ((v7.getD x12.toNat 0).toNat : Int) _ h15) (by repeat (first | exact leL_refl _ | refine leL_cons (by first | exact leT_refl _ | exact leT_virt | exact leT_junk _ | exact leT_sl | exact leT_sln | exact leT_nil) ?_)) ?_
                  try simp -implicitDefEqProofs (maxSteps := 4000000) (disch := first | omega | decide | (simp only [go_sem]; omega)) only [go_sem, ↓reduceIte]
                  repeat (with_reducible refine And.intro (by first | assumption | omega | (simp; done) | (simp; omega)) ?_)
                  refine toEnd hC ?_
                  refine endX_seq ?_
                  rcases iteB_some h with ⟨c16, h⟩ | ⟨c16, h⟩
                  · refine runX_condT rfl c16 ?_
                    refine runX_regionC fun C hC => ?_
                    obtain ⟨g17, h⟩ := grd_some h
                    obtain ⟨g18, h⟩ := grd_some h
                    try simp -implicitDefEqProofs (maxSteps := 4000000) (disch := first | omega | decide | (simp only [go_sem]; omega)) only [go_sem, ↓reduceIte]
                    repeat (with_reducible refine And.intro (by first | assumption | omega | (simp; done) | (simp; omega)) ?_)
                    refine toEnd hC ?_
                    refine endX_blk ?_
                    refine endX_seq ?_
                    refine runX_regionC fun C hC => ?_
                    try simp -implicitDefEqProofs (maxSteps := 4000000) (disch := first | omega | decide | (simp only [go_sem]; omega)) only [go_sem, ↓reduceIte]
                    repeat (with_reducible refine And.intro (by first | assumption | omega | (simp; done) | (simp; omega)) ?_)
                    refine toEnd hC ?_
                    refine endX_q (roundQ_normal ⟨m2, by omega, F10_S2 a0 a1 x2 v7 (x11 ++ ((v7.take (IntKind.wrap .i64 (x12 + (1 : Int))).toNat).drop x12.toNat)) (IntKind.wrap .i64 (x12 + (1 : Int))), ?_, (x11 ++ ((v7.take (IntKind.wrap .i64 (x12 + (1 : Int))).toNat).drop x12.toNat)), (IntKind.wrap .i64 (x12 + (1 : Int))), rfl, by omega, h⟩)
                    simp only [F10_S2]
                    (try simp -implicitDefEqProofs (maxSteps := 4000000) (disch := first | omega | decide | (simp only [go_sem]; omega)) only [go_sem, ↓reduceIte])
                    first | exact leS_refl _ | (refine leS_le ?_ ?_ <;> first | exact leL_refl _ | exact leOs_refl _ | (repeat (first | exact leL_refl _ | refine leL_cons (by first | exact leT_refl _ | exact leT_virt | exact leT_junk _ | exact leT_sl | exact leT_sln | exact leT_nil) ?_)))
                  · refine runX_condF rfl c16 ?_
                    refine runX_seq ?_
                    refine runX_regionC fun C hC => ?_
                    obtain ⟨g19, h⟩ := grd_some h
                    obtain ⟨v20, h20, h⟩ := bnd_some h
                    try simp -implicitDefEqProofs (maxSteps := 4000000) (disch := first | omega | decide | (simp only [go_sem]; omega)) only [go_sem, ↓reduceIte]
                    repeat (with_reducible refine And.intro (by first | assumption | omega | (simp; done) | (simp; omega)) ?_)
                    refine callG_X (by first | rfl | (simp only [go_sem]; done) | (simp only [closedL, closedT, Bool.and_true]; exact closedL_map _ (fun _ => by first | rfl | (simp only [go_sem]; done)) _)) (F27_ok m2 ((v7.getD (IntKind.wrap .i64 (x12 - (1 : Int))).toNat 0).toNat : Int) _ h20) (by repeat (first | exact leL_refl _ | refine leL_cons (by first | exact leT_refl _ | exact leT_virt | exact leT_junk _ | exact leT_sl | exact leT_sln | exact leT_nil) ?_)) ?_
                    try simp -implicitDefEqProofs (maxSteps := 4000000) (disch := first | omega | decide | (simp only [go_sem]; omega)) only [go_sem, ↓reduceIte]
                    repeat (with_reducible refine And.intro (by first | assumption | omega | (simp; done) | (simp; omega)) ?_)
                    refine toEnd hC ?_
                    refine endX_seq ?_
                    rcases iteB_some h with ⟨c21, h⟩ | ⟨c21, h⟩
                    · refine runX_condT rfl c21 ?_
                      refine runX_regionC fun C hC => ?_
                      obtain ⟨g22, h⟩ := grd_some h
                      try simp -implicitDefEqProofs (maxSteps := 4000000) (disch := first | omega | decide | (simp only [go_sem]; omega)) only [go_sem, ↓reduceIte]
                      repeat (with_reducible refine And.intro (by first | assumption | omega | (simp; done) | (simp; omega)) ?_)
                      refine toEnd hC ?_
                      refine endX_blk ?_
                      refine endX_seq ?_
                      refine runX_regionC fun C hC => ?_
                      try simp -implicitDefEqProofs (maxSteps := 4000000) (disch := first | omega | decide | (simp only [go_sem]; omega)) only [go_sem, ↓reduceIte]
                      repeat (with_reducible refine And.intro (by first | assumption | omega | (simp; done) | (simp; omega)) ?_)
                      refine toEnd hC ?_
                      refine endX_q (roundQ_normal ⟨m2, by omega, F10_S2 a0 a1 x2 v7 (x11 ++ ([32] : List UInt8)) (IntKind.wrap .i64 (x12 + (1 : Int))), ?_, (x11 ++ ([32] : List UInt8)), (IntKind.wrap .i64 (x12 + (1 : Int))), rfl, by omega, h⟩)
                      simp only [F10_S2]
                      (try simp -implicitDefEqProofs (maxSteps := 4000000) (disch := first | omega | decide | (simp only [go_sem]; omega)) only [go_sem, ↓reduceIte])
                      first | exact leS_refl _ | (refine leS_le ?_ ?_ <;> first | exact leL_refl _ | exact leOs_refl _ | (repeat (first | exact leL_refl _ | refine leL_cons (by first | exact leT_refl _ | exact leT_virt | exact leT_junk _ | exact leT_sl | exact leT_sln | exact leT_nil) ?_)))
                    · refine runX_condF rfl c21 ?_
                      refine runX_skip ?_
                      refine endX_blk ?_
                      refine endX_seq ?_
                      refine runX_regionC fun C hC => ?_
                      try simp -implicitDefEqProofs (maxSteps := 4000000) (disch := first | omega | decide | (simp only [go_sem]; omega)) only [go_sem, ↓reduceIte]
                      repeat (with_reducible refine And.intro (by first | assumption | omega | (simp; done) | (simp; omega)) ?_)
                      refine toEnd hC ?_
                      refine endX_q (roundQ_normal ⟨m2, by omega, F10_S2 a0 a1 x2 v7 x11 (IntKind.wrap .i64 (x12 + (1 : Int))), ?_, x11, (IntKind.wrap .i64 (x12 + (1 : Int))), rfl, by omega, h⟩)
                      simp only [F10_S2]
                      (try simp -implicitDefEqProofs (maxSteps := 4000000) (disch := first | omega | decide | (simp only [go_sem]; omega)) only [go_sem, ↓reduceIte])
                      first | exact leS_refl _ | (refine leS_le ?_ ?_ <;> first | exact leL_refl _ | exact leOs_refl _ | (repeat (first | exact leL_refl _ | refine leL_cons (by first | exact leT_refl _ | exact leT_virt | exact leT_junk _ | exact leT_sl | exact leT_sln | exact leT_nil) ?_)))
                · refine runX_condF rfl c13 ?_
                  refine runX_exit ?_
                  refine endX_seqE ?_
                  refine endX_q (roundQ_exit ?_)
                  refine endX_blkE ?_
                  refine endX_seq ?_
                  refine runX_regionC fun C hC => ?_
                  obtain ⟨g23, h⟩ := grd_some h
                  try simp -implicitDefEqProofs (maxSteps := 4000000) (disch := first | omega | decide | (simp only [go_sem]; omega)) only [go_sem, ↓reduceIte]
                  repeat (with_reducible refine And.intro (by first | assumption | omega | (simp; done) | (simp; omega)) ?_)
                  refine toEnd hC ?_
                  refine endX_blk ?_
                  refine endX_seq ?_
                  refine runX_regionC fun C hC => ?_
                  try simp -implicitDefEqProofs (maxSteps := 4000000) (disch := first | omega | decide | (simp only [go_sem]; omega)) only [go_sem, ↓reduceIte]
                  repeat (with_reducible refine And.intro (by first | assumption | omega | (simp; done) | (simp; omega)) ?_)
                  refine toEnd hC ?_
                  refine endX_q (roundQ_normal ⟨m2, by omega, F10_S1 a0 a1 (x11 ++ ([10] : List UInt8)) (IntKind.wrap .i64 (x2 + (1 : Int))), ?_, (x11 ++ ([10] : List UInt8)), (IntKind.wrap .i64 (x2 + (1 : Int))), rfl, by omega, h⟩)
                  simp only [F10_S1]
                  (try simp -implicitDefEqProofs (maxSteps := 4000000) (disch := first | omega | decide | (simp only [go_sem]; omega)) only [go_sem, ↓reduceIte])
                  first | exact leS_refl _ | (refine leS_le ?_ ?_ <;> first | exact leL_refl _ | exact leOs_refl _ | (repeat (first | exact leL_refl _ | refine leL_cons (by first | exact leT_refl _ | exact leT_virt | exact leT_junk _ | exact leT_sl | exact leT_sln | exact leT_nil) ?_)))
          · refine runX_condF rfl c4 ?_
            refine runX_exit ?_
            refine endX_seqE ?_
            refine endX_q (roundQ_exit ?_)
            refine endX_blkE ?_
            refine endX_seq ?_
            refine runX_seq ?_
            refine runX_regionC fun C hC => ?_
            try simp -implicitDefEqProofs (maxSteps := 4000000) (disch := first | omega | decide | (simp only [go_sem]; omega)) only [go_sem, ↓reduceIte]
            repeat (with_reducible refine And.intro (by first | assumption | omega | (simp; done) | (simp; omega)) ?_)
            refine toEnd hC ?_
            refine endX_seq ?_
            refine runX_ret ?_
            refine endX_q ?_
            obtain rfl := Option.some.inj h
            show RetW _ _ _ _ _
            simp only [RetW]
            (try simp -implicitDefEqProofs (maxSteps := 4000000) (disch := first | omega | decide | (simp only [go_sem]; omega)) only [go_sem, ↓reduceIte])
            (try simp (disch := omega) only [if_pos, Nat.sub_zero])
            exact leT_refl _
        · refine guardK_F c3 ?_
          try simp -implicitDefEqProofs (maxSteps := 4000000) (disch := first | omega | decide | (simp only [go_sem]; omega)) only [go_sem, ↓reduceIte]
          repeat (with_reducible refine And.intro (by first | assumption | omega | (simp; done) | (simp; omega)) ?_)
          refine toEnd hC ?_
          refine endX_seq ?_
          refine runX_condF rfl rfl ?_
          refine runX_exit ?_
          refine endX_seqE ?_
          refine endX_q (roundQ_exit ?_)
          refine endX_blkE ?_
          refine endX_seq ?_
          refine runX_seq ?_
          refine runX_regionC fun C hC => ?_
          try simp -implicitDefEqProofs (maxSteps := 4000000) (disch := first | omega | decide | (simp only [go_sem]; omega)) only [go_sem, ↓reduceIte]
          repeat (with_reducible refine And.intro (by first | assumption | omega | (simp; done) | (simp; omega)) ?_)
          refine toEnd hC ?_
          refine endX_seq ?_
          refine runX_ret ?_
          refine endX_q ?_
          obtain rfl := Option.some.inj h
          show RetW _ _ _ _ _
          simp only [RetW]
          (try simp -implicitDefEqProofs (maxSteps := 4000000) (disch := first | omega | decide | (simp only [go_sem]; omega)) only [go_sem, ↓reduceIte])
          (try simp (disch := omega) only [if_pos, Nat.sub_zero])
          exact leT_refl _
end Go.Proofs.YtbdkofondpalpaaX

set_option linter.unusedVariables false
set_option linter.unusedSimpArgs false
namespace Go.Proofs.YtbdkofondpalpaaX
open Go Go.RowKit Go.Proofs
set_option maxRecDepth 100000
attribute [local go_sem ↓] stepsK_build stepsK_build0 stepsK_bs stepsK_bs0 appendS
attribute [local go_sem] String.reduceEq String.reduceNe reduceCtorEq Int.reduceEq Nat.reduceAdd Nat.reduceSub Nat.reduceMul Nat.reduceLT Nat.reduceLeDiff Nat.reduceEqDiff Nat.reduceBEq Int.reduceToNat Int.reduceLT Int.reduceLE Int.reduceGT Int.reduceGE Int.reduceAdd Int.reduceSub Int.reduceMul Int.reduceNeg Int.reduceBEq Int.reduceBNe Int.reducePow Int.reduceDiv Int.reduceMod Int.reduceTDiv Int.reduceTMod Int.reduceNatCast
/-! ### shadowboxlaw30.HeaderGets -/
def F3_S1 (a0 : List ((List UInt8) × (List UInt8))) (a1 : List (List UInt8)) (v1 : (List ((List UInt8) × (List UInt8))) × (Bool)) (x4 : Int) : St := ⟨[.sl 2 false (List.map eT34 a0), .sl 1 false (List.map eS a1), .junk, .junk, .junk, .sl 2 false (List.map eT34 v1.1), .junk, .imm (.int .i64 x4), .junk, .junk, .junk, .junk, .junk, .junk, .junk, .junk, .junk, .junk, .junk, .junk, .junk, .junk, .junk, .junk, .junk, .junk, .junk, .junk, .junk, .junk, .junk, .junk, .junk, .junk, .junk, .junk, .junk, .junk, .junk, .junk, .junk, .junk, .junk, .junk, .junk, .junk, .junk, .junk, .junk, .junk, .junk, .junk, .junk, .junk, .junk, .junk, .junk, .junk, .junk, .junk, .junk, .junk, .junk, .junk, .junk, .junk, .junk, .junk, .junk, .junk, .junk, .junk, .junk, .junk, .junk, .junk, .junk, .junk, .junk, .junk, .junk, .junk, .junk, .junk, .junk, .junk, .junk], []⟩
def F3_L1 : Nat → (List ((List UInt8) × (List UInt8))) → (List (List UInt8)) → ((List ((List UInt8) × (List UInt8))) × (Bool)) → (Int) → Option (Bool)
  | 0, _, _, _, _ => none
  | m1 + 1, a0, a1, v1, x4 => iteB (decide (x4 < (a1.length : Int))) (grd (0 ≤ x4 ∧ x4 < (a1.length : Int)) (iteB (decide ((100 : Int) < ((a1.getD x4.toNat default).length : Int))) (some true) (grd (0 ≤ x4 ∧ x4 < (a1.length : Int)) ((F6 m1 a0 (a1.getD x4.toNat default)).bind fun v9 => grd (0 ≤ x4 ∧ x4 < (a1.length : Int)) ((F7 m1 v1.1 (a1.getD x4.toNat default)).bind fun v11 => iteB (!(v9.1 == v11.1)) (some false) (iteB (!(v9.2 == (decide ((0 : Int) < v11.2)))) (some false) (grd (0 ≤ x4 ∧ x4 < (a1.length : Int)) ((F8 m1 a0 (a1.getD x4.toNat default)).bind fun v15 => iteB (v15 != v11.2) (some false) (F3_L1 m1 a0 a1 v1 (IntKind.wrap .i64 (x4 + (1 : Int)))))))))))) ((F9 m1 a0 a1).bind fun v17 => (F10 m1 v1.1 a1).bind fun v18 => iteB (v17 == v18) ((F9 m1 ([(([65] : List UInt8), ([120, 32, 32, 121] : List UInt8))]) ([([97] : List UInt8)])).bind fun v20 => some (v20 == ([97, 58, 120, 32, 121, 10] : List UInt8))) (some false))
def F3 (n : Nat) (a0 : List ((List UInt8) × (List UInt8))) (a1 : List (List UInt8)) : Option (Bool) := (F5 n a0).bind fun v1 => iteB (!v1.2) (some true) (iteB (decide ((40 : Int) < (a1.length : Int))) (some true) (F3_L1 n a0 a1 v1 (0 : Int)))
set_option maxHeartbeats 4000000 in
theorem F3_ok : ∀ (n : Nat) (a0 : List ((List UInt8) × (List UInt8))) (a1 : List (List UInt8)) (r : Bool), F3 n a0 a1 = some r → FnC Try.prog 3 [.sl 2 false (List.map eT34 a0), .sl 1 false (List.map eS a1)] (.imm (.bool r))
  | n, a0, a1, r, h => by
    unfold F3 at h
    refine FnC.goX mixed Try.func3 (by kernel_rfl) rfl ?_
    simp only [Try.ntmps3, List.length_cons, List.length_nil, List.replicate, List.cons_append, List.nil_append, Nat.reduceAdd, Nat.reduceSub]
    refine runX_seq ?_
    refine runX_regionC fun C hC => ?_
    try simp -implicitDefEqProofs (maxSteps := 4000000) (disch := first | omega | decide | (simp only [go_sem]; omega)) only [go_sem, ↓reduceIte]
    repeat (with_reducible refine And.intro (by first | assumption | omega | (simp; done) | (simp; omega)) ?_)
    refine toEnd hC ?_
    refine endX_seq ?_
    refine runX_seq ?_
    refine runX_regionC fun C hC => ?_
    obtain ⟨v1, h1, h⟩ := bnd_some h
    try simp -implicitDefEqProofs (maxSteps := 4000000) (disch := first | omega | decide | (simp only [go_sem]; omega)) only [go_sem, ↓reduceIte]
    repeat (with_reducible refine And.intro (by first | assumption | omega | (simp; done) | (simp; omega)) ?_)
    refine callG_X (by first | rfl | (simp only [go_sem]; done) | (simp only [closedL, closedT, Bool.and_true]; exact closedL_map _ (fun _ => by first | rfl | (simp only [go_sem]; done)) _)) (F5_ok n a0 _ h1) (by repeat (first | exact leL_refl _ | refine leL_cons (by first | exact leT_refl _ | exact leT_virt | exact leT_junk _ | exact leT_sl | exact leT_sln | exact leT_nil) ?_)) ?_
    try simp -implicitDefEqProofs (maxSteps := 4000000) (disch := first | omega | decide | (simp only [go_sem]; omega)) only [go_sem, ↓reduceIte]
    repeat (with_reducible refine And.intro (by first | assumption | omega | (simp; done) | (simp; omega)) ?_)
    refine toEnd hC ?_
    refine endX_seq ?_
    refine runX_seq ?_
    refine runX_seq ?_
    refine runX_regionC fun C hC => ?_
    try simp -implicitDefEqProofs (maxSteps := 4000000) (disch := first | omega | decide | (simp only [go_sem]; omega)) only [go_sem, ↓reduceIte]
    repeat (with_reducible refine And.intro (by first | assumption | omega | (simp; done) | (simp; omega)) ?_)
    rcases iteB_some h with ⟨c2, h⟩ | ⟨c2, h⟩
    · refine guardK_F c2 ?_
      try simp -implicitDefEqProofs (maxSteps := 4000000) (disch := first | omega | decide | (simp only [go_sem]; omega)) only [go_sem, ↓reduceIte]
      repeat (with_reducible refine And.intro (by first | assumption | omega | (simp; done) | (simp; omega)) ?_)
      refine toEnd hC ?_
      refine endX_seq ?_
      refine runX_condT rfl rfl ?_
      refine runX_seq ?_
      refine runX_regionC fun C hC => ?_
      try simp -implicitDefEqProofs (maxSteps := 4000000) (disch := first | omega | decide | (simp only [go_sem]; omega)) only [go_sem, ↓reduceIte]
      repeat (with_reducible refine And.intro (by first | assumption | omega | (simp; done) | (simp; omega)) ?_)
      refine toEnd hC ?_
      refine endX_seq ?_
      refine runX_ret ?_
      refine endX_seqR ?_
      refine endX_q ?_
      obtain rfl := Option.some.inj h
      show RetW _ _ _ _ _
      simp only [RetW]
      (try simp -implicitDefEqProofs (maxSteps := 4000000) (disch := first | omega | decide | (simp only [go_sem]; omega)) only [go_sem, ↓reduceIte])
      (try simp (disch := omega) only [if_pos, Nat.sub_zero])
      exact leT_refl _
    · refine guardK_T c2 ?_
      try simp -implicitDefEqProofs (maxSteps := 4000000) (disch := first | omega | decide | (simp only [go_sem]; omega)) only [go_sem, ↓reduceIte]
      repeat (with_reducible refine And.intro (by first | assumption | omega | (simp; done) | (simp; omega)) ?_)
      refine toEnd hC ?_
      refine endX_seq ?_
      rcases iteB_some h with ⟨c3, h⟩ | ⟨c3, h⟩
      · refine runX_condT rfl c3 ?_
        refine runX_seq ?_
        refine runX_regionC fun C hC => ?_
        try simp -implicitDefEqProofs (maxSteps := 4000000) (disch := first | omega | decide | (simp only [go_sem]; omega)) only [go_sem, ↓reduceIte]
        repeat (with_reducible refine And.intro (by first | assumption | omega | (simp; done) | (simp; omega)) ?_)
        refine toEnd hC ?_
        refine endX_seq ?_
        refine runX_ret ?_
        refine endX_seqR ?_
        refine endX_q ?_
        obtain rfl := Option.some.inj h
        show RetW _ _ _ _ _
        simp only [RetW]
        (try simp -implicitDefEqProofs (maxSteps := 4000000) (disch := first | omega | decide | (simp only [go_sem]; omega)) only [go_sem, ↓reduceIte])
        (try simp (disch := omega) only [if_pos, Nat.sub_zero])
        exact leT_refl _
      · refine runX_condF rfl c3 ?_
        refine runX_skip ?_
        refine endX_seq ?_
        refine runX_seq ?_
        refine runX_seq ?_
        refine runX_regionC fun C hC => ?_
        try simp -implicitDefEqProofs (maxSteps := 4000000) (disch := first | omega | decide | (simp only [go_sem]; omega)) only [go_sem, ↓reduceIte]
        repeat (with_reducible refine And.intro (by first | assumption | omega | (simp; done) | (simp; omega)) ?_)
        refine toEnd hC ?_
        refine endX_seq ?_
        refine runX_block ?_
        refine runX_loop [0, 1, 5, 7] (fun m S => ∃ (x4 : Int), S = F3_S1 a0 a1 v1 x4 ∧ m ≤ n ∧ F3_L1 m a0 a1 v1 x4 = some r) n ⟨F3_S1 a0 a1 v1 (0 : Int), ?_, (0 : Int), rfl, Nat.le_refl _, h⟩ ?_
        · simp only [F3_S1]
          (try simp -implicitDefEqProofs (maxSteps := 4000000) (disch := first | omega | decide | (simp only [go_sem]; omega)) only [go_sem, ↓reduceIte])
          first | exact leS_refl _ | (refine leS_le ?_ ?_ <;> first | exact leL_refl _ | exact leOs_refl _ | (repeat (first | exact leL_refl _ | refine leL_cons (by first | exact leT_refl _ | exact leT_virt | exact leT_junk _ | exact leT_sl | exact leT_sln | exact leT_nil) ?_)))
        · clear h
          rintro m1 S ⟨x4, rfl, hm1, h⟩
          cases m1 with
          | zero => first | cases (show (none : Option _) = some _ from h) | (rw [F3_L1] at h; cases h)
          | succ m1 =>
            rw [F3_L1] at h
            simp only [F3_S1]
            refine runX_seq ?_
            refine runX_seq ?_
            refine runX_regionC fun C hC => ?_
            try simp -implicitDefEqProofs (maxSteps := 4000000) (disch := first | omega | decide | (simp only [go_sem]; omega)) only [go_sem, ↓reduceIte]
            repeat (with_reducible refine And.intro (by first | assumption | omega | (simp; done) | (simp; omega)) ?_)
            refine toEnd hC ?_
            refine endX_seq ?_
            rcases iteB_some h with ⟨c5, h⟩ | ⟨c5, h⟩
            · refine runX_condT rfl c5 ?_
              refine runX_skip ?_
              refine endX_seq ?_
              refine runX_seq ?_
              refine runX_block ?_
              refine runX_seq ?_
              refine runX_seq ?_
              refine runX_regionC fun C hC => ?_
              obtain ⟨g6, h⟩ := grd_some h
              try simp -implicitDefEqProofs (maxSteps := 4000000) (disch := first | omega | decide | (simp only [go_sem]; omega)) only [go_sem, ↓reduceIte]
              repeat (with_reducible refine And.intro (by first | assumption | omega | (simp; done) | (simp; omega)) ?_)
              refine toEnd hC ?_
              refine endX_seq ?_
              rcases iteB_some h with ⟨c7, h⟩ | ⟨c7, h⟩
              · refine runX_condT rfl c7 ?_
                refine runX_seq ?_
                refine runX_regionC fun C hC => ?_
                try simp -implicitDefEqProofs (maxSteps := 4000000) (disch := first | omega | decide | (simp only [go_sem]; omega)) only [go_sem, ↓reduceIte]
                repeat (with_reducible refine And.intro (by first | assumption | omega | (simp; done) | (simp; omega)) ?_)
                refine toEnd hC ?_
                refine endX_seq ?_
                refine runX_ret ?_
                refine endX_seqR ?_
                refine endX_blkR ?_
                refine endX_seqR ?_
                refine endX_q (roundQ_ret ?_)
                refine endX_blkR ?_
                refine endX_seqR ?_
                refine endX_q ?_
                obtain rfl := Option.some.inj h
                show RetW _ _ _ _ _
                simp only [RetW]
                (try simp -implicitDefEqProofs (maxSteps := 4000000) (disch := first | omega | decide | (simp only [go_sem]; omega)) only [go_sem, ↓reduceIte])
                (try simp (disch := omega) only [if_pos, Nat.sub_zero])
                exact leT_refl _
              · refine runX_condF rfl c7 ?_
                refine runX_skip ?_
                refine endX_seq ?_
                refine runX_seq ?_
                refine runX_regionC fun C hC => ?_
                obtain ⟨g8, h⟩ := grd_some h
                obtain ⟨v9, h9, h⟩ := bnd_some h
                try simp -implicitDefEqProofs (maxSteps := 4000000) (disch := first | omega | decide | (simp only [go_sem]; omega)) only [go_sem, ↓reduceIte]
                repeat (with_reducible refine And.intro (by first | assumption | omega | (simp; done) | (simp; omega)) ?_)
                refine callG_X (by first | rfl | (simp only [go_sem]; done) | (simp only [closedL, closedT, Bool.and_true]; exact closedL_map _ (fun _ => by first | rfl | (simp only [go_sem]; done)) _)) (F6_ok m1 a0 (a1.getD x4.toNat default) _ h9) (by repeat (first | exact leL_refl _ | refine leL_cons (by first | exact leT_refl _ | exact leT_virt | exact leT_junk _ | exact leT_sl | exact leT_sln | exact leT_nil) ?_)) ?_
                try simp -implicitDefEqProofs (maxSteps := 4000000) (disch := first | omega | decide | (simp only [go_sem]; omega)) only [go_sem, ↓reduceIte]
                repeat (with_reducible refine And.intro (by first | assumption | omega | (simp; done) | (simp; omega)) ?_)
                refine toEnd hC ?_
                refine endX_seq ?_
                refine runX_seq ?_
                refine runX_regionC fun C hC => ?_
                obtain ⟨g10, h⟩ := grd_some h
                obtain ⟨v11, h11, h⟩ := bnd_some h
                try simp -implicitDefEqProofs (maxSteps := 4000000) (disch := first | omega | decide | (simp only [go_sem]; omega)) only [go_sem, ↓reduceIte]
                repeat (with_reducible refine And.intro (by first | assumption | omega | (simp; done) | (simp; omega)) ?_)
                refine callG_X (by first | rfl | (simp only [go_sem]; done) | (simp only [closedL, closedT, Bool.and_true]; exact closedL_map _ (fun _ => by first | rfl | (simp only [go_sem]; done)) _)) (F7_ok m1 v1.1 (a1.getD x4.toNat default) _ h11) (by repeat (first | exact leL_refl _ | refine leL_cons (by first | exact leT_refl _ | exact leT_virt | exact leT_junk _ | exact leT_sl | exact leT_sln | exact leT_nil) ?_)) ?_
                try simp -implicitDefEqProofs (maxSteps := 4000000) (disch := first | omega | decide | (simp only [go_sem]; omega)) only [go_sem, ↓reduceIte]
                repeat (with_reducible refine And.intro (by first | assumption | omega | (simp; done) | (simp; omega)) ?_)
                refine toEnd hC ?_
                refine endX_seq ?_
                refine runX_seq ?_
                refine runX_regionC fun C hC => ?_
                try simp -implicitDefEqProofs (maxSteps := 4000000) (disch := first | omega | decide | (simp only [go_sem]; omega)) only [go_sem, ↓reduceIte]
                repeat (with_reducible refine And.intro (by first | assumption | omega | (simp; done) | (simp; omega)) ?_)
                rcases iteB_some h with ⟨c12, h⟩ | ⟨c12, h⟩
                · refine guardK_F c12 ?_
                  try simp -implicitDefEqProofs (maxSteps := 4000000) (disch := first | omega | decide | (simp only [go_sem]; omega)) only [go_sem, ↓reduceIte]
                  repeat (with_reducible refine And.intro (by first | assumption | omega | (simp; done) | (simp; omega)) ?_)
                  refine toEnd hC ?_
                  refine endX_seq ?_
                  refine runX_condT rfl rfl ?_
                  refine runX_seq ?_
                  refine runX_regionC fun C hC => ?_
                  try simp -implicitDefEqProofs (maxSteps := 4000000) (disch := first | omega | decide | (simp only [go_sem]; omega)) only [go_sem, ↓reduceIte]
                  repeat (with_reducible refine And.intro (by first | assumption | omega | (simp; done) | (simp; omega)) ?_)
                  refine toEnd hC ?_
                  refine endX_seq ?_
                  refine runX_ret ?_
                  refine endX_blkR ?_
                  refine endX_seqR ?_
                  refine endX_q (roundQ_ret ?_)
                  refine endX_blkR ?_
                  refine endX_seqR ?_
                  refine endX_q ?_
                  obtain rfl := Option.some.inj h
                  show RetW _ _ _ _ _
                  simp only [RetW]
                  (try simp -implicitDefEqProofs (maxSteps := 4000000) (disch := first | omega | decide | (simp only [go_sem]; omega)) only [go_sem, ↓reduceIte])
                  (try simp (disch := omega) only [if_pos, Nat.sub_zero])
                  exact leT_refl _
                · refine guardK_T c12 ?_
                  try simp -implicitDefEqProofs (maxSteps := 4000000) (disch := first | omega | decide | (simp only [go_sem]; omega)) only [go_sem, ↓reduceIte]
                  repeat (with_reducible refine And.intro (by first | assumption | omega | (simp; done) | (simp; omega)) ?_)
                  rcases iteB_some h with ⟨c13, h⟩ | ⟨c13, h⟩
                  · refine guardK_F c13 ?_
                    try simp -implicitDefEqProofs (maxSteps := 4000000) (disch := first | omega | decide | (simp only [go_sem]; omega)) only [go_sem, ↓reduceIte]
                    repeat (with_reducible refine And.intro (by first | assumption | omega | (simp; done) | (simp; omega)) ?_)
                    refine toEnd hC ?_
                    refine endX_seq ?_
                    refine runX_condT rfl rfl ?_
                    refine runX_seq ?_
                    refine runX_regionC fun C hC => ?_
                    try simp -implicitDefEqProofs (maxSteps := 4000000) (disch := first | omega | decide | (simp only [go_sem]; omega)) only [go_sem, ↓reduceIte]
                    repeat (with_reducible refine And.intro (by first | assumption | omega | (simp; done) | (simp; omega)) ?_)
                    refine toEnd hC ?_
                    refine endX_seq ?_
                    refine runX_ret ?_
                    refine endX_blkR ?_
                    refine endX_seqR ?_
                    refine endX_q (roundQ_ret ?_)
                    refine endX_blkR ?_
                    refine endX_seqR ?_
                    refine endX_q ?_
                    obtain rfl := Option.some.inj h
                    show RetW _ _ _ _ _
                    simp only [RetW]
                    (try simp -implicitDefEqProofs (maxSteps := 4000000) (disch := first | omega | decide | (simp only [go_sem]; omega)) only [go_sem, ↓reduceIte])
                    (try simp (disch := omega) only [if_pos, Nat.sub_zero])
                    exact leT_refl _
                  · refine guardK_T c13 ?_
                    obtain ⟨g14, h⟩ := grd_some h
                    obtain ⟨v15, h15, h⟩ := bnd_some h
                    try simp -implicitDefEqProofs (maxSteps := 4000000) (disch := first | omega | decide | (simp only [go_sem]; omega)) only [go_sem, ↓reduceIte]
                    repeat (with_reducible refine And.intro (by first | assumption | omega | (simp; done) | (simp; omega)) ?_)
                    refine callG_X (by first | rfl | (simp only [go_sem]; done) | (simp only [closedL, closedT, Bool.and_true]; exact closedL_map _ (fun _ => by first | rfl | (simp only [go_sem]; done)) _)) (F8_ok m1 a0 (a1.getD x4.toNat default) _ h15) (by repeat (first | exact leL_refl _ | refine leL_cons (by first | exact leT_refl _ | exact leT_virt | exact leT_junk _ | exact leT_sl | exact leT_sln | exact leT_nil) ?_)) ?_
                    try simp -implicitDefEqProofs (maxSteps := 4000000) (disch := first | omega | decide | (simp only [go_sem]; omega)) only [go_sem, ↓reduceIte]
                    repeat (with_reducible refine And.intro (by first | assumption | omega | (simp; done) | (simp; omega)) ?_)
                    refine toEnd hC ?_
                    refine endX_seq ?_
                    rcases iteB_some h with ⟨c16, h⟩ | ⟨c16, h⟩
                    · refine runX_condT rfl c16 ?_
                      refine runX_seq ?_
                      refine runX_regionC fun C hC => ?_
                      try simp -implicitDefEqProofs (maxSteps := 4000000) (disch := first | omega | decide | (simp only [go_sem]; omega)) only [go_sem, ↓reduceIte]
                      repeat (with_reducible refine And.intro (by first | assumption | omega | (simp; done) | (simp; omega)) ?_)
                      refine toEnd hC ?_
                      refine endX_seq ?_
                      refine runX_ret ?_
                      refine endX_blkR ?_
                      refine endX_seqR ?_
                      refine endX_q (roundQ_ret ?_)
                      refine endX_blkR ?_
                      refine endX_seqR ?_
                      refine endX_q ?_
                      obtain rfl := Option.some.inj h
                      show RetW _ _ _ _ _
                      simp only [RetW]
                      (try simp -implicitDefEqProofs (maxSteps := 4000000) (disch := first | omega | decide | (simp only [go_sem]; omega)) only [go_sem, ↓reduceIte])
                      (try simp (disch := omega) only [if_pos, Nat.sub_zero])
                      exact leT_refl _
                    · refine runX_condF rfl c16 ?_
                      refine runX_skip ?_
                      refine endX_blk ?_
                      refine endX_seq ?_
                      refine runX_regionC fun C hC => ?_
                      try simp -implicitDefEqProofs (maxSteps := 4000000) (disch := first | omega | decide | (simp only [go_sem]; omega)) only [go_sem, ↓reduceIte]
                      repeat (with_reducible refine And.intro (by first | assumption | omega | (simp; done) | (simp; omega)) ?_)
                      refine toEnd hC ?_
                      refine endX_q (roundQ_normal ⟨m1, by omega, F3_S1 a0 a1 v1 (IntKind.wrap .i64 (x4 + (1 : Int))), ?_, (IntKind.wrap .i64 (x4 + (1 : Int))), rfl, by omega, h⟩)
                      simp only [F3_S1]
                      (try simp -implicitDefEqProofs (maxSteps := 4000000) (disch := first | omega | decide | (simp only [go_sem]; omega)) only [go_sem, ↓reduceIte])
                      first | exact leS_refl _ | (refine leS_le ?_ ?_ <;> first | exact leL_refl _ | exact leOs_refl _ | (repeat (first | exact leL_refl _ | refine leL_cons (by first | exact leT_refl _ | exact leT_virt | exact leT_junk _ | exact leT_sl | exact leT_sln | exact leT_nil) ?_)))
            · refine runX_condF rfl c5 ?_
              refine runX_exit ?_
              refine endX_seqE ?_
              refine endX_q (roundQ_exit ?_)
              refine endX_blkE ?_
              refine endX_seq ?_
              refine runX_seq ?_
              refine runX_regionC fun C hC => ?_
              obtain ⟨v17, h17, h⟩ := bnd_some h
              try simp -implicitDefEqProofs (maxSteps := 4000000) (disch := first | omega | decide | (simp only [go_sem]; omega)) only [go_sem, ↓reduceIte]
              repeat (with_reducible refine And.intro (by first | assumption | omega | (simp; done) | (simp; omega)) ?_)
              refine callG_X (by first | rfl | (simp only [go_sem]; done) | (simp only [closedL, closedT, Bool.and_true]; exact closedL_map _ (fun _ => by first | rfl | (simp only [go_sem]; done)) _)) (F9_ok m1 a0 a1 _ h17) (by repeat (first | exact leL_refl _ | refine leL_cons (by first | exact leT_refl _ | exact leT_virt | exact leT_junk _ | exact leT_sl | exact leT_sln | exact leT_nil) ?_)) ?_
              obtain ⟨v18, h18, h⟩ := bnd_some h
              try simp -implicitDefEqProofs (maxSteps := 4000000) (disch := first | omega | decide | (simp only [go_sem]; omega)) only [go_sem, ↓reduceIte]
              repeat (with_reducible refine And.intro (by first | assumption | omega | (simp; done) | (simp; omega)) ?_)
              refine callG_X (by first | rfl | (simp only [go_sem]; done) | (simp only [closedL, closedT, Bool.and_true]; exact closedL_map _ (fun _ => by first | rfl | (simp only [go_sem]; done)) _)) (F10_ok m1 v1.1 a1 _ h18) (by repeat (first | exact leL_refl _ | refine leL_cons (by first | exact leT_refl _ | exact leT_virt | exact leT_junk _ | exact leT_sl | exact leT_sln | exact leT_nil) ?_)) ?_
              try simp -implicitDefEqProofs (maxSteps := 4000000) (disch := first | omega | decide | (simp only [go_sem]; omega)) only [go_sem, ↓reduceIte]
              repeat (with_reducible refine And.intro (by first | assumption | omega | (simp; done) | (simp; omega)) ?_)
              rcases iteB_some h with ⟨c19, h⟩ | ⟨c19, h⟩
              · refine guardK_T c19 ?_
                try simp -implicitDefEqProofs (maxSteps := 4000000) (disch := first | omega | decide | (simp only [go_sem]; omega)) only [go_sem, ↓reduceIte]
                repeat (with_reducible refine And.intro (by first | assumption | omega | (simp; done) | (simp; omega)) ?_)
                refine bldG_of [.imm (.string (bs ([65] : List UInt8))), .imm (.string (bs ([120, 32, 32, 121] : List UInt8)))] (by kernel_rfl) ?_
                try simp -implicitDefEqProofs (maxSteps := 4000000) (disch := first | omega | decide | (simp only [go_sem]; omega)) only [go_sem, ↓reduceIte]
                repeat (with_reducible refine And.intro (by first | assumption | omega | (simp; done) | (simp; omega)) ?_)
                refine bs_go <| buildX_val ?_
                try simp -implicitDefEqProofs (maxSteps := 4000000) (disch := first | omega | decide | (simp only [go_sem]; omega)) only [go_sem, ↓reduceIte]
                repeat (with_reducible refine And.intro (by first | assumption | omega | (simp; done) | (simp; omega)) ?_)
                refine bs_go <| buildX_val ?_
                obtain ⟨v20, h20, h⟩ := bnd_some h
                try simp -implicitDefEqProofs (maxSteps := 4000000) (disch := first | omega | decide | (simp only [go_sem]; omega)) only [go_sem, ↓reduceIte]
                repeat (with_reducible refine And.intro (by first | assumption | omega | (simp; done) | (simp; omega)) ?_)
                refine callG_X (by first | rfl | (simp only [go_sem]; done) | (simp only [closedL, closedT, Bool.and_true]; exact closedL_map _ (fun _ => by first | rfl | (simp only [go_sem]; done)) _)) (F9_ok m1 ([(([65] : List UInt8), ([120, 32, 32, 121] : List UInt8))]) ([([97] : List UInt8)]) _ h20) (by repeat (first | exact leL_refl _ | refine leL_cons (by first | exact leT_refl _ | exact leT_sl | exact leT_sln | (refine leT_slX (by repeat (first | exact leE_refl _ | refine leE_cons (by first | exact leT_refl _ | exact leT_sl | (refine leT_agg (by repeat (first | exact leL_refl _ | refine leL_cons (by first | exact leT_refl _ | exact leT_sl | exact leT_sln) ?_)))) ?_)) rfl)) ?_)) ?_
                try simp -implicitDefEqProofs (maxSteps := 4000000) (disch := first | omega | decide | (simp only [go_sem]; omega)) only [go_sem, ↓reduceIte]
                repeat (with_reducible refine And.intro (by first | assumption | omega | (simp; done) | (simp; omega)) ?_)
                refine toEnd hC ?_
                refine endX_seq ?_
                refine runX_ret ?_
                refine endX_q ?_
                obtain rfl := Option.some.inj h
                show RetW _ _ _ _ _
                simp only [RetW]
                (try simp -implicitDefEqProofs (maxSteps := 4000000) (disch := first | omega | decide | (simp only [go_sem]; omega)) only [go_sem, ↓reduceIte])
                (try simp (disch := omega) only [if_pos, Nat.sub_zero])
                exact leT_refl _
              · refine guardK_F c19 ?_
                try simp -implicitDefEqProofs (maxSteps := 4000000) (disch := first | omega | decide | (simp only [go_sem]; omega)) only [go_sem, ↓reduceIte]
                repeat (with_reducible refine And.intro (by first | assumption | omega | (simp; done) | (simp; omega)) ?_)
                refine toEnd hC ?_
                refine endX_seq ?_
                refine runX_ret ?_
                refine endX_q ?_
                obtain rfl := Option.some.inj h
                show RetW _ _ _ _ _
                simp only [RetW]
                (try simp -implicitDefEqProofs (maxSteps := 4000000) (disch := first | omega | decide | (simp only [go_sem]; omega)) only [go_sem, ↓reduceIte])
                (try simp (disch := omega) only [if_pos, Nat.sub_zero])
                exact leT_refl _
end Go.Proofs.YtbdkofondpalpaaX

/- Shapes of arguments, as plain values. Of no program. -/
set_option linter.unusedVariables false
namespace Go.Proofs.YtbdkofondpalpaaX
open Go Go.RowKit
theorem RepR.le {E : Env} {sz : Nat} : ∀ {l l' : List T} {c : List Value}, l.length = l'.length → (∀ i, leT anyE (l.getD i .junk) (l'.getD i .junk)) → RepR E sz l c → RepR E sz l' c
  | [], [], c, _, _, h => h
  | x :: l, y :: l', c, hl, hi, h => by
    simp only [RepR] at h ⊢
    obtain ⟨u, c', h1, h2, h3, h4⟩ := h
    exact ⟨u, c', h1, h2, by simpa using hi 0 E true u trivial (by simpa using h3), RepR.le (by simpa using hl) (fun i => by simpa using hi (i + 1)) h4⟩
  | [], _ :: _, c, hl, _, _ => by simp at hl
  | _ :: _, [], c, hl, _, _ => by simp at hl
theorem leT_slE {sz : Nat} {f : Bool} {l l' : List T} (hl : l.length = l'.length) (h : ∀ i, leT anyE (l.getD i .junk) (l'.getD i .junk)) : leT anyE (.sl sz f l) (.sl sz false l') := fun E cl v hp k => by
  simp only [Rep] at k ⊢
  obtain ⟨a, cap, c, h1, h2, h3, h4, h5⟩ := k
  exact ⟨a, cap, c, by rw [h1, hl], by rw [← hl]; exact h2, (fun h => by cases h), RepR.le hl h h4, h5⟩
theorem elems_shape {α : Type} (enc : α → T) (ok : α → Prop) : ∀ (l : List T), (∀ y ∈ l, ∃ v, leT anyE y (enc v) ∧ ok v) → ∃ vs : List α, vs.length = l.length ∧ (∀ i, leT anyE (l.getD i .junk) ((vs.map enc).getD i .junk)) ∧ ∀ v ∈ vs, ok v
  | [], _ => ⟨[], rfl, fun i => by simp [leT_refl], fun v hv => by simp at hv⟩
  | y :: l, h => by
    obtain ⟨v, h1, h2⟩ := h y (by simp)
    obtain ⟨vs, h3, h4, h5⟩ := elems_shape enc ok l fun z hz => h z (by simp [hz])
    refine ⟨v :: vs, by simp [h3], fun i => ?_, fun w hw => ?_⟩
    · cases i with
      | zero => simpa using h1
      | succ i => simpa using h4 i
    · rcases List.mem_cons.1 hw with rfl | hw
      · exact h2
      · exact h5 w hw
theorem sl_shape {α : Type} (enc : α → T) (ok : α → Prop) (l : List T) (h : ∀ y ∈ l, ∃ v, leT anyE y (enc v) ∧ ok v) {sz : Nat} {f : Bool} : ∃ vs : List α, leT anyE (.sl sz f l) (.sl sz false (vs.map enc)) ∧ vs.length = l.length ∧ ∀ v ∈ vs, ok v := by
  obtain ⟨vs, h1, h2, h3⟩ := elems_shape enc ok l h
  exact ⟨vs, leT_slE (by simp [h1]) h2, h1, h3⟩
theorem arr_shape {α : Type} (enc : α → T) (ok : α → Prop) : ∀ (l : List T), (∀ y ∈ l, ∃ v, y = enc v ∧ T.cells y = [y] ∧ ok v) → ∃ vs : List α, l.flatMap T.cells = vs.map enc ∧ vs.length = l.length ∧ ∀ v ∈ vs, ok v
  | [], _ => ⟨[], rfl, rfl, fun v hv => by simp at hv⟩
  | y :: l, h => by
    obtain ⟨v, rfl, hc, h2⟩ := h y (by simp)
    obtain ⟨vs, h3, h4, h5⟩ := arr_shape enc ok l fun z hz => h z (by simp [hz])
    refine ⟨v :: vs, by rw [List.flatMap_cons, hc, h3]; rfl, by simp [h4], fun w hw => ?_⟩
    rcases List.mem_cons.1 hw with rfl | hw
    · exact h2
    · exact h5 w hw
end Go.Proofs.YtbdkofondpalpaaX

set_option linter.unusedVariables false
set_option linter.unusedSimpArgs false
namespace Go.Proofs.YtbdkofondpalpaaX
open Go Go.RowKit Go.Proofs
set_option maxRecDepth 100000
def okT9 (v : List UInt8) : Prop := v.length ≤ 9223372036854775807
def okT34 (v : (List UInt8) × (List UInt8)) : Prop := okT9 v.1 ∧ okT9 v.2
def okT22 (v : List ((List UInt8) × (List UInt8))) : Prop := v.length ≤ 9223372036854775807 ∧ ∀ y ∈ v, okT34 y
def okT23 (v : List (List UInt8)) : Prop := v.length ≤ 9223372036854775807 ∧ ∀ y ∈ v, okT9 y
theorem shp9 : ∀ (n : Nat) (x : T), ShapeW Try.prog n 9 x → ∃ v : List UInt8, x = .imm (.string (bs v)) ∧ okT9 v
  | 0, x, h => h.elim
  | n + 1, x, h => by
    simp only [ShapeW, Try.underlying9] at h
    obtain ⟨s, rfl, hs⟩ := h
    exact ⟨s.data.toList, by rw [← of_bs], hs⟩
theorem shp35 : ∀ (n : Nat) (x : T), ShapeW Try.prog n 35 x → ∃ v : (List UInt8) × (List UInt8), leT anyE x (.agg [.imm (.string (bs v.1)), .imm (.string (bs v.2))]) ∧ okT34 v
  | 0, x, h => h.elim
  | n + 1, x, h => by
    simp only [ShapeW, Try.underlying35] at h
    obtain ⟨ys, rfl, hl, hf⟩ := h
    match ys, hl with
    | [y0, y1], _ =>
      have h0 := hf 0 _ y0 rfl rfl
      obtain ⟨v0, rfl, k0⟩ := shp9 n _ h0
      have h1 := hf 1 _ y1 rfl rfl
      obtain ⟨v1, rfl, k1⟩ := shp9 n _ h1
      refine ⟨(v0, v1), leT_agg ?_, k0, k1⟩
      show leL anyE [_, _] _
      exact leL_cons (leT_refl _) (leL_cons (leT_refl _) (leL_nil))
theorem shp22 : ∀ (n : Nat) (x : T), ShapeW Try.prog n 22 x → ∃ (f : Bool) (l : List T) (v : List ((List UInt8) × (List UInt8))), x = .sl 2 f l ∧ leT anyE x (.sl 2 false (List.map eT34 v)) ∧ okT22 v
  | 0, x, h => h.elim
  | n + 1, x, h => by
    simp only [ShapeW, Try.underlying22] at h
    obtain ⟨f, l, rfl, hl, he⟩ := h
    rw [cz35]
    obtain ⟨v, h1, h2, h3⟩ := sl_shape eT34 okT34 l fun y hy => (by
      obtain ⟨v, hv, hk⟩ := shp35 n y (he y hy)
      exact ⟨v, hv, hk⟩)
    exact ⟨f, l, v, rfl, h1, by rw [h2]; exact hl, h3⟩
theorem shp23 : ∀ (n : Nat) (x : T), ShapeW Try.prog n 23 x → ∃ (f : Bool) (l : List T) (v : List (List UInt8)), x = .sl 1 f l ∧ leT anyE x (.sl 1 false (List.map eS v)) ∧ okT23 v
  | 0, x, h => h.elim
  | n + 1, x, h => by
    simp only [ShapeW, Try.underlying23] at h
    obtain ⟨f, l, rfl, hl, he⟩ := h
    rw [cz9]
    obtain ⟨v, h1, h2, h3⟩ := sl_shape eS okT9 l fun y hy => (by
      obtain ⟨v, hv, hk⟩ := shp9 n y (he y hy)
      exact ⟨v, leT_of hv, hk⟩)
    exact ⟨f, l, v, rfl, h1, by rw [h2]; exact hl, h3⟩
theorem shapedHeaderGets (main : ∀ (v0 : List ((List UInt8) × (List UInt8))) (v1 : List (List UInt8)), okT22 v0 → okT23 v1 → ∃ n, F3 n v0 v1 = some true) (xs : List T) (h : ShapesW Try.prog [22, 23] xs) : FnC Try.prog 3 xs (tb true) := by
  obtain ⟨x0, xs0, rfl, ⟨n0, h0⟩, x1, xs1, rfl, ⟨n1, h1⟩, rfl⟩ := h
  obtain ⟨_, _, v0, _, e0, k0⟩ := shp22 _ _ h0
  obtain ⟨_, _, v1, _, e1, k1⟩ := shp23 _ _ h1
  obtain ⟨N, hN⟩ := main v0 v1 k0 k1
  exact (F3_ok N v0 v1 true hN).le (leL_cons (e0) (leL_cons (e1) (leL_nil))) (leT_refl _)

end Go.Proofs.YtbdkofondpalpaaX

/- Plain functions with fuel: what they come to. Of no program. -/
set_option linter.unusedVariables false
set_option linter.unusedSimpArgs false
namespace Go.Proofs.YtbdkofondpalpaaX
open Go

/-- With fuel enough the answer is this. -/
def Ev {α : Type} (f : Nat → Option α) (r : α) : Prop := ∃ N, ∀ n, N ≤ n → f n = some r
theorem Ev.pure {α : Type} {r : α} : Ev (fun _ => some r) r := ⟨0, fun _ _ => rfl⟩
theorem Ev.const {α : Type} {x : Option α} {r : α} (h : x = some r) : Ev (fun _ => x) r := ⟨0, fun _ _ => h⟩
theorem Ev.bind {α β : Type} {f : Nat → Option α} {g : Nat → α → Option β} {v : α} {r : β} (h : Ev f v) (h' : Ev (fun n => g n v) r) : Ev (fun n => (f n).bind (g n)) r := by
  obtain ⟨N, h⟩ := h
  obtain ⟨M, h'⟩ := h'
  exact ⟨max N M, fun n hn => by show (f n).bind (g n) = _; rw [h n (by omega)]; exact h' n (by omega)⟩
theorem Ev.step {α : Type} {f : Nat → Option α} {r : α} (h : Ev (fun n => f (n + 1)) r) : Ev f r := by
  obtain ⟨N, h⟩ := h
  refine ⟨N + 1, fun n hn => ?_⟩
  obtain ⟨m, rfl⟩ : ∃ m, n = m + 1 := ⟨n - 1, by omega⟩
  exact h m (by omega)
theorem Ev.congr {α : Type} {f g : Nat → Option α} {r : α} (h : Ev g r) (e : ∀ n, f n = g n) : Ev f r := by
  obtain ⟨N, h⟩ := h
  exact ⟨N, fun n hn => (e n).trans (h n hn)⟩
theorem Ev.grd {α : Type} {p : Prop} [Decidable p] {f : Nat → Option α} {r : α} (hp : p) (h : Ev f r) : Ev (fun n => grd p (f n)) r := h.congr fun n => if_pos hp
theorem Ev.ofT {α : Type} {b : Bool} {f g : Nat → Option α} {r : α} (hb : b = true) (h : Ev f r) : Ev (fun n => iteB b (f n) (g n)) r := h.congr fun n => by rw [hb]; rfl
theorem Ev.ofF {α : Type} {b : Bool} {f g : Nat → Option α} {r : α} (hb : b = false) (h : Ev g r) : Ev (fun n => iteB b (f n) (g n)) r := h.congr fun n => by rw [hb]; rfl
theorem Ev.ite {α : Type} {b : Bool} {f g : Nat → Option α} {r : α} (h1 : b = true → Ev f r) (h2 : b = false → Ev g r) : Ev (fun n => iteB b (f n) (g n)) r := by
  cases hb : b with
  | true => exact (h1 hb).congr fun n => rfl
  | false => exact (h2 hb).congr fun n => rfl
theorem iteB_t {α : Type} (x y : Option α) : iteB true x y = x := rfl
theorem iteB_f {α : Type} (x y : Option α) : iteB false x y = y := rfl
theorem grd_t {α : Type} {p : Prop} [Decidable p] (x : Option α) (h : p) : grd p x = x := if_pos h
theorem grd_True {α : Type} [Decidable True] (x : Option α) : grd True x = x := if_pos trivial
theorem bind_some' {α β : Type} (v : α) (g : α → Option β) : (some v).bind g = g v := rfl
theorem w64 {n : Int} (h : -9223372036854775808 ≤ n ∧ n ≤ 9223372036854775807) : IntKind.wrap .i64 n = n := Go.IntWalk.i64_in _ h
theorem w32 {n : Int} (h : -2147483648 ≤ n ∧ n ≤ 2147483647) : IntKind.wrap .i32 n = n := Go.IntWalk.i32_in _ h
theorem wu8 {n : Int} (h : 0 ≤ n ∧ n ≤ 255) : IntKind.wrap .u8 n = n := Go.IntWalk.u8_in _ h
theorem wu32 {n : Int} (h : 0 ≤ n ∧ n ≤ 4294967295) : IntKind.wrap .u32 n = n := Go.IntWalk.u32_in _ h
theorem wu64 {n : Int} (h : 0 ≤ n ∧ n ≤ 18446744073709551615) : IntKind.wrap .u64 n = n := Go.IntWalk.u64_in _ h
/-- Bytes as numbers. -/
theorem u8_beq (a b : UInt8) : ((a.toNat : Int) == (b.toNat : Int)) = (a == b) := by
  rw [Bool.eq_iff_iff, beq_iff_eq, beq_iff_eq]
  exact ⟨fun h => UInt8.toNat_inj.1 (by omega), fun h => by rw [h]⟩
theorem u8_lit (a : UInt8) (k : Nat) (hk : k < 256) : ((a.toNat : Int) == ((k : Nat) : Int)) = (a == UInt8.ofNat k) := by
  rw [Bool.eq_iff_iff, beq_iff_eq, beq_iff_eq]
  constructor
  · intro h
    apply UInt8.toNat_inj.1
    rw [UInt8.toNat_ofNat']
    omega
  · intro h
    subst h
    rw [UInt8.toNat_ofNat']
    omega
theorem u8_lt (a : UInt8) : (0 : Int) ≤ (a.toNat : Int) ∧ (a.toNat : Int) ≤ 255 := by
  have := a.toNat_lt; omega
theorem drop_cons {α : Type} (l : List α) (i : Nat) (d : α) (h : i < l.length) : l.drop i = l.getD i d :: l.drop (i + 1) := by
  rw [List.drop_eq_getElem_cons h, List.getD_eq_getElem?_getD, List.getElem?_eq_getElem h]; rfl
theorem toNat_nat (n : Nat) : ((n : Int)).toNat = n := rfl
end Go.Proofs.YtbdkofondpalpaaX

/- Bytes as numbers. Of no program. -/
set_option linter.unusedVariables false
set_option linter.unusedSimpArgs false
namespace Go.Proofs.YtbdkofondpalpaaX
open Go

def Bytes (l : List Int) : Prop := ∀ x ∈ l, 0 ≤ x ∧ x ≤ 255
theorem Bytes.nil : Bytes [] := by intro x hx; cases hx
theorem Bytes.cons {a : Int} {r : List Int} (h : 0 ≤ a ∧ a ≤ 255) (hr : Bytes r) : Bytes (a :: r) := by
  intro x hx
  rcases List.mem_cons.1 hx with rfl | hx
  · exact h
  · exact hr x hx
theorem Bytes.head {a : Int} {r : List Int} (h : Bytes (a :: r)) : 0 ≤ a ∧ a ≤ 255 := h a (by simp)
theorem Bytes.tail {a : Int} {r : List Int} (h : Bytes (a :: r)) : Bytes r := fun x hx => h x (by simp [hx])
theorem Bytes.drop {l : List Int} (h : Bytes l) (n : Nat) : Bytes (l.drop n) := fun x hx => h x (List.mem_of_mem_drop hx)
theorem Bytes.append {l r : List Int} (h : Bytes l) (h' : Bytes r) : Bytes (l ++ r) := fun x hx => by
  rcases List.mem_append.1 hx with hx | hx
  · exact h x hx
  · exact h' x hx
def bt (s : List UInt8) (i : Nat) : Int := ((s.getD i 0).toNat : Int)
def ints (s : List UInt8) : List Int := s.map ofB
theorem ints_len (s : List UInt8) : (ints s).length = s.length := by simp [ints]
theorem ints_bytes (s : List UInt8) : Bytes (ints s) := by
  intro x hx
  unfold ints at hx
  obtain ⟨c, _, rfl⟩ := List.mem_map.1 hx
  exact u8_lt c
theorem ints_drop (s : List UInt8) (i : Nat) : ints (s.drop i) = (ints s).drop i := by simp [ints, List.map_drop]
theorem ints_take (s : List UInt8) (i : Nat) : ints (s.take i) = (ints s).take i := by simp [ints, List.map_take]
theorem bt_bd (s : List UInt8) (i : Nat) : 0 ≤ bt s i ∧ bt s i ≤ 255 := u8_lt _
theorem ints_get (s : List UInt8) (i : Nat) : (ints s).getD i 0 = bt s i := by
  unfold ints bt
  rw [List.getD_eq_getElem?_getD, List.getElem?_map, List.getD_eq_getElem?_getD]
  cases s[i]? <;> rfl
theorem drop_bt (s : List UInt8) (i : Nat) (h : i < s.length) : (ints s).drop i = bt s i :: (ints s).drop (i + 1) := by
  rw [drop_cons (ints s) i 0 (by rw [ints_len]; exact h), ints_get]
theorem ofB_toB {x : Int} (h : 0 ≤ x ∧ x ≤ 255) : ofB (toB x) = x := by
  unfold ofB toB
  rw [UInt8.toNat_ofNat']
  omega
theorem map_toB_eq {l : List Int} (hl : Bytes l) (t : List UInt8) : (l.map toB == t) = decide (l = ints t) := by
  rw [Bool.eq_iff_iff, beq_iff_eq, decide_eq_true_eq]
  constructor
  · rintro rfl
    unfold ints
    rw [List.map_map]
    conv => lhs; rw [← List.map_id l]
    exact List.map_congr_left fun x hx => (ofB_toB (hl x hx)).symm
  · rintro rfl
    unfold ints
    rw [List.map_map]
    conv => rhs; rw [← List.map_id t]
    refine List.map_congr_left fun x _ => ?_
    show UInt8.ofNat ((x.toNat : Int)).toNat = x
    rw [toNat_nat]; simp
theorem ints_cons (s : List UInt8) (h : s.length ≠ 0) : ∃ a r, ints s = a :: r := by
  cases hb : ints s with
  | nil => have := ints_len s; rw [hb] at this; simp at this; omega
  | cons a r => exact ⟨a, r, rfl⟩
theorem of_ints {s : List UInt8} {l : List Int} (h : ints s = l) : s = l.map toB := by
  have hb : Bytes l := h ▸ ints_bytes s
  have := map_toB_eq hb s
  rw [h, decide_eq_true rfl] at this
  exact (beq_iff_eq.1 this).symm
theorem ints_toB {l : List Int} (h : Bytes l) : ints (l.map toB) = l := by
  have := map_toB_eq h (l.map toB)
  rw [beq_self_eq_true] at this
  exact (of_decide_eq_true this.symm).symm
theorem toB_inj : ∀ {a b : List Int}, Bytes a → Bytes b → a.map toB = b.map toB → a = b := fun ha hb h => by
  have := congrArg ints h
  rwa [ints_toB ha, ints_toB hb] at this
theorem bq {a b : Int} (h : ¬ a = b) : (a == b) = false := beq_eq_false_iff_ne.2 h
theorem bqt {a b : Int} (h : a = b) : (a == b) = true := by rw [h]; exact beq_self_eq_true b
theorem all_bytes {l : List Int} (h : Bytes l) : (l.all fun x => decide (0 ≤ x) && decide (x < 256)) = true := by
  rw [List.all_eq_true]
  intro x hx
  have := h x hx
  simp only [Bool.and_eq_true, decide_eq_true_eq]
  omega
theorem bs_bool {p : Prop} [Decidable p] {b : Bool} (h : (b = true) ↔ p) : b = decide p := by
  cases b with
  | true => exact (decide_eq_true (h.1 rfl)).symm
  | false => exact (decide_eq_false (fun e => by cases h.2 e)).symm
theorem g64 (i : Nat) (h : i ≤ 1000000000) : IntKind.wrap .i64 ((i : Int) + 1) = ((i + 1 : Nat) : Int) := by rw [w64 (by omega)]; omega
end Go.Proofs.YtbdkofondpalpaaX

/- Fields that are few. -/
set_option linter.unusedVariables false
set_option linter.unusedSimpArgs false
namespace Go.Proofs.YtbdkofondpalpaaX
open Go

abbrev Fld := List UInt8 × List UInt8
/-! ### Fields that are few -/
def wF (f : Fld) : Nat := 10 + min f.1.length 900 + min f.2.length 900
def fits : List Fld → Nat → Bool
  | [], _ => true
  | f :: r, a => decide (a + wF f ≤ 900) && fits r (a + wF f)
def totF (l : List Fld) : Nat := (l.map fun f => f.1.length + f.2.length).sum
theorem fits_tot : ∀ (l : List Fld) (a : Nat), a ≤ 900 → fits l a = true → a + totF l + 10 * l.length ≤ 900
  | [], a, ha, _ => by simp [totF]; exact ha
  | f :: r, a, ha, h => by
    simp only [fits, Bool.and_eq_true, decide_eq_true_eq] at h
    obtain ⟨h1, h2⟩ := h
    have h3 := fits_tot r (a + wF f) h1 h2
    have h5 : totF (f :: r) = f.1.length + f.2.length + totF r := by simp [totF]
    rw [h5, List.length_cons]
    have : f.1.length + f.2.length + 10 ≤ wF f := by unfold wF at h1 ⊢; omega
    omega
theorem own_loop (l : List Fld) : ∀ (d i a : Nat) (x : List Fld), i + d = l.length → a ≤ 900 → 10 * i ≤ a → x = l.take i →
    Ev (fun n => F5_L1 n l (a : Int) (i : Int) x) (if fits (l.drop i) a = true then (l, true) else ([], false)) := by
  intro d
  induction d with
  | zero =>
    intro i a x hi ha h10 hx
    rw [List.drop_of_length_le (by omega), if_pos (show fits [] a = true from rfl)]
    refine Ev.step (Ev.pure.congr fun n => ?_)
    rw [F5_L1, decide_eq_false (by omega), iteB_f, hx, List.take_of_length_le (by omega)]
  | succ d ih =>
    intro i a x hi ha h10 hx
    have hd : l.drop i = l.getD i default :: l.drop (i + 1) := drop_cons l i default (by omega)
    have htk : l.take (i + 1) = l.take i ++ [l.getD i default] := by
      rw [List.take_add_one, List.getD_eq_getElem?_getD, List.getElem?_eq_getElem (by omega)]; rfl
    rw [hd]
    generalize hf : l.getD i default = f at htk ⊢
    have hm : ∀ k : Nat, (if (900 : Int) < (k : Int) then (900 : Int) else (k : Int)) = ((min k 900 : Nat) : Int) := by
      intro k; split <;> omega
    have hw : IntKind.wrap .i64 (IntKind.wrap .i64 (IntKind.wrap .i64 ((a : Int) + 10) + ((min f.1.length 900 : Nat) : Int)) + ((min f.2.length 900 : Nat) : Int)) = ((a + wF f : Nat) : Int) := by
      rw [w64 (n := (a : Int) + 10) (by omega), w64 (n := (a : Int) + 10 + _) (by omega), w64 (by omega)]
      unfold wF; omega
    have hxl : x.length ≤ 90 := by rw [hx, List.length_take]; omega
    simp only [fits, Bool.and_eq_true, decide_eq_true_eq]
    by_cases h9 : a + wF f ≤ 900
    · have h10' : 10 * (i + 1) ≤ a + wF f := by unfold wF; omega
      have ih' := ih (i + 1) (a + wF f) (x ++ [f]) (by omega) h9 h10' (by rw [htk, hx])
      have hc : (a + wF f ≤ 900 ∧ fits (l.drop (i + 1)) (a + wF f) = true) ↔ (fits (l.drop (i + 1)) (a + wF f) = true) := ⟨fun h => h.2, fun h => ⟨h9, h⟩⟩
      rw [show (if a + wF f ≤ 900 ∧ fits (l.drop (i + 1)) (a + wF f) = true then (l, true) else (([] : List Fld), false)) = (if fits (l.drop (i + 1)) (a + wF f) = true then (l, true) else ([], false)) by simp only [hc]]
      refine Ev.step (ih'.congr fun n => ?_)
      rw [F5_L1, decide_eq_true (by omega), iteB_t, toNat_nat, hf, hm, hm, hw, g64 i (by omega), decide_eq_false (by omega), iteB_f, grd_t _ (by omega), grd_t _ (by omega), grd_t _ (by omega), grd_t _ (by omega)]
    · rw [if_neg (fun h => h9 h.1)]
      refine Ev.step (Ev.pure.congr fun n => ?_)
      rw [F5_L1, decide_eq_true (by omega), iteB_t, toNat_nat, hf, hm, hm, hw, decide_eq_true (by omega), iteB_t, grd_t _ (by omega), grd_t _ (by omega)]
theorem ev_own (l : List Fld) : Ev (fun n => F5 n l) (if fits l 0 = true then (l, true) else ([], false)) :=
  (own_loop l l.length 0 0 [] (by omega) (by omega) (by omega) rfl).congr fun n => rfl
end Go.Proofs.YtbdkofondpalpaaX

/- Small letters: hex.Lower, and the reference's. -/
set_option linter.unusedVariables false
set_option linter.unusedSimpArgs false
namespace Go.Proofs.YtbdkofondpalpaaX
open Go

theorem kind_fin : ∀ c : Fin 256, F39 0 (c.val : Int) = some (kindOf (c.val : Int)) := by decide +kernel
theorem rKind_eq (n : Nat) (c : UInt8) : F39 n (c.toNat : Int) = some (kindOf (c.toNat : Int)) := kind_fin ⟨c.toNat, c.toNat_lt⟩
def lowI (x : Int) : Int := if kindOf x = 4 then x + 32 else x
/-- A text in small letters. -/
def lowT (s : List UInt8) : List UInt8 := ((ints s).map lowI).map toB
theorem low_wrap {x : Int} (h : kindOf x = 4) : IntKind.wrap .u8 (x + 32) = x + 32 := by
  unfold kindOf at h
  refine wu8 ?_
  repeat' split at h
  all_goals first | omega | (simp at h)
theorem set_low (l : List Int) (i : Nat) (h : i < l.length) : (((l.take i).map lowI) ++ l.drop i).set i (lowI (l.getD i 0)) = ((l.take (i + 1)).map lowI) ++ l.drop (i + 1) := by
  have hl : ((l.take i).map lowI).length = i := by rw [List.length_map, List.length_take]; omega
  rw [List.set_append_right _ _ (by omega), hl, Nat.sub_self, drop_cons l i 0 h, List.set_cons_zero, List.take_add_one, List.map_append, List.append_assoc]
  congr 1
  rw [List.getD_eq_getElem?_getD, List.getElem?_eq_getElem h]
  rfl
theorem low_loop (s : List UInt8) (hs : s.length ≤ 1000000000) : ∀ (d i : Nat), i + d = s.length → Ev (fun n => F37_L1 n s (i : Int) ((((ints s).take i).map lowI) ++ (ints s).drop i)) (lowT s) := by
  intro d
  induction d with
  | zero =>
    intro i hi
    rw [List.take_of_length_le (by rw [ints_len]; omega), List.drop_of_length_le (by rw [ints_len]; omega), List.append_nil]
    refine Ev.step (Ev.pure.congr fun n => ?_)
    rw [F37_L1, decide_eq_false (by omega), iteB_f]; rfl
  | succ d ih =>
    intro i hi
    have hlen : ((((ints s).take i).map lowI) ++ (ints s).drop i).length = s.length := by simp [ints_len]; omega
    have hti : (((ints s).take i).map lowI).length = i := by rw [List.length_map, List.length_take, ints_len]; omega
    have hget : ((((ints s).take i).map lowI) ++ (ints s).drop i).getD i default = bt s i := by
      rw [List.getD_eq_getElem?_getD, List.getElem?_append_right (by omega), hti, Nat.sub_self, drop_bt s i (by omega)]; rfl
    have hset := set_low (ints s) i (by rw [ints_len]; omega)
    rw [ints_get] at hset
    refine Ev.step ((ih (i + 1) (by omega)).congr fun n => ?_)
    rw [F37_L1, decide_eq_true (by omega), iteB_t, toNat_nat, g64 i (by omega), hget, hlen]
    simp only [grd_t _ (show 0 ≤ (i : Int) ∧ (i : Int) < (s.length : Int) by omega), grd_t _ (show i < s.length by omega)]
    rw [show F46 n (bt s i) = some (kindOf (bt s i)) from rfl, bind_some', ← hset]
    by_cases h4 : kindOf (bt s i) = 4
    · rw [show (kindOf (bt s i) == 4) = true by rw [h4]; rfl, iteB_t, low_wrap h4, show lowI (bt s i) = bt s i + 32 from if_pos h4]
    · rw [show (kindOf (bt s i) == 4) = false from bq h4, iteB_f, show lowI (bt s i) = bt s i from if_neg h4]
      have hg : ((((ints s).take i).map lowI) ++ (ints s).drop i)[i]? = some (bt s i) := by
        rw [List.getElem?_append_right (by omega), hti, Nat.sub_self, drop_bt s i (by omega)]; rfl
      have he : ((((ints s).take i).map lowI) ++ (ints s).drop i).set i (bt s i) = (((ints s).take i).map lowI) ++ (ints s).drop i := by
        refine List.ext_getElem? fun j => ?_
        rw [List.getElem?_set]
        split
        · rename_i hij
          subst hij
          rw [hg, if_pos (by omega)]
        · rfl
      rw [he]
theorem ev_Lower (s : List UInt8) (hs : s.length ≤ 1000000000) : Ev (fun n => F37 n s) (lowT s) :=
  (low_loop s hs s.length 0 (by omega)).congr fun n => rfl
theorem rlow_loop (s : List UInt8) (hs : s.length ≤ 1000000000) : ∀ (d i : Nat) (l : List Int), i + d = s.length → l = ((ints s).take i).map lowI → Ev (fun n => F22_L1 n s (i : Int) l) (lowT s) := by
  intro d
  induction d with
  | zero =>
    intro i l hi hl
    rw [List.take_of_length_le (by rw [ints_len]; omega)] at hl
    subst hl
    refine Ev.step (Ev.pure.congr fun n => ?_)
    rw [F22_L1, decide_eq_false (by omega), iteB_f]; rfl
  | succ d ih =>
    intro i l hi hl
    have hll : l.length = i := by rw [hl, List.length_map, List.length_take, ints_len]; omega
    have htk : l ++ [lowI (bt s i)] = ((ints s).take (i + 1)).map lowI := by
      rw [hl, List.take_add_one, List.map_append]
      congr 1
      have h := ints_get s i
      rw [List.getD_eq_getElem?_getD] at h
      rw [List.getElem?_eq_getElem (by rw [ints_len]; omega)] at h ⊢
      simp only [Option.getD_some] at h
      simp [h]
    refine Ev.step ((ih (i + 1) _ (by omega) htk).congr fun n => ?_)
    rw [F22_L1, decide_eq_true (by omega), iteB_t, toNat_nat, grd_t _ (by omega), g64 i (by omega), rKind_eq, bind_some']
    show iteB (kindOf (bt s i) == 4) (grd _ (F22_L1 n s _ (l ++ [IntKind.wrap .u8 (bt s i + 32)]))) (grd _ (F22_L1 n s _ (l ++ [bt s i]))) = _
    by_cases h4 : kindOf (bt s i) = 4
    · rw [show (kindOf (bt s i) == 4) = true by rw [h4]; rfl, iteB_t, low_wrap h4, show lowI (bt s i) = bt s i + 32 from if_pos h4, grd_t _ (by omega)]
    · rw [show (kindOf (bt s i) == 4) = false from bq h4, iteB_f, show lowI (bt s i) = bt s i from if_neg h4, grd_t _ (by omega)]
theorem ev_rLower (s : List UInt8) (hs : s.length ≤ 1000000000) : Ev (fun n => F22 n s) (lowT s) :=
  (rlow_loop s hs s.length 0 [] (by omega) rfl).congr fun n => rfl
end Go.Proofs.YtbdkofondpalpaaX

/- Blanks at both ends: words, and the reference's. -/
set_option linter.unusedVariables false
set_option linter.unusedSimpArgs false
namespace Go.Proofs.YtbdkofondpalpaaX
open Go

def isBl (c : UInt8) : Bool := c == 32 || c == 9
def trimL : List UInt8 → List UInt8
  | [] => []
  | c :: l => if isBl c = true then trimL l else c :: l
def trimR : List UInt8 → List UInt8
  | [] => []
  | c :: l => if trimR l = [] then (if isBl c = true then [] else [c]) else c :: trimR l
/-- Without the blanks at both ends. -/
def trimT (s : List UInt8) : List UInt8 := trimL (trimR s)
theorem bl_contains (c : UInt8) : ([32, 9] : List UInt8).contains c = isBl c := by
  simp only [List.contains_cons, List.contains_nil, Bool.or_false, isBl]
theorem trimR_snoc (c : UInt8) : ∀ l : List UInt8, trimR (l ++ [c]) = if isBl c = true then trimR l else l ++ [c]
  | [] => by
    show (if trimR [] = [] then _ else _) = _
    rw [if_pos (show trimR [] = [] from rfl)]; rfl
  | x :: l => by
    rw [show (x :: l) ++ [c] = x :: (l ++ [c]) from rfl, trimR, trimR_snoc c l]
    by_cases h : isBl c = true
    · rw [if_pos h, if_pos h, trimR]
    · rw [if_neg h, if_neg h, if_neg (by simp)]
theorem rev_ind {α : Type} {p : List α → Prop} (h0 : p []) (h1 : ∀ l a, p l → p (l ++ [a])) : ∀ l, p l := by
  intro l
  rw [← List.reverse_reverse l]
  generalize l.reverse = m
  induction m with
  | nil => exact h0
  | cons a m ih => rw [List.reverse_cons]; exact h1 _ _ ih
theorem trim_comm : ∀ l : List UInt8, trimL (trimR l) = trimR (trimL l)
  | [] => rfl
  | c :: l => by
    have ih := trim_comm l
    by_cases h : isBl c = true
    · rw [show trimL (c :: l) = trimL l by rw [trimL, if_pos h], ← ih, trimR]
      by_cases hr : trimR l = []
      · rw [if_pos hr, if_pos h, hr]
      · rw [if_neg hr, trimL, if_pos h]
    · rw [show trimL (c :: l) = c :: l by rw [trimL, if_neg h], trimR]
      by_cases hr : trimR l = []
      · rw [if_pos hr, if_neg h, trimL, if_neg h]
      · rw [if_neg hr, trimL, if_neg h]
theorem trimL_len : ∀ l : List UInt8, (trimL l).length ≤ l.length
  | [] => Nat.le_refl _
  | c :: l => by
    have := trimL_len l
    rw [trimL]; split <;> simp <;> omega
theorem trimR_len : ∀ l : List UInt8, (trimR l).length ≤ l.length
  | [] => Nat.le_refl _
  | c :: l => by
    have := trimR_len l
    rw [trimR]; split
    · split <;> simp
    · simp; omega
theorem trimT_len (l : List UInt8) : (trimT l).length ≤ l.length := Nat.le_trans (trimL_len _) (trimR_len _)
theorem blank_eq (n : Nat) (c : UInt8) : F27 n (c.toNat : Int) = some (isBl c) := by
  unfold F27 isBl
  rw [show ((c.toNat : Int) == 32) = (c == 32) from u8_lit c 32 (by omega), show ((c.toNat : Int) == 9) = (c == 9) from u8_lit c 9 (by omega)]
  cases (c == 32) <;> rfl
theorem ev_trimR2 (l : List UInt8) : l.length ≤ 1000000000 → Ev (fun n => F26_L2 n l) (trimR l) ∧ Ev (fun n => F26_L3 n l) (trimR l) := by
  induction l using rev_ind with
  | h0 => exact fun _ => ⟨Ev.step (Ev.pure.congr fun n => by rw [F26_L2]; rfl), Ev.step (Ev.pure.congr fun n => by rw [F26_L3]; rfl)⟩
  | h1 l c ih =>
    intro hl
    have hl' : l.length + 1 ≤ 1000000000 := by simpa using hl
    have e1 : IntKind.wrap .i64 (((l ++ [c]).length : Int) - 1) = (l.length : Int) := by rw [List.length_append, List.length_singleton, w64 (by omega)]; omega
    have e2 : (l ++ [c]).getD l.length 0 = c := by rw [List.getD_eq_getElem?_getD]; simp
    have e3 : (l ++ [c]).take l.length = l := List.take_left
    have e4 : ((l ++ [c]).length : Int) = (l.length : Int) + 1 := by simp
    obtain ⟨⟨N1, i1⟩, ⟨N2, i2⟩⟩ := ih (by omega)
    rw [trimR_snoc]
    refine ⟨Ev.step ⟨N1, fun n hn => ?_⟩, Ev.step ⟨N2, fun n hn => ?_⟩⟩
    · show F26_L2 (n + 1) (l ++ [c]) = _
      rw [F26_L2, decide_eq_true (by omega), iteB_t, e1, grd_t _ (by omega), toNat_nat, e2, blank_eq, bind_some', e3]
      cases h : isBl c with
      | true => rw [iteB_t, if_pos rfl, grd_t _ (by omega)]; exact i1 n hn
      | false => rw [iteB_f, if_neg (by simp)]
    · show F26_L3 (n + 1) (l ++ [c]) = _
      rw [F26_L3, decide_eq_true (by omega), iteB_t, e1, grd_t _ (by omega), toNat_nat, e2, blank_eq, bind_some', e3]
      cases h : isBl c with
      | true => rw [iteB_t, if_pos rfl, grd_t _ (by omega)]; exact i2 n hn
      | false => rw [iteB_f, if_neg (by simp)]
theorem ev_trim1 : ∀ l : List UInt8, l.length ≤ 1000000000 → Ev (fun n => F26_L1 n l) (trimR (trimL l))
  | [], hl => Ev.step ((ev_trimR2 [] hl).2.congr fun n => by rw [F26_L1]; rfl)
  | c :: l, hl => by
    have hl' : l.length + 1 ≤ 1000000000 := hl
    have e4 : (((c :: l) : List UInt8).length : Int) = (l.length : Int) + 1 := by simp
    rw [trimL]
    by_cases h : isBl c = true
    · rw [if_pos h]
      obtain ⟨N, i1⟩ := ev_trim1 l (by omega)
      refine Ev.step ⟨N, fun n hn => ?_⟩
      show F26_L1 (n + 1) (c :: l) = _
      rw [F26_L1, decide_eq_true (by omega), iteB_t, grd_t _ (by omega), show ((c :: l).getD (0 : Int).toNat 0) = c from rfl, blank_eq, bind_some', h, iteB_t, grd_t _ (by omega)]
      exact i1 n hn
    · rw [if_neg h]
      obtain ⟨N, i1⟩ := (ev_trimR2 (c :: l) hl).1
      refine Ev.step ⟨N, fun n hn => ?_⟩
      show F26_L1 (n + 1) (c :: l) = _
      rw [F26_L1, decide_eq_true (by omega), iteB_t, grd_t _ (by omega), show ((c :: l).getD (0 : Int).toNat 0) = c from rfl, blank_eq, bind_some', show isBl c = false by simpa using h, iteB_f]
      exact i1 n hn
theorem ev_trim (s : List UInt8) (hs : s.length ≤ 1000000000) : Ev (fun n => F26 n s) (trimT s) := by
  unfold trimT
  rw [trim_comm]
  exact (ev_trim1 s hs).congr fun n => rfl
end Go.Proofs.YtbdkofondpalpaaX

/- strings.Builder, plain. -/
set_option linter.unusedVariables false
set_option linter.unusedSimpArgs false
namespace Go.Proofs.YtbdkofondpalpaaX
open Go

theorem bld_String (n : Nat) (b : Bool) (l : List Int) (h : Bytes l) (hl : l.length ≤ 549755813888) : F25 n (b, l) = some (l.map toB, (b, l)) := by
  unfold F25
  exact if_pos ⟨hl, all_bytes h⟩
theorem bld_Write (n : Nat) (b : Bool) (l : List Int) (s : List UInt8) (hl : l.length + s.length ≤ 549755813888) : F23 n (b, l) s = some ((s.length : Int), (), true, l ++ ints s) := by
  unfold F23
  rw [show F40 n (b, l) = some (true, l) from rfl, bind_some', grd_t _ hl]
  rfl
end Go.Proofs.YtbdkofondpalpaaX

/- HeaderGets: values of a name, and how fields are signed. -/
set_option linter.unusedVariables false
set_option linter.unusedSimpArgs false
namespace Go.Proofs.YtbdkofondpalpaaX
open Go

theorem toB_ints (s : List UInt8) : (ints s).map toB = s := (of_ints rfl).symm
theorem ints_app (a b : List UInt8) : ints (a ++ b) = ints a ++ ints b := by simp [ints]
/-- The values of a name. -/
def valsT (l : List Fld) (name : List UInt8) : List (List UInt8) := (l.filter fun f => lowT f.1 == name).map (·.2)
theorem vals_cons (f : Fld) (l : List Fld) (name : List UInt8) : valsT (f :: l) name = if (lowT f.1 == name) = true then f.2 :: valsT l name else valsT l name := by
  unfold valsT
  rw [List.filter_cons]
  split <;> rfl
def comS : List UInt8 := [44, 32]
def getT (l : List Fld) (name : List UInt8) : List UInt8 := Lib.join (valsT l name) comS
theorem len_name {l : List Fld} {i : Nat} (h : i < l.length) : (l.getD i default).1.length + (l.getD i default).2.length ≤ totF l := by
  induction l generalizing i with
  | nil => simp at h
  | cons f l ih =>
    have e : totF (f :: l) = f.1.length + f.2.length + totF l := by simp [totF]
    cases i with
    | zero => rw [e]; show f.1.length + f.2.length ≤ _; omega
    | succ i => have := ih (i := i) (by simp at h; omega); rw [e]; show (l.getD i default).1.length + (l.getD i default).2.length ≤ _; omega
theorem vals_len : ∀ (l : List Fld) (name : List UInt8), (valsT l name).length ≤ l.length ∧ ((valsT l name).map (·.length)).sum ≤ totF l
  | [], name => ⟨Nat.le_refl _, Nat.le_refl _⟩
  | f :: l, name => by
    obtain ⟨h1, h2⟩ := vals_len l name
    have e : totF (f :: l) = f.1.length + f.2.length + totF l := by simp [totF]
    rw [vals_cons]
    split
    · simp only [List.length_cons, List.map_cons, List.sum_cons]; omega
    · simp only [List.length_cons]; omega
theorem join_len : ∀ (xs : List (List UInt8)), (Lib.join xs comS).length ≤ (xs.map (·.length)).sum + 2 * xs.length
  | [] => by simp [Lib.join_nil]
  | x :: r => by
    rw [Lib.join_cons]
    have key : ∀ r : List (List UInt8), (Lib.joinTail comS r).length ≤ (r.map (·.length)).sum + 2 * r.length := by
      intro r
      induction r with
      | nil => simp [Lib.joinTail]
      | cons y r ih =>
        have e : Lib.joinTail comS (y :: r) = (comS ++ y) ++ Lib.joinTail comS r := rfl
        rw [e, List.length_append, List.length_append, show comS.length = 2 from rfl, List.map_cons, List.sum_cons, List.length_cons]; omega
    have := key r
    simp; omega
theorem join_snoc (xs : List (List UInt8)) (v : List UInt8) : Lib.join (xs ++ [v]) comS = if xs.length = 0 then v else Lib.join xs comS ++ comS ++ v := by
  cases xs with
  | nil => simp [Lib.join_one]
  | cons x r =>
    rw [if_neg (by simp), List.cons_append, Lib.join_cons, Lib.join_cons]
    simp [Lib.joinTail, List.append_assoc]
theorem get_len (l : List Fld) (name : List UInt8) : (getT l name).length ≤ totF l + 2 * l.length := by
  obtain ⟨h1, h2⟩ := vals_len l name
  have := join_len (valsT l name)
  unfold getT; omega
theorem vals_loop (name : List UInt8) (l : List Fld) (hl : l.length ≤ 1000) (ht : totF l ≤ 1000) : ∀ (d i : Nat) (x : List (List UInt8)), i + d = l.length → x.length ≤ i →
    Ev (fun n => F20_L1 n name l (i : Int) x) (x ++ valsT (l.drop i) name) := by
  intro d
  induction d with
  | zero =>
    intro i x hi hx
    rw [List.drop_of_length_le (by omega)]
    refine Ev.step (Ev.pure.congr fun n => ?_)
    rw [F20_L1, decide_eq_false (by omega), iteB_f]; simp [valsT]
  | succ d ih =>
    intro i x hi hx
    have hd : l.drop i = l.getD i default :: l.drop (i + 1) := drop_cons l i default (by omega)
    have hln := len_name (l := l) (i := i) (by omega)
    rw [hd, vals_cons]
    generalize hf : l.getD i default = f at hln ⊢
    obtain ⟨N1, e1⟩ := ev_Lower f.1 (by omega)
    by_cases h : (lowT f.1 == name) = true
    · rw [if_pos h]
      obtain ⟨N2, e2⟩ := ih (i + 1) (x ++ [f.2]) (by omega) (by simp; omega)
      rw [List.append_assoc] at e2
      refine Ev.step ⟨N1 + N2, fun n hn => ?_⟩
      have q1 := e1 n (by omega)
      have q2 := e2 n (by omega)
      dsimp only at q1 q2
      show F20_L1 (n + 1) name l (i : Int) x = _
      rw [F20_L1, decide_eq_true (by omega), iteB_t, toNat_nat, hf, g64 i (by omega), grd_t _ (by omega), q1, bind_some', h, iteB_t, grd_t _ (by omega), q2]
      rfl
    · rw [if_neg h]
      obtain ⟨N2, e2⟩ := ih (i + 1) x (by omega) (by omega)
      refine Ev.step ⟨N1 + N2, fun n hn => ?_⟩
      have q1 := e1 n (by omega)
      have q2 := e2 n (by omega)
      dsimp only at q1 q2
      show F20_L1 (n + 1) name l (i : Int) x = _
      rw [F20_L1, decide_eq_true (by omega), iteB_t, toNat_nat, hf, g64 i (by omega), grd_t _ (by omega), q1, bind_some', show (lowT f.1 == name) = false by simpa using h, iteB_f, q2]
theorem ev_values (name : List UInt8) (l : List Fld) (hl : l.length ≤ 1000) (ht : totF l ≤ 1000) : Ev (fun n => F20 n l name) (valsT l name) :=
  (vals_loop name l hl ht l.length 0 [] (by omega) (by simp)).congr fun n => rfl
theorem ev_Get (l : List Fld) (name : List UInt8) (hl : l.length ≤ 1000) (ht : totF l ≤ 1000) : Ev (fun n => F6 n l name) (getT l name, decide ((0 : Int) < ((valsT l name).length : Int))) := by
  obtain ⟨N1, e1⟩ := ev_values name l hl ht
  obtain ⟨h1, h2⟩ := vals_len l name
  have h3 := get_len l name
  refine ⟨N1, fun n hn => ?_⟩
  have q1 := e1 n hn
  dsimp only at q1
  show F6 n l name = _
  rw [F6, q1, bind_some', show F21 n (valsT l name) [44, 32] = some (getT l name) from if_pos ⟨by omega, by show (getT l name).length ≤ _; omega⟩, bind_some']
theorem ev_Count (l : List Fld) (name : List UInt8) (hl : l.length ≤ 1000) (ht : totF l ≤ 1000) : Ev (fun n => F8 n l name) ((valsT l name).length : Int) := by
  obtain ⟨N1, e1⟩ := ev_values name l hl ht
  refine ⟨N1, fun n hn => ?_⟩
  have q1 := e1 n hn
  dsimp only at q1
  show F8 n l name = _
  rw [F8, q1, bind_some']
/-! ### The reference's Get -/
theorem rGet_loop (name : List UInt8) (l : List Fld) (hl : l.length ≤ 1000) (ht : totF l ≤ 1000) : ∀ (d i : Nat), i + d = l.length →
    Ev (fun n => F7_L1 n l name (getT (l.take i) name) ((valsT (l.take i) name).length : Int) (i : Int)) (getT l name, ((valsT l name).length : Int)) := by
  intro d
  induction d with
  | zero =>
    intro i hi
    rw [List.take_of_length_le (by omega)]
    refine Ev.step (Ev.pure.congr fun n => ?_)
    rw [F7_L1, decide_eq_false (by omega), iteB_f]
  | succ d ih =>
    intro i hi
    have hln := len_name (l := l) (i := i) (by omega)
    have htk : l.take (i + 1) = l.take i ++ [l.getD i default] := by
      rw [List.take_add_one, List.getD_eq_getElem?_getD, List.getElem?_eq_getElem (by omega)]; rfl
    have ih' := ih (i + 1) (by omega)
    generalize hf : l.getD i default = f at hln htk
    have hva : valsT (l.take (i + 1)) name = if (lowT f.1 == name) = true then valsT (l.take i) name ++ [f.2] else valsT (l.take i) name := by
      rw [htk]; unfold valsT
      rw [List.filter_append, List.map_append, List.filter_cons]
      split <;> simp
    obtain ⟨N1, e1⟩ := ev_rLower f.1 (by omega)
    have hvl : (valsT (l.take i) name).length ≤ 1000 := by
      have := (vals_len (l.take i) name).1
      rw [List.length_take] at this; omega
    have htt : totF (l.take i) ≤ totF l := by
      have e : totF l = totF (l.take i) + totF (l.drop i) := by
        conv => lhs; rw [← List.take_append_drop i l]
        unfold totF
        rw [List.map_append, List.sum_append]
      omega
    have hgl := get_len (l.take i) name
    rw [List.length_take] at hgl
    by_cases h : (lowT f.1 == name) = true
    · rw [if_pos h] at hva
      unfold getT at ih' hgl ⊢
      rw [hva, join_snoc] at ih'
      generalize valsT (l.take i) name = vs at ih' hvl hgl ⊢
      have hw : IntKind.wrap .i64 ((vs.length : Int) + 1) = ((vs ++ [f.2]).length : Int) := by rw [g64 _ (by omega)]; simp
      obtain ⟨N2, e2⟩ := ih'
      refine Ev.step ⟨N1 + N2, fun n hn => ?_⟩
      have q1 := e1 n (by omega)
      have q2 := e2 n (by omega)
      dsimp only at q1 q2
      show F7_L1 (n + 1) l name (Lib.join vs comS) (vs.length : Int) (i : Int) = _
      rw [F7_L1, decide_eq_true (by omega), iteB_t, toNat_nat, hf, grd_t _ (by omega), q1, bind_some', h, Bool.not_true, iteB_f]
      by_cases hz : vs.length = 0
      · rw [if_pos hz] at q2
        obtain rfl := List.eq_nil_of_length_eq_zero hz
        rw [decide_eq_false (by simp), iteB_f, F7_J2, toNat_nat, hf, grd_t _ (by omega), grd_t _ (by simp [Lib.join_nil]; omega), g64 i (by omega), hw]
        exact q2
      · rw [if_neg hz] at q2
        rw [decide_eq_true (by omega), iteB_t, grd_t _ (by omega), F7_J2, toNat_nat, hf, grd_t _ (by omega), grd_t _ (by simp; omega), g64 i (by omega), hw]
        exact q2
    · rw [if_neg h] at hva
      unfold getT at ih' ⊢
      rw [hva] at ih'
      obtain ⟨N2, e2⟩ := ih'
      refine Ev.step ⟨N1 + N2, fun n hn => ?_⟩
      have q1 := e1 n (by omega)
      have q2 := e2 n (by omega)
      dsimp only at q1 q2
      show F7_L1 (n + 1) l name (Lib.join (valsT (l.take i) name) comS) ((valsT (l.take i) name).length : Int) (i : Int) = _
      rw [F7_L1, decide_eq_true (by omega), iteB_t, toNat_nat, hf, grd_t _ (by omega), q1, bind_some', show (lowT f.1 == name) = false by simpa using h, Bool.not_false, iteB_t, g64 i (by omega)]
      exact q2
theorem ev_rGet (l : List Fld) (name : List UInt8) (hl : l.length ≤ 1000) (ht : totF l ≤ 1000) : Ev (fun n => F7 n l name) (getT l name, ((valsT l name).length : Int)) :=
  (rGet_loop name l hl ht l.length 0 (by omega)).congr fun n => rfl
end Go.Proofs.YtbdkofondpalpaaX

/- HeaderGets: how fields are signed, and the law. -/
set_option linter.unusedVariables false
set_option linter.unusedSimpArgs false
namespace Go.Proofs.YtbdkofondpalpaaX
open Go

/-- One blank in the place of blanks side by side. -/
def sgl : Bool → List UInt8 → List UInt8
  | _, [] => []
  | b, c :: r => if isBl c = true then (if b = true then sgl true r else 32 :: sgl true r) else c :: sgl false r
def lst : Bool → List UInt8 → Bool
  | b, [] => b
  | _, c :: r => lst (isBl c) r
theorem sgl_snoc (c : UInt8) : ∀ (l : List UInt8) (b : Bool), sgl b (l ++ [c]) = sgl b l ++ (if isBl c = true then (if lst b l = true then [] else [32]) else [c])
  | [], b => by
    rw [List.nil_append, sgl, sgl, List.nil_append, lst]
    split
    · split <;> rfl
    · rfl
  | x :: l, b => by
    rw [List.cons_append, sgl, sgl, lst]
    by_cases h : isBl x = true
    · rw [if_pos h, if_pos h, h]
      split
      · exact sgl_snoc c l true
      · rw [sgl_snoc c l true]; rfl
    · rw [if_neg h, if_neg h, sgl_snoc c l false, show isBl x = false by simpa using h]; rfl
theorem lst_snoc (c : UInt8) : ∀ (l : List UInt8) (b : Bool), lst b (l ++ [c]) = isBl c
  | [], b => rfl
  | x :: l, b => lst_snoc c l _
/-- Without one blank at the end. -/
def cutE (s : List UInt8) : List UInt8 := if s.drop (s.length - 1) = [32] then s.take (s.length - 1) else s
theorem cutE_snoc (s : List UInt8) (c : UInt8) : cutE (s ++ [c]) = if c = 32 then s else s ++ [c] := by
  unfold cutE
  have e : (s ++ [c]).length - 1 = s.length := by simp
  rw [e, List.drop_left, List.take_left]
  by_cases h : c = 32
  · rw [if_pos (by rw [h]), if_pos h]
  · rw [if_neg (by simpa using h), if_neg h]
theorem cutE_nil : cutE [] = [] := rfl
theorem cut_open (l : List UInt8) : lst true l = false → cutE (sgl true l) = sgl true l := by
  induction l using rev_ind with
  | h0 => intro h; cases h
  | h1 l c _ =>
    intro h
    rw [lst_snoc] at h
    rw [sgl_snoc, if_neg (by rw [h]; simp), cutE_snoc, if_neg]
    rintro rfl
    cases h
theorem cut_sgl (l : List UInt8) : cutE (sgl true l) = sgl true (trimR l) := by
  induction l using rev_ind with
  | h0 => rfl
  | h1 l c ih =>
    rw [trimR_snoc, sgl_snoc]
    by_cases h : isBl c = true
    · rw [if_pos h, if_pos h]
      cases hl : lst true l with
      | true => rw [if_pos rfl, List.append_nil]; exact ih
      | false => rw [if_neg (by simp), cutE_snoc, if_pos rfl, ← ih, cut_open l hl]
    · rw [if_neg h, if_neg h, cutE_snoc, if_neg (by rintro rfl; exact h rfl), sgl_snoc, if_neg h]
theorem sgl_trimL : ∀ l : List UInt8, sgl true (trimL l) = sgl true l
  | [] => rfl
  | c :: l => by
    rw [trimL]
    by_cases h : isBl c = true
    · rw [if_pos h, sgl, if_pos h, if_pos rfl]; exact sgl_trimL l
    · rw [if_neg h]
/-- .. without the blanks at both ends. -/
def sngT (v : List UInt8) : List UInt8 := sgl true (trimT v)
theorem sng_eq (v : List UInt8) : cutE (sgl true v) = sngT v := by
  unfold sngT trimT
  rw [sgl_trimL, cut_sgl]
theorem sgl_len : ∀ (l : List UInt8) (b : Bool), (sgl b l).length ≤ l.length
  | [], _ => Nat.le_refl _
  | c :: l, b => by
    rw [sgl]
    have h1 := sgl_len l true
    have h2 := sgl_len l false
    split
    · split <;> simp <;> omega
    · simp; omega
theorem sng_len (v : List UInt8) : (sngT v).length ≤ v.length := Nat.le_trans (sgl_len _ _) (trimT_len v)
theorem trimT_head (v : List UInt8) : ∀ c r, trimT v = c :: r → isBl c = false := by
  unfold trimT
  generalize trimR v = w
  induction w with
  | nil => intro c r h; cases h
  | cons x l ih =>
    intro c r h
    rw [trimL] at h
    by_cases hx : isBl x = true
    · rw [if_pos hx] at h; exact ih c r h
    · rw [if_neg hx] at h; cases h; simpa using hx
/-! ### The program's -/
theorem ix_fin : ∀ k : Fin 256, decide ((0 : Int) ≤ Lib.indexByte [32, 9] (UInt8.ofNat k.val)) = isBl (UInt8.ofNat k.val) := by decide +kernel
theorem ix_eq (n : Nat) (c : UInt8) : ∃ v : Int, F41 n [32, 9] (c.toNat : Int) = some v ∧ decide ((0 : Int) ≤ v) = isBl c := by
  refine ⟨Lib.indexByte [32, 9] c, ?_, ?_⟩
  · rw [F41, F57, bind_some', toNat_nat, show c.toNat.toUInt8 = c by simp]
  · have h := ix_fin ⟨c.toNat, c.toNat_lt⟩
    simpa using h
theorem Suffix_eq (n : Nat) (s : List UInt8) (hs : s.length ≤ 1000000) : F43 n s [32] = some (cutE s) := by
  rw [F43, F58, F73, show (([32] : List UInt8).length : Int) = 1 from rfl]
  cases s with
  | nil => rfl
  | cons a r =>
    have e : IntKind.wrap .i64 (((a :: r).length : Int) - 1) = (((a :: r).length - 1 : Nat) : Int) := by rw [w64 (by omega)]; simp
    have e1 : (a :: r).length = r.length + 1 := rfl
    rw [decide_eq_true (by omega), iteB_t, e, toNat_nat, grd_t _ (by omega), bind_some']
    unfold cutE
    by_cases h : (a :: r).drop ((a :: r).length - 1) = [32]
    · rw [if_pos h, h, beq_self_eq_true, iteB_t, grd_t _ (by omega), bind_some']
    · rw [if_neg h, show ((a :: r).drop ((a :: r).length - 1) == [32]) = false by rw [beq_eq_false_iff_ne]; exact h, iteB_f, bind_some']
theorem bld_Byte (n : Nat) (b : Bool) (t : List UInt8) (c : UInt8) (h : t.length + 1 ≤ 549755813888) : F42 n (b, ints t) (c.toNat : Int) = some ((), true, ints (t ++ [c])) := by
  unfold F42
  rw [show F40 n (b, ints t) = some (true, ints t) from rfl, bind_some', grd_t _ (by rw [ints_len]; exact h), ints_app]
  rfl
theorem single_loop (s : List UInt8) (hs : s.length ≤ 100000) : ∀ (d i : Nat) (x b : Bool) (t : List UInt8), i + d = s.length → t.length ≤ i →
    Ev (fun n => F24_L1 n s x (i : Int) b (ints t)) (cutE (t ++ sgl x (s.drop i))) := by
  intro d
  induction d with
  | zero =>
    intro i x b t hi ht
    rw [List.drop_of_length_le (by omega), show sgl x [] = [] by cases x <;> rfl, List.append_nil]
    refine Ev.step (Ev.pure.congr fun n => ?_)
    rw [F24_L1, decide_eq_false (by omega), iteB_f, bld_String n b _ (ints_bytes t) (by rw [ints_len]; omega), bind_some']
    dsimp only
    rw [toB_ints, Suffix_eq n t (by omega), bind_some']
  | succ d ih =>
    intro i x b t hi ht
    have hd : s.drop i = s.getD i 0 :: s.drop (i + 1) := drop_cons s i 0 (by omega)
    rw [hd, sgl]
    generalize hc : s.getD i 0 = c
    by_cases h : isBl c = true
    · rw [if_pos h]
      cases x with
      | true =>
        rw [if_pos rfl]
        obtain ⟨N, e⟩ := ih (i + 1) true b t (by omega) (by omega)
        refine Ev.step ⟨N, fun n hn => ?_⟩
        have q := e n hn
        dsimp only at q
        obtain ⟨v, hv1, hv2⟩ := ix_eq n c
        show F24_L1 (n + 1) s true (i : Int) b (ints t) = _
        rw [F24_L1, decide_eq_true (by omega), iteB_t, toNat_nat, hc, grd_t _ (by omega), hv1, bind_some', hv2, h, Bool.not_true, iteB_f, iteB_f, g64 i (by omega)]
        exact q
      | false =>
        rw [if_neg (by simp)]
        obtain ⟨N, e⟩ := ih (i + 1) true true (t ++ [32]) (by omega) (by simp; omega)
        rw [List.append_assoc] at e
        refine Ev.step ⟨N, fun n hn => ?_⟩
        have q := e n hn
        dsimp only at q
        obtain ⟨v, hv1, hv2⟩ := ix_eq n c
        show F24_L1 (n + 1) s false (i : Int) b (ints t) = _
        rw [F24_L1, decide_eq_true (by omega), iteB_t, toNat_nat, hc, grd_t _ (by omega), hv1, bind_some', hv2, h, Bool.not_true, iteB_f, Bool.not_false, iteB_t, show F42 n (b, ints t) 32 = _ from bld_Byte n b t 32 (by omega), bind_some', g64 i (by omega)]
        exact q
    · rw [if_neg h]
      have hf : isBl c = false := by simpa using h
      obtain ⟨N, e⟩ := ih (i + 1) false true (t ++ [c]) (by omega) (by simp; omega)
      rw [List.append_assoc] at e
      refine Ev.step ⟨N, fun n hn => ?_⟩
      have q := e n hn
      dsimp only at q
      obtain ⟨v, hv1, hv2⟩ := ix_eq n c
      show F24_L1 (n + 1) s x (i : Int) b (ints t) = _
      rw [F24_L1, decide_eq_true (by omega), iteB_t, toNat_nat, hc, grd_t _ (by omega), hv1, bind_some', hv2, hf, Bool.not_false, iteB_t, grd_t _ (by omega), bld_Byte n b t c (by omega), bind_some', g64 i (by omega)]
      exact q
theorem ev_single (s : List UInt8) (hs : s.length ≤ 100000) : Ev (fun n => F24 n s) (sngT s) := by
  have h := single_loop s hs s.length 0 true false [] (by omega) (by simp)
  rw [List.nil_append, List.drop_zero, sng_eq] at h
  exact h.congr fun n => rfl
/-- A line of a name, as it is signed. -/
def can1 (l : List Fld) (name : List UInt8) : List UInt8 := name ++ [58] ++ sngT (getT l name) ++ [10]
def canT (l : List Fld) (names : List (List UInt8)) : List UInt8 := (names.take 32).flatMap (can1 l)
def small (names : List (List UInt8)) : Prop := ∀ i, i < names.length → (names.getD i default).length ≤ 100
theorem can1_len (l : List Fld) (name : List UInt8) : (can1 l name).length ≤ name.length + totF l + 2 * l.length + 2 := by
  have h1 := sng_len (getT l name)
  have h2 := get_len l name
  unfold can1; simp; omega
theorem canon_loop (l : List Fld) (names : List (List UInt8)) (hl : l.length ≤ 100) (ht : totF l ≤ 1000) (hsm : small names) : ∀ (d i : Nat) (b : Bool) (t : List UInt8), i + d = (names.take 32).length → t.length ≤ 1400 * i →
    Ev (fun n => F9_L1 n l names (i : Int) b (ints t)) (t ++ ((names.take 32).drop i).flatMap (can1 l)) ∧ Ev (fun n => F10_L1 n l names t (i : Int)) (t ++ ((names.take 32).drop i).flatMap (can1 l)) := by
  have hK : names.take (if (32 : Int) < (names.length : Int) then (32 : Int) else (names.length : Int)).toNat = names.take 32 := by
    by_cases h : (32 : Int) < (names.length : Int)
    · rw [if_pos h]; rfl
    · rw [if_neg h, toNat_nat, List.take_of_length_le (Nat.le_refl _), List.take_of_length_le (by omega)]
  have hkl : (names.take 32).length = min 32 names.length := List.length_take
  intro d
  induction d with
  | zero =>
    intro i b t hi hx
    rw [List.drop_of_length_le (by omega), List.flatMap_nil, List.append_nil]
    refine ⟨Ev.step (Ev.pure.congr fun n => ?_), Ev.step (Ev.pure.congr fun n => ?_)⟩
    · rw [F9_L1]
      simp only [hK]
      rw [decide_eq_false (by omega), iteB_f, bld_String n b _ (ints_bytes t) (by rw [ints_len]; omega), bind_some', toB_ints]
    · rw [F10_L1]
      by_cases h : i < names.length
      · rw [decide_eq_true (by omega), iteB_t, decide_eq_false (by omega), iteB_f]
      · rw [decide_eq_false (by omega), iteB_f]
  | succ d ih =>
    intro i b t hi hx
    have hd : (names.take 32).drop i = (names.take 32).getD i default :: (names.take 32).drop (i + 1) := drop_cons _ i default (by omega)
    have hg : (names.take 32).getD i default = names.getD i default := by
      rw [List.getD_eq_getElem?_getD, List.getD_eq_getElem?_getD, List.getElem?_take, if_pos (by omega)]
    have hn100 := hsm i (by omega)
    rw [hd, hg, List.flatMap_cons]
    generalize hnm : names.getD i default = nm at hn100 hg ⊢
    have hc1 := can1_len l nm
    have h1 := sng_len (getT l nm)
    have h2 := get_len l nm
    obtain ⟨⟨N1, i1⟩, ⟨N2, i2⟩⟩ := ih (i + 1) true (t ++ can1 l nm) (by omega) (by simp; omega)
    rw [List.append_assoc] at i1 i2
    obtain ⟨M1, j1⟩ := ev_Get l nm (by omega) (by omega)
    obtain ⟨M2, j2⟩ := ev_single (getT l nm) (by omega)
    obtain ⟨M3, j3⟩ := ev_rGet l nm (by omega) (by omega)
    obtain ⟨M4, j4⟩ := ev_trim (getT l nm) (by omega)
    refine ⟨Ev.step ⟨N1 + M1 + M2, fun n hn => ?_⟩, ?_⟩
    · have q0 := i1 n (by omega)
      have q1 := j1 n (by omega)
      have q2 := j2 n (by omega)
      dsimp only at q0 q1 q2
      show F9_L1 (n + 1) l names (i : Int) b (ints t) = _
      rw [F9_L1]
      simp only [hK, toNat_nat, hg]
      rw [decide_eq_true (by omega), iteB_t, grd_t _ (by omega), q1, bind_some', grd_t _ (by omega)]
      dsimp only
      rw [q2, bind_some', grd_t _ (by omega), grd_t _ (by omega)]
      show (F23 n (b, ints t) (can1 l nm)).bind _ = _
      rw [bld_Write n b _ _ (by rw [ints_len]; omega), bind_some']
      dsimp only
      rw [← ints_app, g64 i (by omega), q0]
    · -- the reference's
      have hv := trimT_head (getT l nm)
      have hvl := trimT_len (getT l nm)
      have hin : ∀ (d k : Nat) (last : Bool) (x : List UInt8), k + d = (trimT (getT l nm)).length → (0 < k → last = isBl ((trimT (getT l nm)).getD (k - 1) 0)) → x.length ≤ 1400 * i + 110 + k →
          Ev (fun n => F10_L1 n l names (x ++ sgl last ((trimT (getT l nm)).drop k) ++ [10]) ((i + 1 : Nat) : Int)) (t ++ (can1 l nm ++ ((names.take 32).drop (i + 1)).flatMap (can1 l))) →
          Ev (fun n => F10_L2 n l names (i : Int) (trimT (getT l nm)) x (k : Int)) (t ++ (can1 l nm ++ ((names.take 32).drop (i + 1)).flatMap (can1 l))) := by
        generalize trimT (getT l nm) = v at hv hvl
        intro d
        induction d with
        | zero =>
          intro k last x hk hlast hxl hnext
          rw [List.drop_of_length_le (by omega), show sgl last [] = [] by cases last <;> rfl, List.append_nil] at hnext
          refine Ev.step (hnext.congr fun n => ?_)
          rw [F10_L2, decide_eq_false (by omega), iteB_f, grd_t _ (by omega), g64 i (by omega)]
        | succ d ihd =>
          intro k last x hk hlast hxl hnext
          have hdk : v.drop k = v.getD k 0 :: v.drop (k + 1) := drop_cons v k 0 (by omega)
          rw [hdk, sgl] at hnext
          have hone : (v.take (k + 1)).drop k = [v.getD k 0] := by
            rw [List.drop_take, hdk, Nat.add_sub_cancel_left]; rfl
          by_cases h : isBl (v.getD k 0) = true
          · have hk0 : 0 < k := by
              rcases Nat.eq_zero_or_pos k with rfl | h'
              · rw [List.drop_zero] at hdk
                have := hv _ _ hdk
                rw [this] at h; cases h
              · exact h'
            have hl := hlast hk0
            rw [if_pos h] at hnext
            have hwm : IntKind.wrap .i64 ((k : Int) - 1) = ((k - 1 : Nat) : Int) := by rw [w64 (by omega)]; omega
            cases last with
            | true =>
              rw [if_pos rfl] at hnext
              refine Ev.step ((ihd (k + 1) true x (by omega) (fun _ => by rw [Nat.add_sub_cancel]; exact h.symm) (by omega) hnext).congr fun n => ?_)
              rw [F10_L2, decide_eq_true (by omega), iteB_t, toNat_nat, grd_t _ (by omega), blank_eq, bind_some', h, Bool.not_true, iteB_f, hwm, toNat_nat, grd_t _ (by omega), blank_eq, bind_some', ← hl, Bool.not_true, iteB_f, g64 k (by omega)]
            | false =>
              rw [if_neg (by simp), show x ++ (32 :: sgl true (v.drop (k + 1))) = (x ++ [32]) ++ sgl true (v.drop (k + 1)) by simp] at hnext
              refine Ev.step ((ihd (k + 1) true (x ++ [32]) (by omega) (fun _ => by rw [Nat.add_sub_cancel]; exact h.symm) (by simp; omega) hnext).congr fun n => ?_)
              rw [F10_L2, decide_eq_true (by omega), iteB_t, toNat_nat, grd_t _ (by omega), blank_eq, bind_some', h, Bool.not_true, iteB_f, hwm, toNat_nat, grd_t _ (by omega), blank_eq, bind_some', ← hl, Bool.not_false, iteB_t, grd_t _ (by omega), g64 k (by omega)]
          · have hf : isBl (v.getD k 0) = false := by simpa using h
            rw [if_neg h, show x ++ (v.getD k 0 :: sgl false (v.drop (k + 1))) = (x ++ [v.getD k 0]) ++ sgl false (v.drop (k + 1)) by simp] at hnext
            refine Ev.step ((ihd (k + 1) false (x ++ [v.getD k 0]) (by omega) (fun _ => by rw [Nat.add_sub_cancel]; exact hf.symm) (by simp; omega) hnext).congr fun n => ?_)
            rw [F10_L2, decide_eq_true (by omega), iteB_t, toNat_nat, grd_t _ (by omega), blank_eq, bind_some', hf, Bool.not_false, iteB_t, g64 k (by omega), toNat_nat, hone, grd_t _ (by omega), grd_t _ (by simp; omega)]
      have hh := hin (trimT (getT l nm)).length 0 true (t ++ nm ++ [58]) (by omega) (fun h => by omega) (by simp; omega) (by
        rw [List.drop_zero, show (t ++ nm ++ [58]) ++ sgl true (trimT (getT l nm)) ++ [10] = t ++ can1 l nm by simp [can1, sngT, List.append_assoc]]
        exact ⟨N2, i2⟩)
      obtain ⟨M5, j5⟩ := hh
      refine Ev.step ⟨M3 + M4 + M5, fun n hn => ?_⟩
      have q3 := j3 n (by omega)
      have q4 := j4 n (by omega)
      have q5 := j5 n (by omega)
      dsimp only at q3 q4 q5
      show F10_L1 (n + 1) l names t (i : Int) = _
      rw [F10_L1, toNat_nat, hnm, decide_eq_true (by omega), iteB_t, decide_eq_true (by omega), iteB_t, grd_t _ (by omega), q3, bind_some']
      dsimp only
      rw [q4, bind_some', grd_t _ (by omega), grd_t _ (by omega), grd_t _ (by omega)]
      exact q5
theorem ev_Canon (l : List Fld) (names : List (List UInt8)) (hl : l.length ≤ 100) (ht : totF l ≤ 1000) (hsm : small names) : Ev (fun n => F9 n l names) (canT l names) ∧ Ev (fun n => F10 n l names) (canT l names) := by
  obtain ⟨h1, h2⟩ := canon_loop l names hl ht hsm (names.take 32).length 0 false [] (by omega) (by simp)
  refine ⟨h1.congr fun n => ?_, h2.congr fun n => rfl⟩
  rw [F9, grd_t _ (by split <;> omega)]
  rfl
theorem can_one : canT [([65], [120, 32, 32, 121])] [[97]] = [97, 58, 120, 32, 121, 10] := by decide
theorem gets_loop (l : List Fld) (names : List (List UInt8)) (hl : l.length ≤ 100) (ht : totF l ≤ 1000) (hn : names.length ≤ 40) : ∀ (d i : Nat), i + d = names.length → (∀ j, j < i → (names.getD j default).length ≤ 100) →
    Ev (fun n => F3_L1 n l names (l, true) (i : Int)) true := by
  intro d
  induction d with
  | zero =>
    intro i hi hs
    obtain ⟨⟨N1, e1⟩, ⟨N2, e2⟩⟩ := ev_Canon l names hl ht (fun j hj => hs j (by omega))
    obtain ⟨⟨N3, e3⟩, _⟩ := ev_Canon [([65], [120, 32, 32, 121])] [[97]] (by decide) (by decide) (fun j hj => by
      have : j = 0 := by simpa using hj
      subst this; decide)
    refine Ev.step ⟨N1 + N2 + N3, fun n hn' => ?_⟩
    have q1 := e1 n (by omega)
    have q2 := e2 n (by omega)
    have q3 := e3 n (by omega)
    dsimp only at q1 q2 q3
    show F3_L1 (n + 1) l names (l, true) (i : Int) = _
    rw [F3_L1, decide_eq_false (by omega), iteB_f, q1, bind_some', q2, bind_some', beq_self_eq_true, iteB_t, q3, bind_some', can_one]
    rfl
  | succ d ih =>
    intro i hi hs
    by_cases h100 : 100 < (names.getD i default).length
    · refine Ev.step (Ev.pure.congr fun n => ?_)
      rw [F3_L1, decide_eq_true (by omega), iteB_t, toNat_nat, grd_t _ (by omega), decide_eq_true (by omega), iteB_t]
    · obtain ⟨N0, e0⟩ := ih (i + 1) (by omega) (fun j hj => by
        rcases Nat.lt_or_ge j i with h | h
        · exact hs j h
        · obtain rfl : j = i := by omega
          omega)
      obtain ⟨N1, e1⟩ := ev_Get l (names.getD i default) (by omega) (by omega)
      obtain ⟨N2, e2⟩ := ev_rGet l (names.getD i default) (by omega) (by omega)
      obtain ⟨N3, e3⟩ := ev_Count l (names.getD i default) (by omega) (by omega)
      refine Ev.step ⟨N0 + N1 + N2 + N3, fun n hn' => ?_⟩
      have q0 := e0 n (by omega)
      have q1 := e1 n (by omega)
      have q2 := e2 n (by omega)
      have q3 := e3 n (by omega)
      dsimp only at q0 q1 q2 q3
      show F3_L1 (n + 1) l names (l, true) (i : Int) = _
      rw [F3_L1, decide_eq_true (by omega), iteB_t, toNat_nat, decide_eq_false (by omega), iteB_f, g64 i (by omega)]
      simp only [grd_t _ (show 0 ≤ (i : Int) ∧ (i : Int) < (names.length : Int) by omega)]
      rw [q1, bind_some', q2, bind_some', beq_self_eq_true, Bool.not_true, iteB_f, beq_self_eq_true, Bool.not_true, iteB_f, q3, bind_some', show (((valsT l (names.getD i default)).length : Int) != ((valsT l (names.getD i default)).length : Int)) = false by rw [bne_self_eq_false], iteB_f]
      exact q0
theorem gets_law (l : List Fld) (names : List (List UInt8)) : Ev (fun n => F3 n l names) true := by
  obtain ⟨N0, e0⟩ := ev_own l
  by_cases hf : fits l 0 = true
  case neg =>
    refine ⟨N0, fun n hn => ?_⟩
    have q0 := e0 n hn
    dsimp only at q0
    rw [if_neg hf] at q0
    show F3 n l names = _
    rw [F3, q0]; rfl
  have h1 := fits_tot l 0 (by omega) hf
  by_cases hs : 40 < names.length
  · refine ⟨N0, fun n hn => ?_⟩
    have q0 := e0 n hn
    dsimp only at q0
    rw [if_pos hf] at q0
    show F3 n l names = _
    rw [F3, q0, bind_some', Bool.not_true, iteB_f, decide_eq_true (by omega), iteB_t]
  · obtain ⟨N1, e1⟩ := gets_loop l names (by omega) (by omega) (by omega) names.length 0 (by omega) (fun j hj => by omega)
    refine ⟨N0 + N1, fun n hn => ?_⟩
    have q0 := e0 n (by omega)
    have q1 := e1 n (by omega)
    dsimp only at q0 q1
    rw [if_pos hf] at q0
    show F3 n l names = _
    rw [F3, q0, bind_some', Bool.not_true, iteB_f, decide_eq_false (by omega), iteB_f]
    exact q1
theorem law_main (v0 : List Fld) (v1 : List (List UInt8)) (h0 : okT22 v0) (h1 : okT23 v1) : ∃ n, F3 n v0 v1 = some true := by
  obtain ⟨N, h⟩ := gets_law v0 v1
  exact ⟨N, h N (Nat.le_refl _)⟩
end Go.Proofs.YtbdkofondpalpaaX

set_option linter.unusedVariables false
namespace Go.Proofs.YtbdkofondpalpaaX
open Go Go.RowKit Go.Proofs
set_option maxRecDepth 100000
theorem shapedRow (xs : List T) (h : ShapesW Try.prog [22, 23] xs) : FnC Try.prog 3 xs (tb true) := shapedHeaderGets law_main xs h
end Go.Proofs.YtbdkofondpalpaaX
namespace Go.Proofs.Ytbdkofondpalpaa.headerGets
open Go.ChangeShapes Go.WideShapes Go.ChangeAt Go.RowKit
set_option linter.unusedVariables false
theorem own : ownKnob Try.prog.godebug = none := by kernel_rfl
set_option maxRecDepth 100000 in
theorem lifted (os : Os) (started : os.Started) (H : Type) (enc : TypeId × Value → H) :
    ReturnsInHanded {} Try.checked os 3 .any (Rows.headerGetsSpec.pre6 enc Try.prog Try.f3 Rows.headerGetsRow.domain false) (Rows.headerGetsSpec.post enc Try.prog Try.f3 false true false false) := by
  refine returnsInHanded_of_change_sized (C := Try.checked) own started (by kernel_rfl) Try.func3
    (ChangeSpec.witness6 (enc := enc) (C := Try.checked) false ⟨#[], #[.slice none 0 0, .slice none 0 0], []⟩ 8 (by kernel_rfl) (by kernel_rfl) (by kernel_rfl) (by kernel_rfl)) ?_
  intro W base args ds gs before hval0 hW hcnd hsz0 _
  exact YtbdkofondpalpaaX.row_contract (P := Try.prog) (fn := Try.f3) (s := Rows.headerGetsSpec) (ts := [22, 23]) (tb := 4) (L := [22, 23, 35, 9, 34]) (by kernel_rfl) (by kernel_rfl) (by kernel_rfl) (by kernel_rfl) (by kernel_rfl) (by kernel_rfl) rfl
    (fun H ds h => by
      match ds, h with
      | [d0, d1], _ => rfl) YtbdkofondpalpaaX.shapedRow W base args ds gs before hval0 hW
theorem over : Rows.headerGetsRow.holds Try.pinned (OpenSpec.ofChange Rows.headerGetsSpec) :=
  OpenClaim.holds_of_wide 3 Try.f3 rfl rfl rfl rfl rfl rfl rfl ⟨rfl, rfl, rfl, rfl, rfl⟩ rfl rfl rfl rfl rfl (by kernel_rfl) Try.func3 (by kernel_rfl)
    (of_decide_eq_true (by kernel_rfl)) (by unfold Func.isWrapper; first | (rw [if_pos (by decide +kernel)]; kernel_rfl) | (rw [if_neg (by decide +kernel)]; exact ⟨rfl, rfl⟩))
    (fun os started H enc _ => lifted os started H enc)
theorem proved : Rows.HeaderGetsSaid := over
#print axioms proved
end Go.Proofs.Ytbdkofondpalpaa.headerGets
namespace Go.Proofs.Ytbdkofondpalpaa
/-- The row, under a short name, for the claim. -/
theorem headerGets_holds : Rows.HeaderGetsSaid := headerGets.proved
end Go.Proofs.Ytbdkofondpalpaa
