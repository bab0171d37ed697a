/- Part of the proof of HeaderLines: walks and plain words, merged. -/
import Derived.Test.YtbdkofondpalpaaDoorBHeaderLinesc
import Derived.Lib.Builder
import Derived.Laws.Externs
import Derived.Lib.Strings
import Derived.BigRegion
import Derived.Lib.UnsafeStr
import Derived.Test.YtbdkofondpalpaaDoorBHeaderLinesb
import Derived.Test.YtbdkofondpalpaaDoorRows
import Derived.Test.YtbdkofondpalpaaDoorCards
import Derived.Test.YtbdkofondpalpaaDoorTie
import Derived.Test.YtbdkofondpalpaaDoorChecked
import Derived.WalkKit
import Derived.ProofKit
import Derived.OpenShut
import Derived.Lay
import Derived.LaidMore
import Derived.LaidOnce
import Derived.SevenTiedAt
set_option linter.unusedVariables false
set_option linter.unusedSimpArgs false

set_option linter.unusedVariables false
set_option linter.unusedSimpArgs false
namespace Go.Proofs.YtbdkofondpalpaaDoorX
open Go Go.RowKit Go.Proofs
set_option maxRecDepth 100000
attribute [local go_sem ↓] stepsK_build stepsK_build0 stepsK_bs stepsK_bs0 appendS
attribute [local go_sem] String.reduceEq String.reduceNe reduceCtorEq Int.reduceEq Nat.reduceAdd Nat.reduceSub Nat.reduceMul Nat.reduceLT Nat.reduceLeDiff Nat.reduceEqDiff Nat.reduceBEq Int.reduceToNat Int.reduceLT Int.reduceLE Int.reduceGT Int.reduceGE Int.reduceAdd Int.reduceSub Int.reduceMul Int.reduceNeg Int.reduceBEq Int.reduceBNe Int.reducePow Int.reduceDiv Int.reduceMod Int.reduceTDiv Int.reduceTMod Int.reduceNatCast
/-! ### shadowboxref30.trim -/
def F40_S2 (x7 : List UInt8) : St := ⟨[.imm (.string (bs x7)), .junk, .junk, .junk, .junk, .junk, .junk, .junk, .junk, .junk, .junk, .junk, .junk, .junk, .junk, .junk, .junk, .junk, .junk, .junk, .junk, .junk, .junk, .junk, .junk, .junk, .junk, .junk, .junk, .junk], []⟩
def F40_S3 (x13 : List UInt8) : St := ⟨[.imm (.string (bs x13)), .junk, .junk, .junk, .junk, .junk, .junk, .junk, .junk, .junk, .junk, .junk, .junk, .junk, .junk, .junk, .junk, .junk, .junk, .junk, .junk, .junk, .junk, .junk, .junk, .junk, .junk, .junk, .junk, .junk], []⟩
def F40_S1 (x1 : List UInt8) : St := ⟨[.imm (.string (bs x1)), .junk, .junk, .junk, .junk, .junk, .junk, .junk, .junk, .junk, .junk, .junk, .junk, .junk, .junk, .junk, .junk, .junk, .junk, .junk, .junk, .junk, .junk, .junk, .junk, .junk, .junk, .junk, .junk, .junk], []⟩
mutual
def F40_L2 : Nat → (List UInt8) → Option (List UInt8)
  | 0, _ => none
  | m2 + 1, x7 => iteB (decide ((0 : Int) < (x7.length : Int))) (grd (0 ≤ (IntKind.wrap .i64 ((x7.length : Int) - (1 : Int))) ∧ (IntKind.wrap .i64 ((x7.length : Int) - (1 : Int))) < (x7.length : Int)) ((F79 m2 ((x7.getD (IntKind.wrap .i64 ((x7.length : Int) - (1 : Int))).toNat 0).toNat : Int)).bind fun v10 => iteB v10 (grd (0 ≤ (IntKind.wrap .i64 ((x7.length : Int) - (1 : Int))) ∧ (IntKind.wrap .i64 ((x7.length : Int) - (1 : Int))) ≤ (x7.length : Int)) (F40_L2 m2 (x7.take (IntKind.wrap .i64 ((x7.length : Int) - (1 : Int))).toNat))) (some x7))) (some x7)
def F40_L3 : Nat → (List UInt8) → Option (List UInt8)
  | 0, _ => none
  | m3 + 1, x13 => iteB (decide ((0 : Int) < (x13.length : Int))) (grd (0 ≤ (IntKind.wrap .i64 ((x13.length : Int) - (1 : Int))) ∧ (IntKind.wrap .i64 ((x13.length : Int) - (1 : Int))) < (x13.length : Int)) ((F79 m3 ((x13.getD (IntKind.wrap .i64 ((x13.length : Int) - (1 : Int))).toNat 0).toNat : Int)).bind fun v16 => iteB v16 (grd (0 ≤ (IntKind.wrap .i64 ((x13.length : Int) - (1 : Int))) ∧ (IntKind.wrap .i64 ((x13.length : Int) - (1 : Int))) ≤ (x13.length : Int)) (F40_L3 m3 (x13.take (IntKind.wrap .i64 ((x13.length : Int) - (1 : Int))).toNat))) (some x13))) (some x13)
def F40_L1 : Nat → (List UInt8) → Option (List UInt8)
  | 0, _ => none
  | m1 + 1, x1 => iteB (decide ((0 : Int) < (x1.length : Int))) (grd ((0 : Int) < (x1.length : Int)) ((F79 m1 ((x1.getD (0 : Int).toNat 0).toNat : Int)).bind fun v4 => iteB v4 (grd ((1 : Int) ≤ (x1.length : Int)) (F40_L1 m1 (x1.drop 1))) (F40_L2 m1 x1))) (F40_L3 m1 x1)
end
def F40 (n : Nat) (a0 : List UInt8) : Option (List UInt8) := F40_L1 n a0
set_option maxHeartbeats 4000000 in
theorem F40_ok : ∀ (n : Nat) (a0 : List UInt8) (r : List UInt8), F40 n a0 = some r → FnC Tryd.prog 40 [.imm (.string (bs a0))] (.imm (.string (bs r)))
  | n, a0, r, h => by
    unfold F40 at h
    refine FnC.goX mixed Tryd.func40 (by kernel_rfl) rfl ?_
    simp only [Tryd.ntmps40, List.length_cons, List.length_nil, List.replicate, List.cons_append, List.nil_append, Nat.reduceAdd, Nat.reduceSub]
    refine runX_seq ?_
    refine runX_regionC fun C hC => ?_
    try simp -implicitDefEqProofs (maxSteps := 4000000) (disch := first | omega | decide | (simp only [go_sem]; omega)) only [go_sem, ↓reduceIte]
    repeat (with_reducible refine And.intro (by first | assumption | omega | (simp; done) | (simp; omega)) ?_)
    refine toEnd hC ?_
    refine endX_seq ?_
    refine runX_seq ?_
    refine runX_block ?_
    refine runX_loop [0] (fun m S => ∃ (x1 : List UInt8), S = F40_S1 x1 ∧ m ≤ n ∧ F40_L1 m x1 = some r) n ⟨F40_S1 a0, ?_, a0, rfl, Nat.le_refl _, h⟩ ?_
    · simp only [F40_S1]
      (try simp -implicitDefEqProofs (maxSteps := 4000000) (disch := first | omega | decide | (simp only [go_sem]; omega)) only [go_sem, ↓reduceIte])
      first | exact leS_refl _ | (refine leS_le ?_ ?_ <;> first | exact leL_refl _ | exact leOs_refl _ | (repeat (first | exact leL_refl _ | refine leL_cons (by first | exact leT_refl _ | exact leT_virt | exact leT_junk _ | exact leT_sl | exact leT_sln | exact leT_nil) ?_)))
    · clear h
      rintro m1 S ⟨x1, rfl, hm1, h⟩
      cases m1 with
      | zero => first | cases (show (none : Option _) = some _ from h) | (rw [F40_L1] at h; cases h)
      | succ m1 =>
        rw [F40_L1] at h
        simp only [F40_S1]
        refine runX_seq ?_
        refine runX_seq ?_
        refine runX_regionC fun C hC => ?_
        try simp -implicitDefEqProofs (maxSteps := 4000000) (disch := first | omega | decide | (simp only [go_sem]; omega)) only [go_sem, ↓reduceIte]
        repeat (with_reducible refine And.intro (by first | assumption | omega | (simp; done) | (simp; omega)) ?_)
        rcases iteB_some h with ⟨c2, h⟩ | ⟨c2, h⟩
        · refine guardK_T c2 ?_
          obtain ⟨g3, h⟩ := grd_some h
          obtain ⟨v4, h4, h⟩ := bnd_some h
          try simp -implicitDefEqProofs (maxSteps := 4000000) (disch := first | omega | decide | (simp only [go_sem]; omega)) only [go_sem, ↓reduceIte]
          repeat (with_reducible refine And.intro (by first | assumption | omega | (simp; done) | (simp; omega)) ?_)
          refine callG_X (by first | rfl | (simp only [go_sem]; done) | (simp only [closedL, closedT, Bool.and_true]; exact closedL_map _ (fun _ => by first | rfl | (simp only [go_sem]; done)) _)) (F79_ok m1 ((x1.getD (0 : Int).toNat 0).toNat : Int) _ h4) (by repeat (first | exact leL_refl _ | refine leL_cons (by first | exact leT_refl _ | exact leT_virt | exact leT_junk _ | exact leT_sl | exact leT_sln | exact leT_nil) ?_)) ?_
          try simp -implicitDefEqProofs (maxSteps := 4000000) (disch := first | omega | decide | (simp only [go_sem]; omega)) only [go_sem, ↓reduceIte]
          repeat (with_reducible refine And.intro (by first | assumption | omega | (simp; done) | (simp; omega)) ?_)
          refine toEnd hC ?_
          refine endX_seq ?_
          rcases iteB_some h with ⟨c5, h⟩ | ⟨c5, h⟩
          · refine runX_condT rfl c5 ?_
            refine runX_skip ?_
            refine endX_seq ?_
            refine runX_block ?_
            refine runX_regionC fun C hC => ?_
            obtain ⟨g6, h⟩ := grd_some h
            try simp -implicitDefEqProofs (maxSteps := 4000000) (disch := first | omega | decide | (simp only [go_sem]; omega)) only [go_sem, ↓reduceIte]
            repeat (with_reducible refine And.intro (by first | assumption | omega | (simp; done) | (simp; omega)) ?_)
            refine toEnd hC ?_
            refine endX_blk ?_
            refine endX_q (roundQ_normal ⟨m1, by omega, F40_S1 (x1.drop 1), ?_, (x1.drop 1), rfl, by omega, h⟩)
            simp only [F40_S1]
            (try simp -implicitDefEqProofs (maxSteps := 4000000) (disch := first | omega | decide | (simp only [go_sem]; omega)) only [go_sem, ↓reduceIte])
            first | exact leS_refl _ | (refine leS_le ?_ ?_ <;> first | exact leL_refl _ | exact leOs_refl _ | (repeat (first | exact leL_refl _ | refine leL_cons (by first | exact leT_refl _ | exact leT_virt | exact leT_junk _ | exact leT_sl | exact leT_sln | exact leT_nil) ?_)))
          · refine runX_condF rfl c5 ?_
            refine runX_exit ?_
            refine endX_seqE ?_
            refine endX_q (roundQ_exit ?_)
            refine endX_blkE ?_
            refine endX_seq ?_
            refine runX_seq ?_
            refine runX_block ?_
            refine runX_loop [0] (fun m S => ∃ (x7 : List UInt8), S = F40_S2 x7 ∧ m ≤ m1 ∧ F40_L2 m x7 = some r) m1 ⟨F40_S2 x1, ?_, x1, rfl, Nat.le_refl _, h⟩ ?_
            · simp only [F40_S2]
              (try simp -implicitDefEqProofs (maxSteps := 4000000) (disch := first | omega | decide | (simp only [go_sem]; omega)) only [go_sem, ↓reduceIte])
              first | exact leS_refl _ | (refine leS_le ?_ ?_ <;> first | exact leL_refl _ | exact leOs_refl _ | (repeat (first | exact leL_refl _ | refine leL_cons (by first | exact leT_refl _ | exact leT_virt | exact leT_junk _ | exact leT_sl | exact leT_sln | exact leT_nil) ?_)))
            · clear h
              rintro m2 S ⟨x7, rfl, hm2, h⟩
              cases m2 with
              | zero => first | cases (show (none : Option _) = some _ from h) | (rw [F40_L2] at h; cases h)
              | succ m2 =>
                rw [F40_L2] at h
                simp only [F40_S2]
                refine runX_seq ?_
                refine runX_seq ?_
                refine runX_regionC fun C hC => ?_
                try simp -implicitDefEqProofs (maxSteps := 4000000) (disch := first | omega | decide | (simp only [go_sem]; omega)) only [go_sem, ↓reduceIte]
                repeat (with_reducible refine And.intro (by first | assumption | omega | (simp; done) | (simp; omega)) ?_)
                rcases iteB_some h with ⟨c8, h⟩ | ⟨c8, h⟩
                · refine guardK_T c8 ?_
                  obtain ⟨g9, h⟩ := grd_some h
                  obtain ⟨v10, h10, h⟩ := bnd_some h
                  try simp -implicitDefEqProofs (maxSteps := 4000000) (disch := first | omega | decide | (simp only [go_sem]; omega)) only [go_sem, ↓reduceIte]
                  repeat (with_reducible refine And.intro (by first | assumption | omega | (simp; done) | (simp; omega)) ?_)
                  refine callG_X (by first | rfl | (simp only [go_sem]; done) | (simp only [closedL, closedT, Bool.and_true]; exact closedL_map _ (fun _ => by first | rfl | (simp only [go_sem]; done)) _)) (F79_ok m2 ((x7.getD (IntKind.wrap .i64 ((x7.length : Int) - (1 : Int))).toNat 0).toNat : Int) _ h10) (by repeat (first | exact leL_refl _ | refine leL_cons (by first | exact leT_refl _ | exact leT_virt | exact leT_junk _ | exact leT_sl | exact leT_sln | exact leT_nil) ?_)) ?_
                  try simp -implicitDefEqProofs (maxSteps := 4000000) (disch := first | omega | decide | (simp only [go_sem]; omega)) only [go_sem, ↓reduceIte]
                  repeat (with_reducible refine And.intro (by first | assumption | omega | (simp; done) | (simp; omega)) ?_)
                  refine toEnd hC ?_
                  refine endX_seq ?_
                  rcases iteB_some h with ⟨c11, h⟩ | ⟨c11, h⟩
                  · refine runX_condT rfl c11 ?_
                    refine runX_skip ?_
                    refine endX_seq ?_
                    refine runX_block ?_
                    refine runX_regionC fun C hC => ?_
                    obtain ⟨g12, h⟩ := grd_some h
                    try simp -implicitDefEqProofs (maxSteps := 4000000) (disch := first | omega | decide | (simp only [go_sem]; omega)) only [go_sem, ↓reduceIte]
                    repeat (with_reducible refine And.intro (by first | assumption | omega | (simp; done) | (simp; omega)) ?_)
                    refine toEnd hC ?_
                    refine endX_blk ?_
                    refine endX_q (roundQ_normal ⟨m2, by omega, F40_S2 (x7.take (IntKind.wrap .i64 ((x7.length : Int) - (1 : Int))).toNat), ?_, (x7.take (IntKind.wrap .i64 ((x7.length : Int) - (1 : Int))).toNat), rfl, by omega, h⟩)
                    simp only [F40_S2]
                    (try simp -implicitDefEqProofs (maxSteps := 4000000) (disch := first | omega | decide | (simp only [go_sem]; omega)) only [go_sem, ↓reduceIte])
                    first | exact leS_refl _ | (refine leS_le ?_ ?_ <;> first | exact leL_refl _ | exact leOs_refl _ | (repeat (first | exact leL_refl _ | refine leL_cons (by first | exact leT_refl _ | exact leT_virt | exact leT_junk _ | exact leT_sl | exact leT_sln | exact leT_nil) ?_)))
                  · refine runX_condF rfl c11 ?_
                    refine runX_exit ?_
                    refine endX_seqE ?_
                    refine endX_q (roundQ_exit ?_)
                    refine endX_blkE ?_
                    refine endX_seq ?_
                    refine runX_seq ?_
                    refine runX_regionC fun C hC => ?_
                    try simp -implicitDefEqProofs (maxSteps := 4000000) (disch := first | omega | decide | (simp only [go_sem]; omega)) only [go_sem, ↓reduceIte]
                    repeat (with_reducible refine And.intro (by first | assumption | omega | (simp; done) | (simp; omega)) ?_)
                    refine toEnd hC ?_
                    refine endX_seq ?_
                    refine runX_ret ?_
                    refine endX_q ?_
                    obtain rfl := Option.some.inj h
                    show RetW _ _ _ _ _
                    simp only [RetW]
                    (try simp -implicitDefEqProofs (maxSteps := 4000000) (disch := first | omega | decide | (simp only [go_sem]; omega)) only [go_sem, ↓reduceIte])
                    (try simp (disch := omega) only [if_pos, Nat.sub_zero])
                    exact leT_refl _
                · refine guardK_F c8 ?_
                  try simp -implicitDefEqProofs (maxSteps := 4000000) (disch := first | omega | decide | (simp only [go_sem]; omega)) only [go_sem, ↓reduceIte]
                  repeat (with_reducible refine And.intro (by first | assumption | omega | (simp; done) | (simp; omega)) ?_)
                  refine toEnd hC ?_
                  refine endX_seq ?_
                  refine runX_condF rfl rfl ?_
                  refine runX_exit ?_
                  refine endX_seqE ?_
                  refine endX_q (roundQ_exit ?_)
                  refine endX_blkE ?_
                  refine endX_seq ?_
                  refine runX_seq ?_
                  refine runX_regionC fun C hC => ?_
                  try simp -implicitDefEqProofs (maxSteps := 4000000) (disch := first | omega | decide | (simp only [go_sem]; omega)) only [go_sem, ↓reduceIte]
                  repeat (with_reducible refine And.intro (by first | assumption | omega | (simp; done) | (simp; omega)) ?_)
                  refine toEnd hC ?_
                  refine endX_seq ?_
                  refine runX_ret ?_
                  refine endX_q ?_
                  obtain rfl := Option.some.inj h
                  show RetW _ _ _ _ _
                  simp only [RetW]
                  (try simp -implicitDefEqProofs (maxSteps := 4000000) (disch := first | omega | decide | (simp only [go_sem]; omega)) only [go_sem, ↓reduceIte])
                  (try simp (disch := omega) only [if_pos, Nat.sub_zero])
                  exact leT_refl _
        · refine guardK_F c2 ?_
          try simp -implicitDefEqProofs (maxSteps := 4000000) (disch := first | omega | decide | (simp only [go_sem]; omega)) only [go_sem, ↓reduceIte]
          repeat (with_reducible refine And.intro (by first | assumption | omega | (simp; done) | (simp; omega)) ?_)
          refine toEnd hC ?_
          refine endX_seq ?_
          refine runX_condF rfl rfl ?_
          refine runX_exit ?_
          refine endX_seqE ?_
          refine endX_q (roundQ_exit ?_)
          refine endX_blkE ?_
          refine endX_seq ?_
          refine runX_seq ?_
          refine runX_block ?_
          refine runX_loop [0] (fun m S => ∃ (x13 : List UInt8), S = F40_S3 x13 ∧ m ≤ m1 ∧ F40_L3 m x13 = some r) m1 ⟨F40_S3 x1, ?_, x1, rfl, Nat.le_refl _, h⟩ ?_
          · simp only [F40_S3]
            (try simp -implicitDefEqProofs (maxSteps := 4000000) (disch := first | omega | decide | (simp only [go_sem]; omega)) only [go_sem, ↓reduceIte])
            first | exact leS_refl _ | (refine leS_le ?_ ?_ <;> first | exact leL_refl _ | exact leOs_refl _ | (repeat (first | exact leL_refl _ | refine leL_cons (by first | exact leT_refl _ | exact leT_virt | exact leT_junk _ | exact leT_sl | exact leT_sln | exact leT_nil) ?_)))
          · clear h
            rintro m3 S ⟨x13, rfl, hm3, h⟩
            cases m3 with
            | zero => first | cases (show (none : Option _) = some _ from h) | (rw [F40_L3] at h; cases h)
            | succ m3 =>
              rw [F40_L3] at h
              simp only [F40_S3]
              refine runX_seq ?_
              refine runX_seq ?_
              refine runX_regionC fun C hC => ?_
              try simp -implicitDefEqProofs (maxSteps := 4000000) (disch := first | omega | decide | (simp only [go_sem]; omega)) only [go_sem, ↓reduceIte]
              repeat (with_reducible refine And.intro (by first | assumption | omega | (simp; done) | (simp; omega)) ?_)
              rcases iteB_some h with ⟨c14, h⟩ | ⟨c14, h⟩
              · refine guardK_T c14 ?_
                obtain ⟨g15, h⟩ := grd_some h
                obtain ⟨v16, h16, h⟩ := bnd_some h
                try simp -implicitDefEqProofs (maxSteps := 4000000) (disch := first | omega | decide | (simp only [go_sem]; omega)) only [go_sem, ↓reduceIte]
                repeat (with_reducible refine And.intro (by first | assumption | omega | (simp; done) | (simp; omega)) ?_)
                refine callG_X (by first | rfl | (simp only [go_sem]; done) | (simp only [closedL, closedT, Bool.and_true]; exact closedL_map _ (fun _ => by first | rfl | (simp only [go_sem]; done)) _)) (F79_ok m3 ((x13.getD (IntKind.wrap .i64 ((x13.length : Int) - (1 : Int))).toNat 0).toNat : Int) _ h16) (by repeat (first | exact leL_refl _ | refine leL_cons (by first | exact leT_refl _ | exact leT_virt | exact leT_junk _ | exact leT_sl | exact leT_sln | exact leT_nil) ?_)) ?_
                try simp -implicitDefEqProofs (maxSteps := 4000000) (disch := first | omega | decide | (simp only [go_sem]; omega)) only [go_sem, ↓reduceIte]
                repeat (with_reducible refine And.intro (by first | assumption | omega | (simp; done) | (simp; omega)) ?_)
                refine toEnd hC ?_
                refine endX_seq ?_
                rcases iteB_some h with ⟨c17, h⟩ | ⟨c17, h⟩
                · refine runX_condT rfl c17 ?_
                  refine runX_skip ?_
                  refine endX_seq ?_
                  refine runX_block ?_
                  refine runX_regionC fun C hC => ?_
                  obtain ⟨g18, h⟩ := grd_some h
                  try simp -implicitDefEqProofs (maxSteps := 4000000) (disch := first | omega | decide | (simp only [go_sem]; omega)) only [go_sem, ↓reduceIte]
                  repeat (with_reducible refine And.intro (by first | assumption | omega | (simp; done) | (simp; omega)) ?_)
                  refine toEnd hC ?_
                  refine endX_blk ?_
                  refine endX_q (roundQ_normal ⟨m3, by omega, F40_S3 (x13.take (IntKind.wrap .i64 ((x13.length : Int) - (1 : Int))).toNat), ?_, (x13.take (IntKind.wrap .i64 ((x13.length : Int) - (1 : Int))).toNat), rfl, by omega, h⟩)
                  simp only [F40_S3]
                  (try simp -implicitDefEqProofs (maxSteps := 4000000) (disch := first | omega | decide | (simp only [go_sem]; omega)) only [go_sem, ↓reduceIte])
                  first | exact leS_refl _ | (refine leS_le ?_ ?_ <;> first | exact leL_refl _ | exact leOs_refl _ | (repeat (first | exact leL_refl _ | refine leL_cons (by first | exact leT_refl _ | exact leT_virt | exact leT_junk _ | exact leT_sl | exact leT_sln | exact leT_nil) ?_)))
                · refine runX_condF rfl c17 ?_
                  refine runX_exit ?_
                  refine endX_seqE ?_
                  refine endX_q (roundQ_exit ?_)
                  refine endX_blkE ?_
                  refine endX_seq ?_
                  refine runX_seq ?_
                  refine runX_regionC fun C hC => ?_
                  try simp -implicitDefEqProofs (maxSteps := 4000000) (disch := first | omega | decide | (simp only [go_sem]; omega)) only [go_sem, ↓reduceIte]
                  repeat (with_reducible refine And.intro (by first | assumption | omega | (simp; done) | (simp; omega)) ?_)
                  refine toEnd hC ?_
                  refine endX_seq ?_
                  refine runX_ret ?_
                  refine endX_q ?_
                  obtain rfl := Option.some.inj h
                  show RetW _ _ _ _ _
                  simp only [RetW]
                  (try simp -implicitDefEqProofs (maxSteps := 4000000) (disch := first | omega | decide | (simp only [go_sem]; omega)) only [go_sem, ↓reduceIte])
                  (try simp (disch := omega) only [if_pos, Nat.sub_zero])
                  exact leT_refl _
              · refine guardK_F c14 ?_
                try simp -implicitDefEqProofs (maxSteps := 4000000) (disch := first | omega | decide | (simp only [go_sem]; omega)) only [go_sem, ↓reduceIte]
                repeat (with_reducible refine And.intro (by first | assumption | omega | (simp; done) | (simp; omega)) ?_)
                refine toEnd hC ?_
                refine endX_seq ?_
                refine runX_condF rfl rfl ?_
                refine runX_exit ?_
                refine endX_seqE ?_
                refine endX_q (roundQ_exit ?_)
                refine endX_blkE ?_
                refine endX_seq ?_
                refine runX_seq ?_
                refine runX_regionC fun C hC => ?_
                try simp -implicitDefEqProofs (maxSteps := 4000000) (disch := first | omega | decide | (simp only [go_sem]; omega)) only [go_sem, ↓reduceIte]
                repeat (with_reducible refine And.intro (by first | assumption | omega | (simp; done) | (simp; omega)) ?_)
                refine toEnd hC ?_
                refine endX_seq ?_
                refine runX_ret ?_
                refine endX_q ?_
                obtain rfl := Option.some.inj h
                show RetW _ _ _ _ _
                simp only [RetW]
                (try simp -implicitDefEqProofs (maxSteps := 4000000) (disch := first | omega | decide | (simp only [go_sem]; omega)) only [go_sem, ↓reduceIte])
                (try simp (disch := omega) only [if_pos, Nat.sub_zero])
                exact leT_refl _
end Go.Proofs.YtbdkofondpalpaaDoorX

set_option linter.unusedVariables false
set_option linter.unusedSimpArgs false
namespace Go.Proofs.YtbdkofondpalpaaDoorX
open Go Go.RowKit Go.Proofs
set_option maxRecDepth 100000
attribute [local go_sem ↓] stepsK_build stepsK_build0 stepsK_bs stepsK_bs0 appendS
attribute [local go_sem] String.reduceEq String.reduceNe reduceCtorEq Int.reduceEq Nat.reduceAdd Nat.reduceSub Nat.reduceMul Nat.reduceLT Nat.reduceLeDiff Nat.reduceEqDiff Nat.reduceBEq Int.reduceToNat Int.reduceLT Int.reduceLE Int.reduceGT Int.reduceGE Int.reduceAdd Int.reduceSub Int.reduceMul Int.reduceNeg Int.reduceBEq Int.reduceBNe Int.reducePow Int.reduceDiv Int.reduceMod Int.reduceTDiv Int.reduceTMod Int.reduceNatCast
/-! ### shadowboxref30.Line -/
def F17_S1 (a0 : List UInt8) (x1 : Int) : St := ⟨[.imm (.string (bs a0)), .junk, .ref 0 0 0 0, .junk, .imm (.int .i64 x1), .junk, .junk, .junk, .junk, .junk, .junk, .junk, .junk, .junk, .junk, .junk, .junk, .junk, .junk, .junk, .junk, .junk, .junk, .junk, .junk, .junk, .junk, .junk, .junk, .junk, .junk, .junk, .junk, .junk, .junk, .junk, .junk, .junk, .junk, .junk, .junk, .junk, .junk, .junk, .junk, .junk], [some (.box 47 (.agg [.imm (.string (bs [])), .imm (.string (bs []))]) false)]⟩
def F17_L1 : Nat → (List UInt8) → (Int) → Option (((List UInt8) × (List UInt8)) × (Bool))
  | 0, _, _ => none
  | m1 + 1, a0, x1 => iteB (decide (x1 < (a0.length : Int))) (grd (0 ≤ x1 ∧ x1 < (a0.length : Int)) (iteB (((a0.getD x1.toNat 0).toNat : Int) != (58 : Int)) (F17_L1 m1 a0 (IntKind.wrap .i64 (x1 + (1 : Int)))) (iteB (x1 == (a0.length : Int)) (some (([], []), false)) (grd (0 ≤ x1 ∧ x1 ≤ (a0.length : Int)) ((F19 m1 (a0.take x1.toNat)).bind fun v7 => iteB (!v7) (some (([], []), false)) (grd (0 ≤ (IntKind.wrap .i64 (x1 + (1 : Int))) ∧ (IntKind.wrap .i64 (x1 + (1 : Int))) ≤ (a0.length : Int)) ((F21 m1 (a0.drop (IntKind.wrap .i64 (x1 + (1 : Int))).toNat)).bind fun v10 => iteB (!v10) (some (([], []), false)) (grd (0 ≤ x1 ∧ x1 ≤ (a0.length : Int)) (grd (0 ≤ (IntKind.wrap .i64 (x1 + (1 : Int))) ∧ (IntKind.wrap .i64 (x1 + (1 : Int))) ≤ (a0.length : Int)) ((F40 m1 (a0.drop (IntKind.wrap .i64 (x1 + (1 : Int))).toNat)).bind fun v14 => some (((a0.take x1.toNat), v14), true))))))))))) (iteB (x1 == (a0.length : Int)) (some (([], []), false)) (grd (0 ≤ x1 ∧ x1 ≤ (a0.length : Int)) ((F19 m1 (a0.take x1.toNat)).bind fun v17 => iteB (!v17) (some (([], []), false)) (grd (0 ≤ (IntKind.wrap .i64 (x1 + (1 : Int))) ∧ (IntKind.wrap .i64 (x1 + (1 : Int))) ≤ (a0.length : Int)) ((F21 m1 (a0.drop (IntKind.wrap .i64 (x1 + (1 : Int))).toNat)).bind fun v20 => iteB (!v20) (some (([], []), false)) (grd (0 ≤ x1 ∧ x1 ≤ (a0.length : Int)) (grd (0 ≤ (IntKind.wrap .i64 (x1 + (1 : Int))) ∧ (IntKind.wrap .i64 (x1 + (1 : Int))) ≤ (a0.length : Int)) ((F40 m1 (a0.drop (IntKind.wrap .i64 (x1 + (1 : Int))).toNat)).bind fun v24 => some (((a0.take x1.toNat), v24), true)))))))))
def F17 (n : Nat) (a0 : List UInt8) : Option (((List UInt8) × (List UInt8)) × (Bool)) := F17_L1 n a0 (0 : Int)
set_option maxHeartbeats 4000000 in
theorem F17_ok : ∀ (n : Nat) (a0 : List UInt8) (r : ((List UInt8) × (List UInt8)) × (Bool)), F17 n a0 = some r → FnC Tryd.prog 17 [.imm (.string (bs a0))] (.tup [.agg [.imm (.string (bs r.1.1)), .imm (.string (bs r.1.2))], .imm (.bool r.2)])
  | n, a0, r, h => by
    unfold F17 at h
    refine FnC.goX mixed Tryd.func17 (by kernel_rfl) rfl ?_
    simp only [Tryd.ntmps17, List.length_cons, List.length_nil, List.replicate, List.cons_append, List.nil_append, Nat.reduceAdd, Nat.reduceSub]
    refine runX_seq ?_
    refine runX_regionC fun C hC => ?_
    try simp -implicitDefEqProofs (maxSteps := 4000000) (disch := first | omega | decide | (simp only [go_sem]; omega)) only [go_sem, ↓reduceIte]
    repeat (with_reducible refine And.intro (by first | assumption | omega | (simp; done) | (simp; omega)) ?_)
    refine toEnd hC ?_
    refine endX_seq ?_
    refine runX_seq ?_
    refine runX_regionC fun C hC => ?_
    try simp -implicitDefEqProofs (maxSteps := 4000000) (disch := first | omega | decide | (simp only [go_sem]; omega)) only [go_sem, ↓reduceIte]
    repeat (with_reducible refine And.intro (by first | assumption | omega | (simp; done) | (simp; omega)) ?_)
    refine toEnd hC ?_
    refine endX_seq ?_
    refine runX_seq ?_
    refine runX_block ?_
    refine runX_loop [0, 2, 4] (fun m S => ∃ (x1 : Int), S = F17_S1 a0 x1 ∧ m ≤ n ∧ F17_L1 m a0 x1 = some r) n ⟨F17_S1 a0 (0 : Int), ?_, (0 : Int), rfl, Nat.le_refl _, h⟩ ?_
    · simp only [F17_S1]
      (try simp -implicitDefEqProofs (maxSteps := 4000000) (disch := first | omega | decide | (simp only [go_sem]; omega)) only [go_sem, ↓reduceIte])
      first | exact leS_refl _ | (refine leS_le ?_ ?_ <;> first | exact leL_refl _ | exact leOs_refl _ | (repeat (first | exact leL_refl _ | refine leL_cons (by first | exact leT_refl _ | exact leT_virt | exact leT_junk _ | exact leT_sl | exact leT_sln | exact leT_nil) ?_)))
    · clear h
      rintro m1 S ⟨x1, rfl, hm1, h⟩
      cases m1 with
      | zero => first | cases (show (none : Option _) = some _ from h) | (rw [F17_L1] at h; cases h)
      | succ m1 =>
        rw [F17_L1] at h
        simp only [F17_S1]
        refine runX_seq ?_
        refine runX_seq ?_
        refine runX_regionC fun C hC => ?_
        try simp -implicitDefEqProofs (maxSteps := 4000000) (disch := first | omega | decide | (simp only [go_sem]; omega)) only [go_sem, ↓reduceIte]
        repeat (with_reducible refine And.intro (by first | assumption | omega | (simp; done) | (simp; omega)) ?_)
        rcases iteB_some h with ⟨c2, h⟩ | ⟨c2, h⟩
        · refine guardK_T c2 ?_
          obtain ⟨g3, h⟩ := grd_some h
          try simp -implicitDefEqProofs (maxSteps := 4000000) (disch := first | omega | decide | (simp only [go_sem]; omega)) only [go_sem, ↓reduceIte]
          repeat (with_reducible refine And.intro (by first | assumption | omega | (simp; done) | (simp; omega)) ?_)
          refine toEnd hC ?_
          refine endX_seq ?_
          rcases iteB_some h with ⟨c4, h⟩ | ⟨c4, h⟩
          · refine runX_condT rfl c4 ?_
            refine runX_skip ?_
            refine endX_seq ?_
            refine runX_block ?_
            refine runX_regionC fun C hC => ?_
            try simp -implicitDefEqProofs (maxSteps := 4000000) (disch := first | omega | decide | (simp only [go_sem]; omega)) only [go_sem, ↓reduceIte]
            repeat (with_reducible refine And.intro (by first | assumption | omega | (simp; done) | (simp; omega)) ?_)
            refine toEnd hC ?_
            refine endX_blk ?_
            refine endX_q (roundQ_normal ⟨m1, by omega, F17_S1 a0 (IntKind.wrap .i64 (x1 + (1 : Int))), ?_, (IntKind.wrap .i64 (x1 + (1 : Int))), rfl, by omega, h⟩)
            simp only [F17_S1]
            (try simp -implicitDefEqProofs (maxSteps := 4000000) (disch := first | omega | decide | (simp only [go_sem]; omega)) only [go_sem, ↓reduceIte])
            first | exact leS_refl _ | (refine leS_le ?_ ?_ <;> first | exact leL_refl _ | exact leOs_refl _ | (repeat (first | exact leL_refl _ | refine leL_cons (by first | exact leT_refl _ | exact leT_virt | exact leT_junk _ | exact leT_sl | exact leT_sln | exact leT_nil) ?_)))
          · refine runX_condF rfl c4 ?_
            refine runX_exit ?_
            refine endX_seqE ?_
            refine endX_q (roundQ_exit ?_)
            refine endX_blkE ?_
            refine endX_seq ?_
            refine runX_seq ?_
            refine runX_seq ?_
            refine runX_regionC fun C hC => ?_
            try simp -implicitDefEqProofs (maxSteps := 4000000) (disch := first | omega | decide | (simp only [go_sem]; omega)) only [go_sem, ↓reduceIte]
            repeat (with_reducible refine And.intro (by first | assumption | omega | (simp; done) | (simp; omega)) ?_)
            rcases iteB_some h with ⟨c5, h⟩ | ⟨c5, h⟩
            · refine guardK_F c5 ?_
              try simp -implicitDefEqProofs (maxSteps := 4000000) (disch := first | omega | decide | (simp only [go_sem]; omega)) only [go_sem, ↓reduceIte]
              repeat (with_reducible refine And.intro (by first | assumption | omega | (simp; done) | (simp; omega)) ?_)
              refine toEnd hC ?_
              refine endX_seq ?_
              refine runX_condT rfl rfl ?_
              refine runX_seq ?_
              refine runX_regionC fun C hC => ?_
              simp only [runK_region, runK_draw, liteL, liteL2, dstsL, gL, List.getD_cons_zero, List.getD_cons_succ]
              try simp -implicitDefEqProofs (maxSteps := 4000000) (disch := first | omega | decide | (simp only [go_sem]; omega)) only [go_sem, ↓reduceIte]
              repeat (with_reducible refine And.intro (by first | assumption | omega | (simp; done) | (simp; omega)) ?_)
              refine bldG_of [.imm (.string (bs [])), .imm (.string (bs []))] (by kernel_rfl) ?_
              try simp -implicitDefEqProofs (maxSteps := 4000000) (disch := first | omega | decide | (simp only [go_sem]; omega)) only [go_sem, ↓reduceIte]
              repeat (with_reducible refine And.intro (by first | assumption | omega | (simp; done) | (simp; omega)) ?_)
              refine toEnd hC ?_
              refine endX_seq ?_
              refine runX_ret ?_
              refine endX_seqR ?_
              refine endX_q ?_
              obtain rfl := Option.some.inj h
              show RetW _ _ _ _ _
              simp only [RetW]
              (try simp -implicitDefEqProofs (maxSteps := 4000000) (disch := first | omega | decide | (simp only [go_sem]; omega)) only [go_sem, ↓reduceIte])
              (try simp (disch := omega) only [if_pos, Nat.sub_zero])
              exact leT_refl _
            · refine guardK_T c5 ?_
              obtain ⟨g6, h⟩ := grd_some h
              obtain ⟨v7, h7, h⟩ := bnd_some h
              try simp -implicitDefEqProofs (maxSteps := 4000000) (disch := first | omega | decide | (simp only [go_sem]; omega)) only [go_sem, ↓reduceIte]
              repeat (with_reducible refine And.intro (by first | assumption | omega | (simp; done) | (simp; omega)) ?_)
              refine callG_X (by first | rfl | (simp only [go_sem]; done) | (simp only [closedL, closedT, Bool.and_true]; exact closedL_map _ (fun _ => by first | rfl | (simp only [go_sem]; done)) _)) (F19_ok m1 (a0.take x1.toNat) _ h7) (by repeat (first | exact leL_refl _ | refine leL_cons (by first | exact leT_refl _ | exact leT_virt | exact leT_junk _ | exact leT_sl | exact leT_sln | exact leT_nil) ?_)) ?_
              try simp -implicitDefEqProofs (maxSteps := 4000000) (disch := first | omega | decide | (simp only [go_sem]; omega)) only [go_sem, ↓reduceIte]
              repeat (with_reducible refine And.intro (by first | assumption | omega | (simp; done) | (simp; omega)) ?_)
              rcases iteB_some h with ⟨c8, h⟩ | ⟨c8, h⟩
              · refine guardK_F c8 ?_
                try simp -implicitDefEqProofs (maxSteps := 4000000) (disch := first | omega | decide | (simp only [go_sem]; omega)) only [go_sem, ↓reduceIte]
                repeat (with_reducible refine And.intro (by first | assumption | omega | (simp; done) | (simp; omega)) ?_)
                refine toEnd hC ?_
                refine endX_seq ?_
                refine runX_condT rfl rfl ?_
                refine runX_seq ?_
                refine runX_regionC fun C hC => ?_
                simp only [runK_region, runK_draw, liteL, liteL2, dstsL, gL, List.getD_cons_zero, List.getD_cons_succ]
                try simp -implicitDefEqProofs (maxSteps := 4000000) (disch := first | omega | decide | (simp only [go_sem]; omega)) only [go_sem, ↓reduceIte]
                repeat (with_reducible refine And.intro (by first | assumption | omega | (simp; done) | (simp; omega)) ?_)
                refine bldG_of [.imm (.string (bs [])), .imm (.string (bs []))] (by kernel_rfl) ?_
                try simp -implicitDefEqProofs (maxSteps := 4000000) (disch := first | omega | decide | (simp only [go_sem]; omega)) only [go_sem, ↓reduceIte]
                repeat (with_reducible refine And.intro (by first | assumption | omega | (simp; done) | (simp; omega)) ?_)
                refine toEnd hC ?_
                refine endX_seq ?_
                refine runX_ret ?_
                refine endX_seqR ?_
                refine endX_q ?_
                obtain rfl := Option.some.inj h
                show RetW _ _ _ _ _
                simp only [RetW]
                (try simp -implicitDefEqProofs (maxSteps := 4000000) (disch := first | omega | decide | (simp only [go_sem]; omega)) only [go_sem, ↓reduceIte])
                (try simp (disch := omega) only [if_pos, Nat.sub_zero])
                exact leT_refl _
              · refine guardK_T c8 ?_
                obtain ⟨g9, h⟩ := grd_some h
                obtain ⟨v10, h10, h⟩ := bnd_some h
                try simp -implicitDefEqProofs (maxSteps := 4000000) (disch := first | omega | decide | (simp only [go_sem]; omega)) only [go_sem, ↓reduceIte]
                repeat (with_reducible refine And.intro (by first | assumption | omega | (simp; done) | (simp; omega)) ?_)
                refine callG_X (by first | rfl | (simp only [go_sem]; done) | (simp only [closedL, closedT, Bool.and_true]; exact closedL_map _ (fun _ => by first | rfl | (simp only [go_sem]; done)) _)) (F21_ok m1 (a0.drop (IntKind.wrap .i64 (x1 + (1 : Int))).toNat) _ h10) (by repeat (first | exact leL_refl _ | refine leL_cons (by first | exact leT_refl _ | exact leT_virt | exact leT_junk _ | exact leT_sl | exact leT_sln | exact leT_nil) ?_)) ?_
                try simp -implicitDefEqProofs (maxSteps := 4000000) (disch := first | omega | decide | (simp only [go_sem]; omega)) only [go_sem, ↓reduceIte]
                repeat (with_reducible refine And.intro (by first | assumption | omega | (simp; done) | (simp; omega)) ?_)
                refine toEnd hC ?_
                refine endX_seq ?_
                rcases iteB_some h with ⟨c11, h⟩ | ⟨c11, h⟩
                · refine runX_condT rfl c11 ?_
                  refine runX_seq ?_
                  refine runX_regionC fun C hC => ?_
                  simp only [runK_region, runK_draw, liteL, liteL2, dstsL, gL, List.getD_cons_zero, List.getD_cons_succ]
                  try simp -implicitDefEqProofs (maxSteps := 4000000) (disch := first | omega | decide | (simp only [go_sem]; omega)) only [go_sem, ↓reduceIte]
                  repeat (with_reducible refine And.intro (by first | assumption | omega | (simp; done) | (simp; omega)) ?_)
                  refine bldG_of [.imm (.string (bs [])), .imm (.string (bs []))] (by kernel_rfl) ?_
                  try simp -implicitDefEqProofs (maxSteps := 4000000) (disch := first | omega | decide | (simp only [go_sem]; omega)) only [go_sem, ↓reduceIte]
                  repeat (with_reducible refine And.intro (by first | assumption | omega | (simp; done) | (simp; omega)) ?_)
                  refine toEnd hC ?_
                  refine endX_seq ?_
                  refine runX_ret ?_
                  refine endX_seqR ?_
                  refine endX_q ?_
                  obtain rfl := Option.some.inj h
                  show RetW _ _ _ _ _
                  simp only [RetW]
                  (try simp -implicitDefEqProofs (maxSteps := 4000000) (disch := first | omega | decide | (simp only [go_sem]; omega)) only [go_sem, ↓reduceIte])
                  (try simp (disch := omega) only [if_pos, Nat.sub_zero])
                  exact leT_refl _
                · refine runX_condF rfl c11 ?_
                  refine runX_skip ?_
                  refine endX_seq ?_
                  refine runX_seq ?_
                  refine runX_drawC mixed (by kernel_rfl) fun C hC => ?_
                  obtain ⟨g12, h⟩ := grd_some h
                  obtain ⟨g13, h⟩ := grd_some h
                  obtain ⟨v14, h14, h⟩ := bnd_some h
                  try simp -implicitDefEqProofs (maxSteps := 4000000) (disch := first | omega | decide | (simp only [go_sem]; omega)) only [go_sem, ↓reduceIte]
                  repeat (with_reducible refine And.intro (by first | assumption | omega | (simp; done) | (simp; omega)) ?_)
                  refine callD_X (F40_ok m1 (a0.drop (IntKind.wrap .i64 (x1 + (1 : Int))).toNat) _ h14) (by repeat (first | exact leL_refl _ | refine leL_cons (by first | exact leT_refl _ | exact leT_virt | exact leT_junk _ | exact leT_sl | exact leT_sln | exact leT_nil) ?_)) ?_
                  try simp -implicitDefEqProofs (maxSteps := 4000000) (disch := first | omega | decide | (simp only [go_sem]; omega)) only [go_sem, ↓reduceIte]
                  repeat (with_reducible refine And.intro (by first | assumption | omega | (simp; done) | (simp; omega)) ?_)
                  refine buildW_of [.imm (.string (bs (a0.take x1.toNat))), .imm (.string (bs v14))] (by kernel_rfl) ?_
                  try simp -implicitDefEqProofs (maxSteps := 4000000) (disch := first | omega | decide | (simp only [go_sem]; omega)) only [go_sem, ↓reduceIte]
                  repeat (with_reducible refine And.intro (by first | assumption | omega | (simp; done) | (simp; omega)) ?_)
                  refine toEnd hC ?_
                  refine endX_seq ?_
                  refine runX_ret ?_
                  refine endX_q ?_
                  obtain rfl := Option.some.inj h
                  show RetW _ _ _ _ _
                  simp only [RetW]
                  (try simp -implicitDefEqProofs (maxSteps := 4000000) (disch := first | omega | decide | (simp only [go_sem]; omega)) only [go_sem, ↓reduceIte])
                  (try simp (disch := omega) only [if_pos, Nat.sub_zero])
                  exact leT_refl _
        · refine guardK_F c2 ?_
          try simp -implicitDefEqProofs (maxSteps := 4000000) (disch := first | omega | decide | (simp only [go_sem]; omega)) only [go_sem, ↓reduceIte]
          repeat (with_reducible refine And.intro (by first | assumption | omega | (simp; done) | (simp; omega)) ?_)
          refine toEnd hC ?_
          refine endX_seq ?_
          refine runX_condF rfl rfl ?_
          refine runX_exit ?_
          refine endX_seqE ?_
          refine endX_q (roundQ_exit ?_)
          refine endX_blkE ?_
          refine endX_seq ?_
          refine runX_seq ?_
          refine runX_seq ?_
          refine runX_regionC fun C hC => ?_
          try simp -implicitDefEqProofs (maxSteps := 4000000) (disch := first | omega | decide | (simp only [go_sem]; omega)) only [go_sem, ↓reduceIte]
          repeat (with_reducible refine And.intro (by first | assumption | omega | (simp; done) | (simp; omega)) ?_)
          rcases iteB_some h with ⟨c15, h⟩ | ⟨c15, h⟩
          · refine guardK_F c15 ?_
            try simp -implicitDefEqProofs (maxSteps := 4000000) (disch := first | omega | decide | (simp only [go_sem]; omega)) only [go_sem, ↓reduceIte]
            repeat (with_reducible refine And.intro (by first | assumption | omega | (simp; done) | (simp; omega)) ?_)
            refine toEnd hC ?_
            refine endX_seq ?_
            refine runX_condT rfl rfl ?_
            refine runX_seq ?_
            refine runX_regionC fun C hC => ?_
            simp only [runK_region, runK_draw, liteL, liteL2, dstsL, gL, List.getD_cons_zero, List.getD_cons_succ]
            try simp -implicitDefEqProofs (maxSteps := 4000000) (disch := first | omega | decide | (simp only [go_sem]; omega)) only [go_sem, ↓reduceIte]
            repeat (with_reducible refine And.intro (by first | assumption | omega | (simp; done) | (simp; omega)) ?_)
            refine bldG_of [.imm (.string (bs [])), .imm (.string (bs []))] (by kernel_rfl) ?_
            try simp -implicitDefEqProofs (maxSteps := 4000000) (disch := first | omega | decide | (simp only [go_sem]; omega)) only [go_sem, ↓reduceIte]
            repeat (with_reducible refine And.intro (by first | assumption | omega | (simp; done) | (simp; omega)) ?_)
            refine toEnd hC ?_
            refine endX_seq ?_
            refine runX_ret ?_
            refine endX_seqR ?_
            refine endX_q ?_
            obtain rfl := Option.some.inj h
            show RetW _ _ _ _ _
            simp only [RetW]
            (try simp -implicitDefEqProofs (maxSteps := 4000000) (disch := first | omega | decide | (simp only [go_sem]; omega)) only [go_sem, ↓reduceIte])
            (try simp (disch := omega) only [if_pos, Nat.sub_zero])
            exact leT_refl _
          · refine guardK_T c15 ?_
            obtain ⟨g16, h⟩ := grd_some h
            obtain ⟨v17, h17, h⟩ := bnd_some h
            try simp -implicitDefEqProofs (maxSteps := 4000000) (disch := first | omega | decide | (simp only [go_sem]; omega)) only [go_sem, ↓reduceIte]
            repeat (with_reducible refine And.intro (by first | assumption | omega | (simp; done) | (simp; omega)) ?_)
            refine callG_X (by first | rfl | (simp only [go_sem]; done) | (simp only [closedL, closedT, Bool.and_true]; exact closedL_map _ (fun _ => by first | rfl | (simp only [go_sem]; done)) _)) (F19_ok m1 (a0.take x1.toNat) _ h17) (by repeat (first | exact leL_refl _ | refine leL_cons (by first | exact leT_refl _ | exact leT_virt | exact leT_junk _ | exact leT_sl | exact leT_sln | exact leT_nil) ?_)) ?_
            try simp -implicitDefEqProofs (maxSteps := 4000000) (disch := first | omega | decide | (simp only [go_sem]; omega)) only [go_sem, ↓reduceIte]
            repeat (with_reducible refine And.intro (by first | assumption | omega | (simp; done) | (simp; omega)) ?_)
            rcases iteB_some h with ⟨c18, h⟩ | ⟨c18, h⟩
            · refine guardK_F c18 ?_
              try simp -implicitDefEqProofs (maxSteps := 4000000) (disch := first | omega | decide | (simp only [go_sem]; omega)) only [go_sem, ↓reduceIte]
              repeat (with_reducible refine And.intro (by first | assumption | omega | (simp; done) | (simp; omega)) ?_)
              refine toEnd hC ?_
              refine endX_seq ?_
              refine runX_condT rfl rfl ?_
              refine runX_seq ?_
              refine runX_regionC fun C hC => ?_
              simp only [runK_region, runK_draw, liteL, liteL2, dstsL, gL, List.getD_cons_zero, List.getD_cons_succ]
              try simp -implicitDefEqProofs (maxSteps := 4000000) (disch := first | omega | decide | (simp only [go_sem]; omega)) only [go_sem, ↓reduceIte]
              repeat (with_reducible refine And.intro (by first | assumption | omega | (simp; done) | (simp; omega)) ?_)
              refine bldG_of [.imm (.string (bs [])), .imm (.string (bs []))] (by kernel_rfl) ?_
              try simp -implicitDefEqProofs (maxSteps := 4000000) (disch := first | omega | decide | (simp only [go_sem]; omega)) only [go_sem, ↓reduceIte]
              repeat (with_reducible refine And.intro (by first | assumption | omega | (simp; done) | (simp; omega)) ?_)
              refine toEnd hC ?_
              refine endX_seq ?_
              refine runX_ret ?_
              refine endX_seqR ?_
              refine endX_q ?_
              obtain rfl := Option.some.inj h
              show RetW _ _ _ _ _
              simp only [RetW]
              (try simp -implicitDefEqProofs (maxSteps := 4000000) (disch := first | omega | decide | (simp only [go_sem]; omega)) only [go_sem, ↓reduceIte])
              (try simp (disch := omega) only [if_pos, Nat.sub_zero])
              exact leT_refl _
            · refine guardK_T c18 ?_
              obtain ⟨g19, h⟩ := grd_some h
              obtain ⟨v20, h20, h⟩ := bnd_some h
              try simp -implicitDefEqProofs (maxSteps := 4000000) (disch := first | omega | decide | (simp only [go_sem]; omega)) only [go_sem, ↓reduceIte]
              repeat (with_reducible refine And.intro (by first | assumption | omega | (simp; done) | (simp; omega)) ?_)
              refine callG_X (by first | rfl | (simp only [go_sem]; done) | (simp only [closedL, closedT, Bool.and_true]; exact closedL_map _ (fun _ => by first | rfl | (simp only [go_sem]; done)) _)) (F21_ok m1 (a0.drop (IntKind.wrap .i64 (x1 + (1 : Int))).toNat) _ h20) (by repeat (first | exact leL_refl _ | refine leL_cons (by first | exact leT_refl _ | exact leT_virt | exact leT_junk _ | exact leT_sl | exact leT_sln | exact leT_nil) ?_)) ?_
              try simp -implicitDefEqProofs (maxSteps := 4000000) (disch := first | omega | decide | (simp only [go_sem]; omega)) only [go_sem, ↓reduceIte]
              repeat (with_reducible refine And.intro (by first | assumption | omega | (simp; done) | (simp; omega)) ?_)
              refine toEnd hC ?_
              refine endX_seq ?_
              rcases iteB_some h with ⟨c21, h⟩ | ⟨c21, h⟩
              · refine runX_condT rfl c21 ?_
                refine runX_seq ?_
                refine runX_regionC fun C hC => ?_
                simp only [runK_region, runK_draw, liteL, liteL2, dstsL, gL, List.getD_cons_zero, List.getD_cons_succ]
                try simp -implicitDefEqProofs (maxSteps := 4000000) (disch := first | omega | decide | (simp only [go_sem]; omega)) only [go_sem, ↓reduceIte]
                repeat (with_reducible refine And.intro (by first | assumption | omega | (simp; done) | (simp; omega)) ?_)
                refine bldG_of [.imm (.string (bs [])), .imm (.string (bs []))] (by kernel_rfl) ?_
                try simp -implicitDefEqProofs (maxSteps := 4000000) (disch := first | omega | decide | (simp only [go_sem]; omega)) only [go_sem, ↓reduceIte]
                repeat (with_reducible refine And.intro (by first | assumption | omega | (simp; done) | (simp; omega)) ?_)
                refine toEnd hC ?_
                refine endX_seq ?_
                refine runX_ret ?_
                refine endX_seqR ?_
                refine endX_q ?_
                obtain rfl := Option.some.inj h
                show RetW _ _ _ _ _
                simp only [RetW]
                (try simp -implicitDefEqProofs (maxSteps := 4000000) (disch := first | omega | decide | (simp only [go_sem]; omega)) only [go_sem, ↓reduceIte])
                (try simp (disch := omega) only [if_pos, Nat.sub_zero])
                exact leT_refl _
              · refine runX_condF rfl c21 ?_
                refine runX_skip ?_
                refine endX_seq ?_
                refine runX_seq ?_
                refine runX_drawC mixed (by kernel_rfl) fun C hC => ?_
                obtain ⟨g22, h⟩ := grd_some h
                obtain ⟨g23, h⟩ := grd_some h
                obtain ⟨v24, h24, h⟩ := bnd_some h
                try simp -implicitDefEqProofs (maxSteps := 4000000) (disch := first | omega | decide | (simp only [go_sem]; omega)) only [go_sem, ↓reduceIte]
                repeat (with_reducible refine And.intro (by first | assumption | omega | (simp; done) | (simp; omega)) ?_)
                refine callD_X (F40_ok m1 (a0.drop (IntKind.wrap .i64 (x1 + (1 : Int))).toNat) _ h24) (by repeat (first | exact leL_refl _ | refine leL_cons (by first | exact leT_refl _ | exact leT_virt | exact leT_junk _ | exact leT_sl | exact leT_sln | exact leT_nil) ?_)) ?_
                try simp -implicitDefEqProofs (maxSteps := 4000000) (disch := first | omega | decide | (simp only [go_sem]; omega)) only [go_sem, ↓reduceIte]
                repeat (with_reducible refine And.intro (by first | assumption | omega | (simp; done) | (simp; omega)) ?_)
                refine buildW_of [.imm (.string (bs (a0.take x1.toNat))), .imm (.string (bs v24))] (by kernel_rfl) ?_
                try simp -implicitDefEqProofs (maxSteps := 4000000) (disch := first | omega | decide | (simp only [go_sem]; omega)) only [go_sem, ↓reduceIte]
                repeat (with_reducible refine And.intro (by first | assumption | omega | (simp; done) | (simp; omega)) ?_)
                refine toEnd hC ?_
                refine endX_seq ?_
                refine runX_ret ?_
                refine endX_q ?_
                obtain rfl := Option.some.inj h
                show RetW _ _ _ _ _
                simp only [RetW]
                (try simp -implicitDefEqProofs (maxSteps := 4000000) (disch := first | omega | decide | (simp only [go_sem]; omega)) only [go_sem, ↓reduceIte])
                (try simp (disch := omega) only [if_pos, Nat.sub_zero])
                exact leT_refl _
end Go.Proofs.YtbdkofondpalpaaDoorX

set_option linter.unusedVariables false
set_option linter.unusedSimpArgs false
namespace Go.Proofs.YtbdkofondpalpaaDoorX
open Go Go.RowKit Go.Proofs
set_option maxRecDepth 100000
/-! ### strings.Builder's copyCheck: by hand (an address is stored in its own variable) -/
-- OWN 0 1 uint8
def F82 (n : Nat) (a0 : Bool × List Int) : Option (Bool × List Int) := some (true, a0.2)
theorem bld_store {w w' : World} {b : Nat} {v0 v1 u : Value} {fr : Nat × Nat} (h : w.heap[b]? = some (.cells #[v0, v1] 94 fr)) (hf : w.frozen? ⟨b, 0, none⟩ = false) (hu : leaf u = true)
    (hr : (Instr.storeAt 92 (.pointer (some ⟨b, 0, none⟩)) u).run Tryd.prog w = .ok () w') : w' = w.setCell ⟨b, 0, none⟩ u := by
  have hc : w.cell? ⟨b, 0, none⟩ = some v0 := by simp [World.cell?, h]
  have e : (Instr.storeAt 92 (.pointer (some ⟨b, 0, none⟩)) u).run Tryd.prog w = .ok () (w.setCell ⟨b, 0, none⟩ u) := by
    unfold Instr.storeAt
    rw [run_bind (show (Instr.sureAddr (.pointer (some (⟨b, 0, none⟩ : Addr)))).run Tryd.prog w = .ok (⟨b, 0, none⟩ : Addr) w from rfl)]
    obtain ⟨inf, hinf, hs⟩ : ∃ j, Tryd.prog.info? 92 = some j ∧ j.size = 1 := Option.map_eq_some_iff.1 (show (Tryd.prog.info? 92).map (·.size) = some 1 by kernel_rfl)
    have hcs : u.cells = #[u] := by cases u <;> first | rfl | cases hu
    unfold storeVar
    rw [run_bind (run_sizeOf hinf), hs, hcs]
    simp only [List.size_toArray, List.length_cons, List.length_nil, Nat.zero_add, ne_eq, not_true_eq_false, if_false]
    show (storeCells ⟨b, 0, none⟩ [u] 0).run Tryd.prog w = _
    rw [storeCells, show (⟨b, 0, none⟩ : Addr).add 0 = ⟨b, 0, none⟩ from rfl, run_bind (run_store hc hf hu)]
    rfl
  rw [e] at hr
  injection hr with _ h2
  exact h2.symm
set_option maxHeartbeats 1000000 in
set_option maxRecDepth 100000 in
theorem bld_used (w : World) (b : Nat) (v1 : Value) (fr : Nat × Nat) (h : w.heap[b]? = some (.cells #[.pointer (some ⟨b, 0, none⟩), v1] 94 fr)) :
    Calls Tryd.prog 82 #[.pointer (some ⟨b, 0, none⟩)] w fun e w' => e = .returned (.tuple #[]) ∧ w' = w := by
  have c0 : w.cell? ⟨b, 0, none⟩ = some (.pointer (some ⟨b, 0, none⟩)) := by simp [World.cell?, h]
  have hp : Tryd.prog.underlying 92 = some (.pointer 94) := by kernel_rfl
  obtain ⟨j, hj⟩ : ∃ j, Tryd.prog.info? 94 = some j := Option.isSome_iff_exists.1 (by kernel_rfl)
  go_enter Tryd.func82, Tryd.ntmps82
  go_wp2
  rw [Lib.run_neq_ptr_same w _ hp hj]
  go_wp2
  go_end0
  exact ⟨rfl, rfl⟩
set_option maxHeartbeats 1000000 in
set_option maxRecDepth 100000 in
theorem bld_fresh (w : World) (b : Nat) (v1 : Value) (fr : Nat × Nat) (h : w.heap[b]? = some (.cells #[.pointer none, v1] 94 fr)) (hfz : w.frozen? ⟨b, 0, none⟩ = false) :
    Calls Tryd.prog 82 #[.pointer (some ⟨b, 0, none⟩)] w fun e w' => e = .returned (.tuple #[]) ∧ w' = w.setCell ⟨b, 0, none⟩ (.pointer (some ⟨b, 0, none⟩)) := by
  have h0 : w.cell? ⟨b, 0, none⟩ = some (.pointer none) := by simp [World.cell?, h]
  have hsh : w.shape? b = some (94, 2) := by simp [World.shape?, h]
  have hp : Tryd.prog.underlying 92 = some (.pointer 94) := by kernel_rfl
  have hup : Tryd.prog.underlying 160 = some .unsafePointer := by kernel_rfl
  obtain ⟨j, hj, hjs⟩ : ∃ j, Tryd.prog.info? 94 = some j ∧ j.size = 2 := Option.map_eq_some_iff.1 (show (Tryd.prog.info? 94).map (·.size) = some 2 by kernel_rfl)
  go_enter Tryd.func82, Tryd.ntmps82
  go_wp2
  rw [Lib.run_to_unsafe w ⟨b, 0, none⟩ hp hup hj (by rw [hjs]; decide) hsh (Nat.zero_lt_succ 1)]
  simp only [Result.andThen]
  rw [Oper.upon_value]
  go_wp2
  rw [run_callFunc_extern Tryd.func112 (by kernel_rfl) (by kernel_rfl) (by kernel_rfl) (e := Extern.AbiNoEscape.same) (by kernel_rfl)]
  rw [Lib.run_noEscape]
  simp only [Result.andThen]
  rw [Oper.upon_value]
  go_wp2
  rw [Lib.run_from_unsafe w ⟨b, 0, none⟩ hup hp hj hsh (by kernel_rfl)]
  simp only [Result.andThen]
  rw [Oper.upon_value]
  go_wp2
  go_end0
  exact ⟨rfl, rfl⟩
/-- What the rows of a builder are. -/
def bldO (b : Bool) (l : List Int) : List (Option Own) := [some (.box (4294967296 + 94) (.agg [adT b 0, .rsl 1 1 0 l.length]) false), some (.buf 5 1 (List.map byteT l) 0)]
theorem bld_len {L : Nat} : L = L := rfl
theorem bldO_at {w : World} {μ : Nat → Option Nat} {ban : Ban} {b : Bool} {l : List Int} (hO : Objs ⟨w, μ, bldO b l, ban⟩) : ∃ (g : Nat) (fr : Nat × Nat) (v1 : Value), μ 0 = some g ∧ w.heap[g]? = some (.cells #[if b = true then .pointer (some ⟨g, 0, none⟩) else .pointer none, v1] 94 fr) ∧ Unf fr 2 ∧ Rep ⟨w, μ, bldO b l, ban⟩ false (.rsl 1 1 0 l.length) v1 := by
  obtain ⟨g, fr, u, h1, h2, h3, h4, h5⟩ := hO.at_ 0 _ rfl
  simp only [Rep] at h4
  obtain ⟨cs, rfl, h4⟩ := h4
  simp only [RepL] at h4
  obtain ⟨v0, vs, e1, q1, v1, vs', e2, q2, e3⟩ := h4
  subst e3; subst e2
  have ec : cs = #[v0, v1] := by rw [← Array.toArray_toList (xs := cs), e1]
  subst ec
  have h1 : μ 0 = some g := h1
  have e0 : v0 = if b = true then .pointer (some ⟨g, 0, none⟩) else .pointer none := by
    cases b with
    | true =>
      have q1 : Rep _ false (.ref 0 7777 0 0) v0 := q1
      simp only [Rep] at q1
      obtain ⟨_, _, g', k1, rfl⟩ := q1
      obtain rfl : g' = g := Option.some.inj (k1.symm.trans h1)
      simp
    | false =>
      have q1 : Rep _ false (.imm (.pointer none)) v0 := q1
      simp only [Rep] at q1
      simp [q1.1]
  subst e0
  exact ⟨g, fr, v1, h1, h2, h3, by simp only [Rep] at q2 ⊢; exact q2⟩
theorem F82_ok (n : Nat) (a0 : Bool × List Int) (r : Bool × List Int) (h : F82 n a0 = some r) : FnR Tryd.prog 82 [some (.box (4294967296 + 94) (.agg [adT a0.1 0, .rsl 1 1 0 a0.2.length]) false), some (.buf 5 1 (List.map byteT a0.2) 0)] [.ref 0 0 0 0] (.tup []) [some (.box (4294967296 + 94) (.agg [adT r.1 0, .rsl 1 1 0 r.2.length]) false), some (.buf 5 1 (List.map byteT r.2) 0)] := by
  obtain rfl := Option.some.inj h
  obtain ⟨b, l⟩ := a0
  refine ⟨⟨Tryd.f82, Tryd.func82, by kernel_rfl, rfl⟩, by simp [rowsOk, refsC, refsCL, adT_refsC, tagM], by simp [sameO], by simp [refsC, refsCL], fun B μ vs hO hOwn hv => ?_⟩
  obtain ⟨g, fr, v1, h1, h2, h3, h4⟩ := bldO_at (b := b) (l := l) hO
  have evs : vs = #[.pointer (some ⟨g, 0, none⟩)] := by
    simp only [RepL, Rep] at hv
    obtain ⟨v, vs', e1, ⟨_, _, g', k1, rfl⟩, rfl⟩ := hv
    have k1 : μ 0 = some g' := k1
    rw [h1] at k1; cases k1
    rw [← Array.toArray_toList (xs := vs), e1]
  have hS : Sat B ⟨[.ref 0 0 0 0], bldO b l⟩ { tmps := vs, defers := [] } B.w μ := ⟨hv, rfl, hO, fun o x k q1 q2 q3 => by
    have q1 : (bldO b l)[o]? = some (some x) := q1
    obtain ⟨lk, hl⟩ : ∃ l, x.lock = some l := by cases x <;> first | exact ⟨_, rfl⟩ | exact absurd rfl q2
    exact .inr ⟨0, lk, (hOwn.1 k 0).2 ⟨rfl, o, (List.getElem?_eq_some_iff.1 q1).1, q3⟩, hl, Nat.zero_le _⟩, ⟨rfl, rfl, rfl, Nat.le_refl _, fun _ _ _ => rfl, fun _ _ _ _ _ => rfl, fun k lk _ c t fr h => ⟨c, fr, h, rfl⟩⟩⟩
  have hfz : B.w.frozen? ⟨g, 0, none⟩ = false := by
    have := h3 0 (by omega)
    simp only [World.frozen?, h2]
    simpa using this
  rw [evs]
  cases b with
  | true =>
    refine (bld_used B.w g v1 fr (by simpa using h2)).mono ?_
    rintro e w' ⟨rfl, rfl⟩
    exact ⟨_, μ, rfl, hS.objs, by simp only [Rep, RepL]; exact ⟨#[], rfl, rfl⟩, hS.kept, fun o x k q1 q2 q3 => .inr ((hOwn.1 k 0).2 ⟨rfl, o, (List.getElem?_eq_some_iff.1 q1).1, q3⟩)⟩
  | false =>
    have h2' : B.w.heap[g]? = some (.cells #[.pointer none, v1] 94 fr) := by simpa using h2
    refine (bld_fresh B.w g v1 fr h2' hfz).mono ?_
    rintro e w' ⟨rfl, rfl⟩
    obtain ⟨r, eff, w', hK, hrun, hpost⟩ := store_sound (P := Tryd.prog) (k := 2) (t := 92) (x := .ref 0 0 0 0) (v := .ref 0 7777 0 0) (look := lookS ⟨[.ref 0 0 0 0], bldO false l⟩) (p := .pointer (some ⟨g, 0, none⟩)) (u := .pointer (some ⟨g, 0, none⟩)) (K := fun r eff => eff = .put 0 (.box (4294967296 + 94) (.agg [.ref 0 7777 0 0, .rsl 1 1 0 l.length]) false)) hS
      (by simp [storeW, bldO, lookS, adT, go_sem]) (by simp only [Rep]; exact ⟨trivial, ⟨_, rfl⟩, g, h1, by simp⟩) (by simp only [Rep]; exact ⟨trivial, ⟨_, rfl⟩, g, h1, by simp⟩) (fun i x hx => lookS_some hx)
    subst hK
    have ew := bld_store h2' hfz rfl hrun
    subst ew
    obtain ⟨μ', hS', _⟩ := hpost
    refine ⟨_, μ', rfl, hS'.objs, by simp only [Rep, RepL]; exact ⟨#[], rfl, rfl⟩, hS'.kept, fun o x k q1 q2 q3 => ?_⟩
    rcases hS'.fresh o x k q1 q2 q3 with h | ⟨lk, lk', q4, _⟩
    · exact .inl h
    · have := ((hOwn.1 k lk).1 q4).1
      subst this
      exact .inr q4

end Go.Proofs.YtbdkofondpalpaaDoorX

set_option linter.unusedVariables false
set_option linter.unusedSimpArgs false
namespace Go.Proofs.YtbdkofondpalpaaDoorX
open Go Go.RowKit Go.Proofs
set_option maxRecDepth 100000
attribute [local go_sem ↓] stepsK_build stepsK_build0 stepsK_bs stepsK_bs0 appendS
attribute [local go_sem] String.reduceEq String.reduceNe reduceCtorEq Int.reduceEq Nat.reduceAdd Nat.reduceSub Nat.reduceMul Nat.reduceLT Nat.reduceLeDiff Nat.reduceEqDiff Nat.reduceBEq Int.reduceToNat Int.reduceLT Int.reduceLE Int.reduceGT Int.reduceGE Int.reduceAdd Int.reduceSub Int.reduceMul Int.reduceNeg Int.reduceBEq Int.reduceBNe Int.reducePow Int.reduceDiv Int.reduceMod Int.reduceTDiv Int.reduceTMod Int.reduceNatCast
/-! ### (*strings.Builder).WriteString -/
def F45 (n : Nat) (a0 : (Bool) × (List (Int))) (a1 : List UInt8) : Option ((Int) × (Unit) × ((Bool) × (List (Int)))) := (F82 n (a0.1, a0.2)).bind fun v1 => grd ((v1.2.length + a1.length) ≤ 549755813888) (some ((a1.length : Int), (), (v1.1, (v1.2 ++ (a1.map ofB)))))
set_option maxHeartbeats 4000000 in
theorem F45_ok : ∀ (n : Nat) (a0 : (Bool) × (List (Int))) (a1 : List UInt8) (r : (Int) × (Unit) × ((Bool) × (List (Int)))), F45 n a0 a1 = some r → FnR Tryd.prog 45 [some (.box 4294967390 (.agg [adT a0.1 0, .rsl 1 1 0 a0.2.length]) false), some (.buf 5 1 (List.map byteT a0.2) 0)] [.ref 0 0 0 0, .imm (.string (bs a1))] (.tup [.imm (.int .i64 r.1), .imm .nilIface]) [some (.box 4294967390 (.agg [adT r.2.2.1 0, .rsl 1 1 0 r.2.2.2.length]) false), some (.buf 5 1 (List.map byteT r.2.2.2) 0)]
  | n, a0, a1, r, h => by
    unfold F45 at h
    refine FnR.goX mixed [4, 5] Tryd.func45 (by kernel_rfl) rfl (by simp [rowsOk, refsC, refsCL, adT_refsC, tagM]) (by simp [sameO]) (by simp [refsC, refsCL]) ?_
    simp only [Tryd.ntmps45, List.length_cons, List.length_nil, List.replicate, List.cons_append, List.nil_append, Nat.reduceAdd, Nat.reduceSub]
    refine runX_seq ?_
    refine runX_regionC fun C hC => ?_
    try simp -implicitDefEqProofs (maxSteps := 4000000) (disch := first | omega | decide | (simp only [go_sem]; omega)) only [go_sem, ↓reduceIte]
    repeat (with_reducible refine And.intro (by first | assumption | omega | (simp; done) | (simp; omega)) ?_)
    refine toEnd hC ?_
    refine endX_seq ?_
    refine runX_seq ?_
    refine runX_regionC fun C hC => ?_
    obtain ⟨v1, h1, h⟩ := bnd_some h
    try simp -implicitDefEqProofs (maxSteps := 4000000) (disch := first | omega | decide | (simp only [go_sem]; omega)) only [go_sem, ↓reduceIte]
    repeat (with_reducible refine And.intro (by first | assumption | omega | (simp; done) | (simp; omega)) ?_)
    refine callR_X [0, 1] (F82_ok n (a0.1, a0.2) _ h1) (by decide) (by (try simp -implicitDefEqProofs (maxSteps := 4000000) (disch := first | omega | decide | (simp only [go_sem]; omega)) only [go_sem, ↓reduceIte]); repeat (first | exact trivial | refine And.intro ?_ ?_ | exact fun _ => trivial | exact fun _ _ => trivial | exact fun _ _ h => h | rfl | decide)) (by (try simp -implicitDefEqProofs (maxSteps := 4000000) (disch := first | omega | decide | (simp only [go_sem]; omega)) only [go_sem, ↓reduceIte]); repeat (first | exact leL_refl _ | refine leL_cons (by first | exact leT_refl _ | exact leT_virt | exact leT_junk _ | exact leT_sl | exact leT_sln | exact leT_nil) ?_)) ?_
    try simp -implicitDefEqProofs (maxSteps := 4000000) (disch := first | omega | decide | (simp only [go_sem]; omega)) only [go_sem, ↓reduceIte]
    repeat (with_reducible refine And.intro (by first | assumption | omega | (simp; done) | (simp; omega)) ?_)
    refine toEnd hC ?_
    refine endX_seq ?_
    refine runX_seq ?_
    refine runX_regionC fun C hC => ?_
    obtain ⟨g2, h⟩ := grd_some h
    try simp -implicitDefEqProofs (maxSteps := 4000000) (disch := first | omega | decide | (simp only [go_sem]; omega)) only [go_sem, ↓reduceIte]
    repeat (with_reducible refine And.intro (by first | assumption | omega | (simp; done) | (simp; omega)) ?_)
    refine toEnd hC ?_
    refine endX_seq ?_
    refine runX_seq ?_
    refine runX_regionC fun C hC => ?_
    try simp -implicitDefEqProofs (maxSteps := 4000000) (disch := first | omega | decide | (simp only [go_sem]; omega)) only [go_sem, ↓reduceIte]
    repeat (with_reducible refine And.intro (by first | assumption | omega | (simp; done) | (simp; omega)) ?_)
    refine toEnd hC ?_
    refine endX_seq ?_
    refine runX_ret ?_
    refine endX_q ?_
    obtain rfl := Option.some.inj h
    show RetR _ _ _ _ _ _ _ _
    simp only [RetR]
    (try simp -implicitDefEqProofs (maxSteps := 4000000) (disch := first | omega | decide | (simp only [go_sem]; omega)) only [go_sem, ↓reduceIte])
    exact ⟨leOs_refl _, leT_refl _⟩
end Go.Proofs.YtbdkofondpalpaaDoorX

set_option linter.unusedVariables false
set_option linter.unusedSimpArgs false
namespace Go.Proofs.YtbdkofondpalpaaDoorX
open Go Go.RowKit Go.Proofs
set_option maxRecDepth 100000
/-! ### strings.Builder's String: by hand (the text shares the bytes: the row is given up) -/
-- OWN 0 1 uint8
-- DEAD 0
def F46 (n : Nat) (a0 : Bool × List Int) : Option (List UInt8 × (Bool × List Int)) := if a0.2.length ≤ 549755813888 ∧ (a0.2.all fun x => decide (0 ≤ x) && decide (x < 256)) = true then some (a0.2.map toB, a0) else none
-- F82
set_option maxHeartbeats 2000000 in
set_option maxRecDepth 100000 in
/-- Some bytes. -/
theorem bst_row (b g cap sz : Nat) (p : Value) (l : List UInt8) (h0 : l ≠ []) (hl : l.length ≤ 549755813888) (w : World) (fr fr' : Nat × Nat) (cur : Array Value) (hbk : w.heap[b]? = some (.cells #[p, .slice (some ⟨g, 0, none⟩) l.length cap] 94 fr)) (hg : w.heap[g]? = some (.cells cur 5 fr')) (hc : cap ≠ 0) (hsz : l.length ≤ cur.size)
    (hcell : ∀ j x, l[j]? = some x → w.cell? ((⟨g, 0, none⟩ : Addr).add j) = some (.int .u8 x.toNat)) :
    Calls Tryd.prog 46 #[.pointer (some ⟨b, 0, none⟩)] w fun e w' => e = .returned (.string ⟨l.toArray⟩) ∧ w' = w.drew.freeze ⟨g, 0, none⟩ l.length := by
  have c1 : w.drew.cell? ⟨b, 1, none⟩ = some (.slice (some ⟨g, 0, none⟩) l.length cap) := by
    have : w.drew.heap[b]? = some (.cells #[p, .slice (some ⟨g, 0, none⟩) l.length cap] 94 fr) := hbk
    simp [World.cell?, this]
  have hSD : (Builtin.unsafeSliceData_ #[62] 132 #[.slice (some ⟨g, 0, none⟩) l.length cap]).run Tryd.prog w.drew = .ok (.pointer (some ⟨g, 0, none⟩)) w.drew :=
    Lib.run_unsafeSliceData_row _ _ _ _ _ _ hc
  have hUS : (Builtin.unsafeString_ #[132, 3] 9 #[.pointer (some ⟨g, 0, none⟩), .int .i64 l.length]).run Tryd.prog w.drew = .ok (.string ⟨l.toArray⟩) (w.drew.freeze ⟨g, 0, none⟩ l.length) := by
    refine Lib.run_unsafeString_row w.drew 132 3 9 5 (by kernel_rfl) (by kernel_rfl) g cur.size (by have hg' : w.drew.heap[g]? = some (.cells cur 5 fr') := hg; simp [World.shape?, hg']) l h0 hsz (by omega) ?_
    intro j x hx
    exact hcell j x hx
  go_enter Tryd.func46, Tryd.ntmps46
  go_wp2
  go_region
  all_goals (go_wp2; go_ret; exact ⟨rfl, rfl⟩)
set_option maxHeartbeats 2000000 in
set_option maxRecDepth 100000 in
/-- No byte, over no row. -/
theorem bst_nil (b : Nat) (p : Value) (w : World) (fr : Nat × Nat) (hbk : w.heap[b]? = some (.cells #[p, .slice none 0 0] 94 fr)) :
    Calls Tryd.prog 46 #[.pointer (some ⟨b, 0, none⟩)] w fun e w' => e = .returned (.string ⟨#[]⟩) ∧ Below w.heap.size w w' := by
  have hUS : ∀ (W : World) (q : Option Addr), (Builtin.unsafeString_ #[132, 3] 9 #[.pointer q, .int .i64 0]).run Tryd.prog W = .ok (.string .empty) W := fun W q => Lib.run_unsafeString_none W _ _ _ q
  have c1 : w.drew.cell? ⟨b, 1, none⟩ = some (.slice none 0 0) := by
    have : w.drew.heap[b]? = some (.cells #[p, .slice none 0 0] 94 fr) := hbk
    simp [World.cell?, this]
  have hSD : (Builtin.unsafeSliceData_ #[62] 132 #[.slice none 0 0]).run Tryd.prog w.drew = .ok (.pointer none) w.drew := rfl
  go_enter Tryd.func46, Tryd.ntmps46
  go_wp2
  go_region
  all_goals (go_wp2; go_ret; exact ⟨rfl, Below.drew (Below.refl _ w)⟩)
set_option maxHeartbeats 2000000 in
set_option maxRecDepth 100000 in
/-- No byte, over a row without room. -/
theorem bst_noroom (b : Nat) (a : Addr) (p : Value) (w : World) (fr fr' : Nat × Nat) (cur : Array Value) (t : TypeId) (hbk : w.heap[b]? = some (.cells #[p, .slice (some a) 0 0] 94 fr)) (hg : w.heap[a.block]? = some (.cells cur t fr')) :
    Calls Tryd.prog 46 #[.pointer (some ⟨b, 0, none⟩)] w fun e w' => e = .returned (.string ⟨#[]⟩) ∧ Below w.heap.size w w' := by
  have hUS : ∀ (W : World) (q : Option Addr), (Builtin.unsafeString_ #[132, 3] 9 #[.pointer q, .int .i64 0]).run Tryd.prog W = .ok (.string .empty) W := fun W q => Lib.run_unsafeString_none W _ _ _ q
  have hlt : b < w.heap.size := (Array.getElem?_eq_some_iff.1 hbk).1
  have c1 : w.drew.cell? ⟨b, 1, none⟩ = some (.slice (some a) 0 0) := by
    have : w.drew.heap[b]? = some (.cells #[p, .slice (some a) 0 0] 94 fr) := hbk
    simp [World.cell?, this]
  have hSD : (Builtin.unsafeSliceData_ #[62] 132 #[.slice (some a) 0 0]).run Tryd.prog w.drew = .ok (.pointer (some ⟨w.drew.heap.size, 0, none⟩)) (w.drew.alloc (.view a 5)) :=
    Lib.run_unsafeSliceData_zero w.drew _ _ 5 (by kernel_rfl) a 0 (t, cur.size) (by have hg' : w.drew.heap[a.block]? = some (.cells cur t fr') := hg; simp [World.shape?, hg'])
  have c2 : (w.drew.alloc (.view a 5)).cell? ⟨b, 1, none⟩ = some (.slice (some a) 0 0) := by
    have : (w.drew.alloc (.view a 5)).heap[b]? = _ := (Lib.alloc_old w.drew _ b hlt).trans hbk
    simp [World.cell?, this]
  have c3 : (w.alloc (.view a 5)).drew.cell? ⟨b, 1, none⟩ = some (.slice (some a) 0 0) := c2
  have c0 : w.cell? ⟨b, 1, none⟩ = some (.slice (some a) 0 0) := c1
  go_enter Tryd.func46, Tryd.ntmps46
  go_wp2
  go_region
  all_goals (go_wp2; go_ret; exact ⟨rfl, (Below.drew (Below.refl _ w)).alloc (Nat.le_refl _) _⟩)
set_option maxHeartbeats 2000000 in
set_option maxRecDepth 100000 in
/-- No byte, over a row with room. -/
theorem bst_room (b cap : Nat) (a : Addr) (p : Value) (w : World) (fr : Nat × Nat) (hc0 : cap ≠ 0) (hbk : w.heap[b]? = some (.cells #[p, .slice (some a) 0 cap] 94 fr)) :
    Calls Tryd.prog 46 #[.pointer (some ⟨b, 0, none⟩)] w fun e w' => e = .returned (.string ⟨#[]⟩) ∧ Below w.heap.size w w' := by
  have hUS : ∀ (W : World) (q : Option Addr), (Builtin.unsafeString_ #[132, 3] 9 #[.pointer q, .int .i64 0]).run Tryd.prog W = .ok (.string .empty) W := fun W q => Lib.run_unsafeString_none W _ _ _ q
  have c1 : w.drew.cell? ⟨b, 1, none⟩ = some (.slice (some a) 0 cap) := by
    have : w.drew.heap[b]? = some (.cells #[p, .slice (some a) 0 cap] 94 fr) := hbk
    simp [World.cell?, this]
  have hSD : (Builtin.unsafeSliceData_ #[62] 132 #[.slice (some a) 0 cap]).run Tryd.prog w.drew = .ok (.pointer (some a)) w.drew :=
    Lib.run_unsafeSliceData_row _ _ _ _ _ _ hc0
  clear hc0
  go_enter Tryd.func46, Tryd.ntmps46
  go_wp2
  go_region
  all_goals (go_wp2; go_ret; exact ⟨rfl, Below.drew (Below.refl _ w)⟩)
/-- What the rows of a builder are behind String. -/
def bldD (b : Bool) : List (Option Own) := [some (.box (4294967296 + 94) (.agg [adT b 0, .junk]) false), some .dead]
theorem bst_objs {w w' : World} {μ : Nat → Option Nat} {ban : Ban} {b : Bool} {l : List Int} {g : Nat} {fr : Nat × Nat} {v1 : Value} (hO : Objs ⟨w, μ, bldO b l, ban⟩) (h1 : μ 0 = some g)
    (h2 : w'.heap[g]? = some (.cells #[if b = true then .pointer (some ⟨g, 0, none⟩) else .pointer none, v1] 94 fr)) (h3 : Unf fr 2) : Objs ⟨w', μ, bldD b, ban⟩ := by
  obtain ⟨g', _, _, k1, _, _, _, _, hp⟩ := hO.at_ 0 _ rfl
  have k1 : μ 0 = some g' := k1
  obtain rfl : g' = g := Option.some.inj (k1.symm.trans h1)
  refine ⟨fun o x hx => ?_, fun o o' x x' q hx hx' hd hd' _ _ => ?_⟩
  · match o, hx with
    | 0, hx =>
      have hx : some (some (Own.box (4294967296 + 94) (.agg [adT b 0, .junk]) false)) = some (some x) := hx
      injection hx with hx; injection hx with hx; subst hx
      refine ⟨g', fr, .agg #[if b = true then .pointer (some ⟨g', 0, none⟩) else .pointer none, v1], h1, h2, h3, ?_, rfl, hp⟩
      simp only [Rep]
      refine ⟨_, rfl, ?_⟩
      simp only [RepL]
      refine ⟨_, _, rfl, ?_, _, _, rfl, by simp only [Rep], rfl⟩
      cases b with
      | true =>
        show Rep _ false (.ref 0 7777 0 0) _
        simp only [Rep]
        exact ⟨trivial, ⟨_, rfl⟩, g', h1, by simp⟩
      | false =>
        show Rep _ false (.imm (.pointer none)) _
        simp [Rep, flat]
    | 1, hx =>
      have hx : some (some Own.dead) = some (some x) := hx
      injection hx with hx; injection hx with hx; subst hx
      trivial
    | o + 2, hx => exact absurd (show (none : Option (Option Own)) = some (some x) from hx) (by simp)
  · match o, o', hx, hx' with
    | 0, 0, _, _ => rfl
    | 1, _, hx, _ =>
      have hx : some (some Own.dead) = some (some x) := hx
      injection hx with hx; injection hx with hx; exact absurd hx.symm hd
    | _, 1, _, hx =>
      have hx : some (some Own.dead) = some (some x') := hx
      injection hx with hx; injection hx with hx; exact absurd hx.symm hd'
    | o + 2, _, hx, _ => exact absurd (show (none : Option (Option Own)) = some (some x) from hx) (by simp)
    | 0, o + 2, _, hx => exact absurd (show (none : Option (Option Own)) = some (some x') from hx) (by simp)
theorem bst_bytes (l : List Int) (h : (l.all fun x => decide (0 ≤ x) && decide (x < 256)) = true) (j : Nat) (x : UInt8) (hx : (l.map toB)[j]? = some x) : l[j]? = some (x.toNat : Int) := by
  rw [List.getElem?_map] at hx
  cases hl : l[j]? with
  | none => rw [hl] at hx; cases hx
  | some y =>
    rw [hl] at hx
    have hx : toB y = x := Option.some.inj hx
    obtain ⟨hj, e⟩ := List.getElem?_eq_some_iff.1 hl
    have hy := List.all_eq_true.1 h y (e ▸ List.getElem_mem hj)
    simp only [Bool.and_eq_true, decide_eq_true_eq] at hy
    subst hx
    simp only [toB, Option.some.injEq]
    rw [UInt8.toNat_ofNat', Nat.mod_eq_of_lt (by omega)]
    omega
theorem bst_inj : ∀ l ns : List Int, List.map byteT l = List.map byteT ns → l = ns
  | [], [], _ => rfl
  | [], _ :: _, h => by simp at h
  | _ :: _, [], h => by simp at h
  | x :: l, y :: ns, h => by
    simp only [List.map_cons, List.cons.injEq] at h
    obtain ⟨h1, h2⟩ := h
    have h1 : T.imm (.int .u8 x) = T.imm (.int .u8 y) := h1
    injection h1 with h1; injection h1 with _ h1
    rw [h1, bst_inj l ns h2]
theorem bst_kept {B : Base} {q n : Nat} (h : B.own q 0) (hz : ∀ k lk, B.own k lk → lk = 0) : Kept B (B.w.drew.freeze ⟨q, 0, none⟩ n) := by
  unfold World.freeze
  split
  · exact Kept.below ⟨rfl, rfl, rfl, Nat.le_refl _, fun _ _ _ => rfl, fun _ _ _ _ _ => rfl, fun k lk _ c t fr h => ⟨c, fr, h, rfl⟩⟩ (Below.drew (Below.refl _ _))
  · refine ⟨rfl, rfl, rfl, ?_, fun k hk h1 => ?_, fun k lk h1 j hj => ?_, fun k lk h1 c t fr hb => ?_⟩
    · show _ ≤ (B.w.heap.modify _ _).size
      rw [Array.size_modify]; exact Nat.le_refl _
    · show (B.w.heap.modify _ _)[k]? = _
      rw [Array.getElem?_modify, if_neg (show ¬ q = k from fun e => h1 0 (e ▸ h))]
    · rw [hz k lk h1] at hj; omega
    · show ∃ c' fr', (B.w.heap.modify _ _)[k]? = _ ∧ _
      rw [Array.getElem?_modify]
      split
      · rw [hb]; exact ⟨c, _, rfl, rfl⟩
      · exact ⟨c, fr, hb, rfl⟩
theorem F46_ok (n : Nat) (a0 : Bool × List Int) (r : List UInt8 × (Bool × List Int)) (h : F46 n a0 = some r) : FnR Tryd.prog 46 [some (.box (4294967296 + 94) (.agg [adT a0.1 0, .rsl 1 1 0 a0.2.length]) false), some (.buf 5 1 (List.map byteT a0.2) 0)] [.ref 0 0 0 0] (.imm (.string (bs r.1))) [some (.box (4294967296 + 94) (.agg [adT r.2.1 0, .junk]) false), some .dead] := by
  unfold F46 at h
  split at h
  case isFalse => cases h
  rename_i hl
  obtain ⟨hl, hb⟩ := hl
  obtain rfl := Option.some.inj h
  obtain ⟨b, l⟩ := a0
  dsimp only at hl hb ⊢
  refine ⟨⟨Tryd.f46, Tryd.func46, by kernel_rfl, rfl⟩, by simp [rowsOk, refsC, refsCL, adT_refsC, tagM], by simp [sameO], by simp [refsC, refsCL], fun B μ vs hO hOwn hv => ?_⟩
  obtain ⟨g, fr, v1, h1, h2, h3, h4⟩ := bldO_at (b := b) (l := l) hO
  have evs : vs = #[.pointer (some ⟨g, 0, none⟩)] := by
    simp only [RepL, Rep] at hv
    obtain ⟨v, vs', e1, ⟨_, _, g', k1, rfl⟩, rfl⟩ := hv
    have k1 : μ 0 = some g' := k1
    rw [h1] at k1; cases k1
    rw [← Array.toArray_toList (xs := vs), e1]
  have hk0 : Kept B B.w := ⟨rfl, rfl, rfl, Nat.le_refl _, fun _ _ _ => rfl, fun _ _ _ _ _ => rfl, fun k lk _ c t fr h => ⟨c, fr, h, rfl⟩⟩
  have hlt : g < B.w.heap.size := (Array.getElem?_eq_some_iff.1 h2).1
  have hown : ∀ (o : Nat) (x : Own) (q : Nat), (bldD b)[o]? = some (some x) → x ≠ .dead → μ o = some q → B.w.heap.size ≤ q ∨ B.own q 0 := fun o x q q1 q2 q3 =>
    .inr ((hOwn.1 q 0).2 ⟨rfl, o, (List.getElem?_eq_some_iff.1 q1).1, q3⟩)
  have hout : ∀ (e : Ending) (w' : World), l = [] → e = .returned (.string ⟨#[]⟩) ∧ Below B.w.heap.size B.w w' → ∃ u μ', e = .returned u ∧ Objs ⟨w', μ', bldD b, B.ban⟩ ∧ Rep ⟨w', μ', bldD b, B.ban⟩ false (.imm (.string (bs (l.map toB)))) u ∧ Kept B w' ∧
      (∀ (o : Nat) (x : Own) (q : Nat), (bldD b)[o]? = some (some x) → x ≠ .dead → μ' o = some q → B.w.heap.size ≤ q ∨ B.own q 0) := by
    rintro e w' rfl ⟨rfl, hw⟩
    exact ⟨_, μ, rfl, bst_objs hO h1 ((hw.block g hlt).trans h2) h3, by simp only [Rep]; exact ⟨rfl, rfl⟩, hk0.below hw, hown⟩
  rw [evs]
  simp only [Rep] at h4
  obtain ⟨_, _, h4⟩ := h4
  rcases h4 with ⟨_, hl0, _, ⟨a, ha⟩, rfl⟩ | ⟨q, p, cap, c, t, fr', m1, rfl, m2, m3, m4, m5⟩
  · have e : l = [] := List.eq_nil_of_length_eq_zero hl0
    cases a with
    | none => exact (bst_nil g _ B.w fr h2).mono fun e' w' h' => hout e' w' e h'
    | some a =>
      obtain ⟨c, t, fr', hc⟩ := ha a rfl
      exact (bst_noroom g a _ B.w fr fr' c t h2 hc).mono fun e' w' h' => hout e' w' e h'
  · by_cases e : l = []
    · subst e
      by_cases hc : cap = 0
      · subst hc
        exact (bst_noroom g ⟨q, p, none⟩ _ B.w fr fr' c t h2 m4).mono fun e' w' h' => hout e' w' rfl h'
      · exact (bst_room g cap ⟨q, p, none⟩ _ B.w fr hc h2).mono fun e' w' h' => hout e' w' rfl h'
    · have hll : l.length ≠ 0 := fun h => e (List.eq_nil_of_length_eq_zero h)
      have hc : cap ≠ 0 := by omega
      have hp : p = 0 := by rcases m3 with h | h; exact absurd h hc; omega
      subst hp
      obtain ⟨_, hbuf⟩ := hO.at_ 1 _ rfl
      rcases hbuf with ⟨_, h0⟩ | ⟨q', c', fr2, c1, c2, n1, n2, n3, n4, n5⟩
      · exact absurd (List.map_eq_nil_iff.1 h0) e
      have n1 : μ 1 = some q' := n1
      obtain rfl : q' = q := Option.some.inj (n1.symm.trans m1)
      have n2 : B.w.heap[q']? = some (.cells c' 5 fr2) := n2
      obtain ⟨ns, e1, e2⟩ := bytes_rep n5 (fun x hx => by obtain ⟨y, _, rfl⟩ := List.mem_map.1 hx; rfl)
      obtain rfl := bst_inj _ _ e2
      have hsz : (l.map toB).length ≤ c'.size := by
        rw [← Array.length_toList, n4, e1]; simp
      have hcell : ∀ j x, (l.map toB)[j]? = some x → B.w.cell? ((⟨q', 0, none⟩ : Addr).add j) = some (.int .u8 x.toNat) := by
        intro j x hx
        have hj := bst_bytes l hb j x hx
        have hjl : j < c1.length := by rw [e1, List.length_map]; exact (List.getElem?_eq_some_iff.1 hj).1
        have : c'[j]? = some (.int .u8 x.toNat) := by
          rw [← Array.getElem?_toList, n4, List.getElem?_append_left hjl, e1, List.getElem?_map, hj]; rfl
        have ea : ((⟨q', 0, none⟩ : Addr).add j) = ⟨q', j, none⟩ := by
          unfold Addr.add
          split
          · subst_vars; rfl
          · simp
        rw [ea]
        simp only [World.cell?, n2]
        exact this
      have hne : g ≠ q' := fun e' => by
        have := hO.inj 0 1 _ _ g rfl rfl (by simp) (by simp) h1 (e' ▸ n1)
        omega
      have h2' : B.w.heap[g]? = some (.cells #[if b = true then .pointer (some ⟨g, 0, none⟩) else .pointer none, .slice (some ⟨q', 0, none⟩) (l.map toB).length cap] 94 fr) := by rw [List.length_map]; exact h2
      refine (bst_row g q' cap c'.size _ (l.map toB) (by simpa using e) (by rw [List.length_map]; exact hl) B.w fr fr2 c' h2' n2 hc hsz hcell).mono ?_
      rintro e' w' ⟨rfl, rfl⟩
      have hw : (B.w.drew.freeze ⟨q', 0, none⟩ (l.map toB).length).heap[g]? = B.w.heap[g]? := by
        unfold World.freeze
        split
        · rfl
        · show (B.w.heap.modify _ _)[g]? = _
          rw [Array.getElem?_modify, if_neg (fun h => hne h.symm)]
      exact ⟨_, μ, rfl, bst_objs hO h1 (hw.trans h2) h3, by simp only [Rep]; exact ⟨rfl, rfl⟩, bst_kept ((hOwn.1 q' 0).2 ⟨rfl, 1, by simp, n1⟩) (fun k lk h => ((hOwn.1 k lk).1 h).1), hown⟩

end Go.Proofs.YtbdkofondpalpaaDoorX

set_option linter.unusedVariables false
set_option linter.unusedSimpArgs false
namespace Go.Proofs.YtbdkofondpalpaaDoorX
open Go Go.RowKit Go.Proofs
set_option maxRecDepth 100000
attribute [local go_sem ↓] stepsK_build stepsK_build0 stepsK_bs stepsK_bs0 appendS
attribute [local go_sem] String.reduceEq String.reduceNe reduceCtorEq Int.reduceEq Nat.reduceAdd Nat.reduceSub Nat.reduceMul Nat.reduceLT Nat.reduceLeDiff Nat.reduceEqDiff Nat.reduceBEq Int.reduceToNat Int.reduceLT Int.reduceLE Int.reduceGT Int.reduceGE Int.reduceAdd Int.reduceSub Int.reduceMul Int.reduceNeg Int.reduceBEq Int.reduceBNe Int.reducePow Int.reduceDiv Int.reduceMod Int.reduceTDiv Int.reduceTMod Int.reduceNatCast
/-! ### header.Put -/
def F22_S1 (a0 : List ((List UInt8) × (List UInt8))) (x1 : Int) (x2 : Bool) (x3 : List (Int)) : St := ⟨[.junk, .junk, .junk, .ref 0 0 0 0, .junk, .junk, .sl 2 false (List.map eT43 a0), .imm (.int .i64 (a0.length : Int)), .imm (.int .i64 x1), .junk, .junk, .junk, .junk, .junk, .junk, .junk, .junk, .junk, .junk, .junk, .junk, .junk], [some (.box 94 (.agg [adT x2 0, .rsl 1 1 0 x3.length]) false), some (.buf 5 1 (List.map byteT x3) 0)]⟩
def F22_L1 : Nat → (List ((List UInt8) × (List UInt8))) → (Int) → (Bool) → (List (Int)) → Option (List UInt8)
  | 0, _, _, _, _ => none
  | m1 + 1, a0, x1, x2, x3 => iteB (decide (x1 < (a0.length : Int))) (grd (0 ≤ x1 ∧ x1 < (a0.length : Int)) (grd (((a0.getD x1.toNat default).1).length + 2 ≤ 9223372036854775807) (grd ((((a0.getD x1.toNat default).1).length + 2) + ((a0.getD x1.toNat default).2).length ≤ 9223372036854775807) (grd ((((a0.getD x1.toNat default).1).length + ((a0.getD x1.toNat default).2).length + 2) + 2 ≤ 9223372036854775807) ((F45 m1 (x2, x3) (((((a0.getD x1.toNat default).1) ++ ([58, 32] : List UInt8)) ++ ((a0.getD x1.toNat default).2)) ++ ([13, 10] : List UInt8))).bind fun v9 => F22_L1 m1 a0 (IntKind.wrap .i64 (x1 + (1 : Int))) v9.2.2.1 v9.2.2.2))))) ((F46 m1 (x2, x3)).bind fun v10 => some v10.1)
def F22 (n : Nat) (a0 : List ((List UInt8) × (List UInt8))) : Option (List UInt8) := F22_L1 n a0 (0 : Int) false []
set_option maxHeartbeats 4000000 in
theorem F22_ok : ∀ (n : Nat) (a0 : List ((List UInt8) × (List UInt8))) (r : List UInt8), F22 n a0 = some r → FnC Tryd.prog 22 [.sl 2 false (List.map eT43 a0)] (.imm (.string (bs r)))
  | n, a0, r, h => by
    unfold F22 at h
    refine FnC.goX mixed Tryd.func22 (by kernel_rfl) rfl ?_
    simp only [Tryd.ntmps22, List.length_cons, List.length_nil, List.replicate, List.cons_append, List.nil_append, Nat.reduceAdd, Nat.reduceSub]
    refine runX_seq ?_
    refine runX_regionC fun C hC => ?_
    try simp -implicitDefEqProofs (maxSteps := 4000000) (disch := first | omega | decide | (simp only [go_sem]; omega)) only [go_sem, ↓reduceIte]
    repeat (with_reducible refine And.intro (by first | assumption | omega | (simp; done) | (simp; omega)) ?_)
    refine toEnd hC ?_
    refine endX_seq ?_
    refine runX_seq ?_
    refine runX_regionC fun C hC => ?_
    try simp -implicitDefEqProofs (maxSteps := 4000000) (disch := first | omega | decide | (simp only [go_sem]; omega)) only [go_sem, ↓reduceIte]
    repeat (with_reducible refine And.intro (by first | assumption | omega | (simp; done) | (simp; omega)) ?_)
    refine toEnd hC ?_
    refine endX_seq ?_
    refine runX_seq ?_
    refine runX_seq ?_
    refine runX_regionC fun C hC => ?_
    try simp -implicitDefEqProofs (maxSteps := 4000000) (disch := first | omega | decide | (simp only [go_sem]; omega)) only [go_sem, ↓reduceIte]
    repeat (with_reducible refine And.intro (by first | assumption | omega | (simp; done) | (simp; omega)) ?_)
    refine toEnd hC ?_
    refine endX_seq ?_
    refine runX_block ?_
    refine runX_loop [3, 6, 7, 8] (fun m S => ∃ (x1 : Int) (x2 : Bool) (x3 : List (Int)), S = F22_S1 a0 x1 x2 x3 ∧ m ≤ n ∧ F22_L1 m a0 x1 x2 x3 = some r) n ⟨F22_S1 a0 (0 : Int) false [], ?_, (0 : Int), false, [], rfl, Nat.le_refl _, h⟩ ?_
    · (try simp -implicitDefEqProofs (maxSteps := 4000000) (disch := first | omega | decide | (simp only [go_sem]; omega)) only [go_sem, ↓reduceIte])
      simp only [F22_S1]
      refine leS_trans (leS_pad _ _ 1) ?_
      simp only [List.replicate, List.cons_append, List.nil_append]
      refine leS_virt 1 5 1 rfl ?_ ?_ rfl
      · repeat (first | exact leL_refl _ | refine leL_cons (by first | exact leT_refl _ | exact leT_virt | exact leT_junk _ | exact leT_sl | exact leT_sln | exact leT_nil) ?_)
      · repeat (first | exact leOs_refl _ | refine leOs.cons (by first | exact leO.same _ | (refine leO.box (leT_agg (by repeat (first | exact leL_refl _ | refine leL_cons (by first | exact leT_refl _ | exact leT_virt | exact leT_junk _ | exact leT_sl | exact leT_sln | exact leT_nil) ?_))) rfl)) ?_)
    · clear h
      rintro m1 S ⟨x1, x2, x3, rfl, hm1, h⟩
      cases m1 with
      | zero => first | cases (show (none : Option _) = some _ from h) | (rw [F22_L1] at h; cases h)
      | succ m1 =>
        rw [F22_L1] at h
        simp only [F22_S1]
        refine runX_seq ?_
        refine runX_regionC fun C hC => ?_
        try simp -implicitDefEqProofs (maxSteps := 4000000) (disch := first | omega | decide | (simp only [go_sem]; omega)) only [go_sem, ↓reduceIte]
        repeat (with_reducible refine And.intro (by first | assumption | omega | (simp; done) | (simp; omega)) ?_)
        refine toEnd hC ?_
        refine endX_seq ?_
        refine runX_seq ?_
        rcases iteB_some h with ⟨c4, h⟩ | ⟨c4, h⟩
        · refine runX_condT rfl c4 ?_
          refine runX_skip ?_
          refine endX_seq ?_
          refine runX_seq ?_
          refine runX_block ?_
          refine runX_seq ?_
          refine runX_regionC fun C hC => ?_
          obtain ⟨g5, h⟩ := grd_some h
          try simp -implicitDefEqProofs (maxSteps := 4000000) (disch := first | omega | decide | (simp only [go_sem]; omega)) only [go_sem, ↓reduceIte]
          repeat (with_reducible refine And.intro (by first | assumption | omega | (simp; done) | (simp; omega)) ?_)
          refine toEnd hC ?_
          refine endX_seq ?_
          refine runX_regionC fun C hC => ?_
          obtain ⟨g6, h⟩ := grd_some h
          obtain ⟨g7, h⟩ := grd_some h
          obtain ⟨g8, h⟩ := grd_some h
          obtain ⟨v9, h9, h⟩ := bnd_some h
          try simp -implicitDefEqProofs (maxSteps := 4000000) (disch := first | omega | decide | (simp only [go_sem]; omega)) only [go_sem, ↓reduceIte]
          repeat (with_reducible refine And.intro (by first | assumption | omega | (simp; done) | (simp; omega)) ?_)
          refine callR_X [0, 1] (F45_ok m1 (x2, x3) (((((a0.getD x1.toNat default).1) ++ ([58, 32] : List UInt8)) ++ ((a0.getD x1.toNat default).2)) ++ ([13, 10] : List UInt8)) _ h9) (by decide) (by (try simp -implicitDefEqProofs (maxSteps := 4000000) (disch := first | omega | decide | (simp only [go_sem]; omega)) only [go_sem, ↓reduceIte]); repeat (first | exact trivial | refine And.intro ?_ ?_ | exact fun _ => trivial | exact fun _ _ => trivial | exact fun _ _ h => h | rfl | decide)) (by (try simp -implicitDefEqProofs (maxSteps := 4000000) (disch := first | omega | decide | (simp only [go_sem]; omega)) only [go_sem, ↓reduceIte]); repeat (first | exact leL_refl _ | refine leL_cons (by first | exact leT_refl _ | exact leT_virt | exact leT_junk _ | exact leT_sl | exact leT_sln | exact leT_nil) ?_)) ?_
          try simp -implicitDefEqProofs (maxSteps := 4000000) (disch := first | omega | decide | (simp only [go_sem]; omega)) only [go_sem, ↓reduceIte]
          repeat (with_reducible refine And.intro (by first | assumption | omega | (simp; done) | (simp; omega)) ?_)
          refine toEnd hC ?_
          refine endX_blk ?_
          refine endX_seq ?_
          refine runX_regionC fun C hC => ?_
          try simp -implicitDefEqProofs (maxSteps := 4000000) (disch := first | omega | decide | (simp only [go_sem]; omega)) only [go_sem, ↓reduceIte]
          repeat (with_reducible refine And.intro (by first | assumption | omega | (simp; done) | (simp; omega)) ?_)
          refine toEnd hC ?_
          refine endX_q (roundQ_normal ⟨m1, by omega, F22_S1 a0 (IntKind.wrap .i64 (x1 + (1 : Int))) v9.2.2.1 v9.2.2.2, ?_, (IntKind.wrap .i64 (x1 + (1 : Int))), v9.2.2.1, v9.2.2.2, rfl, by omega, h⟩)
          simp only [F22_S1]
          (try simp -implicitDefEqProofs (maxSteps := 4000000) (disch := first | omega | decide | (simp only [go_sem]; omega)) only [go_sem, ↓reduceIte])
          first | exact leS_refl _ | (refine leS_le ?_ ?_ <;> first | exact leL_refl _ | exact leOs_refl _ | (repeat (first | exact leL_refl _ | refine leL_cons (by first | exact leT_refl _ | exact leT_virt | exact leT_junk _ | exact leT_sl | exact leT_sln | exact leT_nil) ?_)))
        · refine runX_condF rfl c4 ?_
          refine runX_exit ?_
          refine endX_seqE ?_
          refine endX_q (roundQ_exit ?_)
          refine endX_blkE ?_
          refine endX_seq ?_
          refine runX_seq ?_
          refine runX_regionC fun C hC => ?_
          simp only [runK_region, runK_draw, liteL, liteL2, dstsL, gL, List.getD_cons_zero, List.getD_cons_succ]
          obtain ⟨v10, h10, h⟩ := bnd_some h
          try simp -implicitDefEqProofs (maxSteps := 4000000) (disch := first | omega | decide | (simp only [go_sem]; omega)) only [go_sem, ↓reduceIte]
          repeat (with_reducible refine And.intro (by first | assumption | omega | (simp; done) | (simp; omega)) ?_)
          refine callR_X [0, 1] (F46_ok m1 (x2, x3) _ h10) (by decide) (by (try simp -implicitDefEqProofs (maxSteps := 4000000) (disch := first | omega | decide | (simp only [go_sem]; omega)) only [go_sem, ↓reduceIte]); repeat (first | exact trivial | refine And.intro ?_ ?_ | exact fun _ => trivial | exact fun _ _ => trivial | exact fun _ _ h => h | rfl | decide)) (by (try simp -implicitDefEqProofs (maxSteps := 4000000) (disch := first | omega | decide | (simp only [go_sem]; omega)) only [go_sem, ↓reduceIte]); repeat (first | exact leL_refl _ | refine leL_cons (by first | exact leT_refl _ | exact leT_virt | exact leT_junk _ | exact leT_sl | exact leT_sln | exact leT_nil) ?_)) ?_
          try simp -implicitDefEqProofs (maxSteps := 4000000) (disch := first | omega | decide | (simp only [go_sem]; omega)) only [go_sem, ↓reduceIte]
          repeat (with_reducible refine And.intro (by first | assumption | omega | (simp; done) | (simp; omega)) ?_)
          refine toEnd hC ?_
          refine endX_seq ?_
          refine runX_ret ?_
          refine endX_q ?_
          obtain rfl := Option.some.inj h
          show RetW _ _ _ _ _
          simp only [RetW]
          (try simp -implicitDefEqProofs (maxSteps := 4000000) (disch := first | omega | decide | (simp only [go_sem]; omega)) only [go_sem, ↓reduceIte])
          (try simp (disch := omega) only [if_pos, Nat.sub_zero])
          exact leT_refl _
end Go.Proofs.YtbdkofondpalpaaDoorX

set_option linter.unusedVariables false
set_option linter.unusedSimpArgs false
namespace Go.Proofs.YtbdkofondpalpaaDoorX
open Go Go.RowKit Go.Proofs
set_option maxRecDepth 100000
attribute [local go_sem ↓] stepsK_build stepsK_build0 stepsK_bs stepsK_bs0 appendS
attribute [local go_sem] String.reduceEq String.reduceNe reduceCtorEq Int.reduceEq Nat.reduceAdd Nat.reduceSub Nat.reduceMul Nat.reduceLT Nat.reduceLeDiff Nat.reduceEqDiff Nat.reduceBEq Int.reduceToNat Int.reduceLT Int.reduceLE Int.reduceGT Int.reduceGE Int.reduceAdd Int.reduceSub Int.reduceMul Int.reduceNeg Int.reduceBEq Int.reduceBNe Int.reducePow Int.reduceDiv Int.reduceMod Int.reduceTDiv Int.reduceTMod Int.reduceNatCast
/-! ### shadowboxref30.Put -/
def F23_S1 (a0 : List ((List UInt8) × (List UInt8))) (x1 : List UInt8) (x2 : Int) : St := ⟨[.sl 2 false (List.map eT43 a0), .junk, .junk, .imm (.string (bs x1)), .imm (.int .i64 x2), .junk, .junk, .junk, .junk, .junk, .junk, .junk, .junk, .junk, .junk, .junk, .junk, .junk, .junk, .junk, .junk, .junk, .junk, .junk, .junk, .junk, .junk], []⟩
def F23_L1 : Nat → (List ((List UInt8) × (List UInt8))) → (List UInt8) → (Int) → Option (List UInt8)
  | 0, _, _, _ => none
  | m1 + 1, a0, x1, x2 => iteB (decide (x2 < (a0.length : Int))) (grd (0 ≤ x2 ∧ x2 < (a0.length : Int)) (grd (x1.length + ((a0.getD x2.toNat default).1).length ≤ 9223372036854775807) (grd ((x1.length + ((a0.getD x2.toNat default).1).length) + 2 ≤ 9223372036854775807) (grd (0 ≤ x2 ∧ x2 < (a0.length : Int)) (grd ((x1.length + ((a0.getD x2.toNat default).1).length + 2) + ((a0.getD x2.toNat default).2).length ≤ 9223372036854775807) (grd ((x1.length + ((a0.getD x2.toNat default).1).length + ((a0.getD x2.toNat default).2).length + 2) + 2 ≤ 9223372036854775807) (F23_L1 m1 a0 ((((x1 ++ ((a0.getD x2.toNat default).1)) ++ ([58, 32] : List UInt8)) ++ ((a0.getD x2.toNat default).2)) ++ ([13, 10] : List UInt8)) (IntKind.wrap .i64 (x2 + (1 : Int)))))))))) (some x1)
def F23 (n : Nat) (a0 : List ((List UInt8) × (List UInt8))) : Option (List UInt8) := F23_L1 n a0 [] (0 : Int)
set_option maxHeartbeats 4000000 in
theorem F23_ok : ∀ (n : Nat) (a0 : List ((List UInt8) × (List UInt8))) (r : List UInt8), F23 n a0 = some r → FnC Tryd.prog 23 [.sl 2 false (List.map eT43 a0)] (.imm (.string (bs r)))
  | n, a0, r, h => by
    unfold F23 at h
    refine FnC.goX mixed Tryd.func23 (by kernel_rfl) rfl ?_
    simp only [Tryd.ntmps23, List.length_cons, List.length_nil, List.replicate, List.cons_append, List.nil_append, Nat.reduceAdd, Nat.reduceSub]
    refine runX_seq ?_
    refine runX_regionC fun C hC => ?_
    try simp -implicitDefEqProofs (maxSteps := 4000000) (disch := first | omega | decide | (simp only [go_sem]; omega)) only [go_sem, ↓reduceIte]
    repeat (with_reducible refine And.intro (by first | assumption | omega | (simp; done) | (simp; omega)) ?_)
    refine toEnd hC ?_
    refine endX_seq ?_
    refine runX_seq ?_
    refine runX_regionC fun C hC => ?_
    try simp -implicitDefEqProofs (maxSteps := 4000000) (disch := first | omega | decide | (simp only [go_sem]; omega)) only [go_sem, ↓reduceIte]
    repeat (with_reducible refine And.intro (by first | assumption | omega | (simp; done) | (simp; omega)) ?_)
    refine toEnd hC ?_
    refine endX_seq ?_
    refine runX_seq ?_
    refine runX_seq ?_
    refine runX_regionC fun C hC => ?_
    try simp -implicitDefEqProofs (maxSteps := 4000000) (disch := first | omega | decide | (simp only [go_sem]; omega)) only [go_sem, ↓reduceIte]
    repeat (with_reducible refine And.intro (by first | assumption | omega | (simp; done) | (simp; omega)) ?_)
    refine toEnd hC ?_
    refine endX_seq ?_
    refine runX_block ?_
    refine runX_loop [0, 3, 4] (fun m S => ∃ (x1 : List UInt8) (x2 : Int), S = F23_S1 a0 x1 x2 ∧ m ≤ n ∧ F23_L1 m a0 x1 x2 = some r) n ⟨F23_S1 a0 [] (0 : Int), ?_, [], (0 : Int), rfl, Nat.le_refl _, h⟩ ?_
    · simp only [F23_S1]
      (try simp -implicitDefEqProofs (maxSteps := 4000000) (disch := first | omega | decide | (simp only [go_sem]; omega)) only [go_sem, ↓reduceIte])
      first | exact leS_refl _ | (refine leS_le ?_ ?_ <;> first | exact leL_refl _ | exact leOs_refl _ | (repeat (first | exact leL_refl _ | refine leL_cons (by first | exact leT_refl _ | exact leT_virt | exact leT_junk _ | exact leT_sl | exact leT_sln | exact leT_nil) ?_)))
    · clear h
      rintro m1 S ⟨x1, x2, rfl, hm1, h⟩
      cases m1 with
      | zero => first | cases (show (none : Option _) = some _ from h) | (rw [F23_L1] at h; cases h)
      | succ m1 =>
        rw [F23_L1] at h
        simp only [F23_S1]
        refine runX_seq ?_
        refine runX_seq ?_
        refine runX_regionC fun C hC => ?_
        try simp -implicitDefEqProofs (maxSteps := 4000000) (disch := first | omega | decide | (simp only [go_sem]; omega)) only [go_sem, ↓reduceIte]
        repeat (with_reducible refine And.intro (by first | assumption | omega | (simp; done) | (simp; omega)) ?_)
        refine toEnd hC ?_
        refine endX_seq ?_
        rcases iteB_some h with ⟨c3, h⟩ | ⟨c3, h⟩
        · refine runX_condT rfl c3 ?_
          refine runX_skip ?_
          refine endX_seq ?_
          refine runX_seq ?_
          refine runX_block ?_
          refine runX_drawC mixed (by kernel_rfl) fun C hC => ?_
          obtain ⟨g4, h⟩ := grd_some h
          obtain ⟨g5, h⟩ := grd_some h
          obtain ⟨g6, h⟩ := grd_some h
          obtain ⟨g7, h⟩ := grd_some h
          obtain ⟨g8, h⟩ := grd_some h
          obtain ⟨g9, h⟩ := grd_some h
          try simp -implicitDefEqProofs (maxSteps := 4000000) (disch := first | omega | decide | (simp only [go_sem]; omega)) only [go_sem, ↓reduceIte]
          repeat (with_reducible refine And.intro (by first | assumption | omega | (simp; done) | (simp; omega)) ?_)
          refine toEnd hC ?_
          refine endX_blk ?_
          refine endX_seq ?_
          refine runX_regionC fun C hC => ?_
          try simp -implicitDefEqProofs (maxSteps := 4000000) (disch := first | omega | decide | (simp only [go_sem]; omega)) only [go_sem, ↓reduceIte]
          repeat (with_reducible refine And.intro (by first | assumption | omega | (simp; done) | (simp; omega)) ?_)
          refine toEnd hC ?_
          refine endX_q (roundQ_normal ⟨m1, by omega, F23_S1 a0 ((((x1 ++ ((a0.getD x2.toNat default).1)) ++ ([58, 32] : List UInt8)) ++ ((a0.getD x2.toNat default).2)) ++ ([13, 10] : List UInt8)) (IntKind.wrap .i64 (x2 + (1 : Int))), ?_, ((((x1 ++ ((a0.getD x2.toNat default).1)) ++ ([58, 32] : List UInt8)) ++ ((a0.getD x2.toNat default).2)) ++ ([13, 10] : List UInt8)), (IntKind.wrap .i64 (x2 + (1 : Int))), rfl, by omega, h⟩)
          simp only [F23_S1]
          (try simp -implicitDefEqProofs (maxSteps := 4000000) (disch := first | omega | decide | (simp only [go_sem]; omega)) only [go_sem, ↓reduceIte])
          first | exact leS_refl _ | (refine leS_le ?_ ?_ <;> first | exact leL_refl _ | exact leOs_refl _ | (repeat (first | exact leL_refl _ | refine leL_cons (by first | exact leT_refl _ | exact leT_virt | exact leT_junk _ | exact leT_sl | exact leT_sln | exact leT_nil) ?_)))
        · refine runX_condF rfl c3 ?_
          refine runX_exit ?_
          refine endX_seqE ?_
          refine endX_q (roundQ_exit ?_)
          refine endX_blkE ?_
          refine endX_seq ?_
          refine runX_seq ?_
          refine runX_regionC fun C hC => ?_
          try simp -implicitDefEqProofs (maxSteps := 4000000) (disch := first | omega | decide | (simp only [go_sem]; omega)) only [go_sem, ↓reduceIte]
          repeat (with_reducible refine And.intro (by first | assumption | omega | (simp; done) | (simp; omega)) ?_)
          refine toEnd hC ?_
          refine endX_seq ?_
          refine runX_ret ?_
          refine endX_q ?_
          obtain rfl := Option.some.inj h
          show RetW _ _ _ _ _
          simp only [RetW]
          (try simp -implicitDefEqProofs (maxSteps := 4000000) (disch := first | omega | decide | (simp only [go_sem]; omega)) only [go_sem, ↓reduceIte])
          (try simp (disch := omega) only [if_pos, Nat.sub_zero])
          exact leT_refl _
end Go.Proofs.YtbdkofondpalpaaDoorX

set_option linter.unusedVariables false
set_option linter.unusedSimpArgs false
namespace Go.Proofs.YtbdkofondpalpaaDoorX
open Go Go.RowKit Go.Proofs
set_option maxRecDepth 100000
attribute [local go_sem ↓] stepsK_build stepsK_build0 stepsK_bs stepsK_bs0 appendS
attribute [local go_sem] String.reduceEq String.reduceNe reduceCtorEq Int.reduceEq Nat.reduceAdd Nat.reduceSub Nat.reduceMul Nat.reduceLT Nat.reduceLeDiff Nat.reduceEqDiff Nat.reduceBEq Int.reduceToNat Int.reduceLT Int.reduceLE Int.reduceGT Int.reduceGE Int.reduceAdd Int.reduceSub Int.reduceMul Int.reduceNeg Int.reduceBEq Int.reduceBNe Int.reducePow Int.reduceDiv Int.reduceMod Int.reduceTDiv Int.reduceTMod Int.reduceNatCast
/-! ### shadowboxlaw30.HeaderLines -/
def F5 (n : Nat) (a0 : List UInt8) (a1 : List ((List UInt8) × (List UInt8))) : Option (Bool) := (F15 n a1).bind fun v1 => iteB (!v1.2) (some true) (iteB (decide ((900 : Int) < (a0.length : Int))) (some true) ((F16 n a0).bind fun v4 => (F17 n a0).bind fun v5 => (F16 n ([72, 111, 115, 116, 58, 32, 32, 97, 32] : List UInt8)).bind fun v6 => (F18 n a0).bind fun v7 => (F19 n a0).bind fun v8 => iteB (v7 == v8) ((F20 n a0).bind fun v10 => (F21 n a0).bind fun v11 => iteB (v10 == v11) (iteB ((v4.1.1 == v5.1.1) && (v4.1.2 == v5.1.2)) (iteB (v4.2 == v5.2) ((F22 n a1).bind fun v15 => (F23 n v1.1).bind fun v16 => iteB (v15 == v16) (iteB v6.2 (some (v6.1.2 == ([97] : List UInt8))) (some false)) (some false)) (some false)) (some false)) (some false)) (some false)))
set_option maxHeartbeats 4000000 in
theorem F5_ok : ∀ (n : Nat) (a0 : List UInt8) (a1 : List ((List UInt8) × (List UInt8))) (r : Bool), F5 n a0 a1 = some r → FnC Tryd.prog 5 [.imm (.string (bs a0)), .sl 2 false (List.map eT43 a1)] (.imm (.bool r))
  | n, a0, a1, r, h => by
    unfold F5 at h
    refine FnC.goX mixed Tryd.func5 (by kernel_rfl) rfl ?_
    simp only [Tryd.ntmps5, List.length_cons, List.length_nil, List.replicate, List.cons_append, List.nil_append, Nat.reduceAdd, Nat.reduceSub]
    refine runX_seq ?_
    refine runX_regionC fun C hC => ?_
    try simp -implicitDefEqProofs (maxSteps := 4000000) (disch := first | omega | decide | (simp only [go_sem]; omega)) only [go_sem, ↓reduceIte]
    repeat (with_reducible refine And.intro (by first | assumption | omega | (simp; done) | (simp; omega)) ?_)
    refine toEnd hC ?_
    refine endX_seq ?_
    refine runX_seq ?_
    refine runX_regionC fun C hC => ?_
    obtain ⟨v1, h1, h⟩ := bnd_some h
    try simp -implicitDefEqProofs (maxSteps := 4000000) (disch := first | omega | decide | (simp only [go_sem]; omega)) only [go_sem, ↓reduceIte]
    repeat (with_reducible refine And.intro (by first | assumption | omega | (simp; done) | (simp; omega)) ?_)
    refine callG_X (by first | rfl | (simp only [go_sem]; done) | (simp only [closedL, closedT, Bool.and_true]; exact closedL_map _ (fun _ => by first | rfl | (simp only [go_sem]; done)) _)) (F15_ok n a1 _ h1) (by repeat (first | exact leL_refl _ | refine leL_cons (by first | exact leT_refl _ | exact leT_virt | exact leT_junk _ | exact leT_sl | exact leT_sln | exact leT_nil) ?_)) ?_
    try simp -implicitDefEqProofs (maxSteps := 4000000) (disch := first | omega | decide | (simp only [go_sem]; omega)) only [go_sem, ↓reduceIte]
    repeat (with_reducible refine And.intro (by first | assumption | omega | (simp; done) | (simp; omega)) ?_)
    refine toEnd hC ?_
    refine endX_seq ?_
    refine runX_seq ?_
    refine runX_seq ?_
    refine runX_regionC fun C hC => ?_
    try simp -implicitDefEqProofs (maxSteps := 4000000) (disch := first | omega | decide | (simp only [go_sem]; omega)) only [go_sem, ↓reduceIte]
    repeat (with_reducible refine And.intro (by first | assumption | omega | (simp; done) | (simp; omega)) ?_)
    rcases iteB_some h with ⟨c2, h⟩ | ⟨c2, h⟩
    · refine guardK_F c2 ?_
      try simp -implicitDefEqProofs (maxSteps := 4000000) (disch := first | omega | decide | (simp only [go_sem]; omega)) only [go_sem, ↓reduceIte]
      repeat (with_reducible refine And.intro (by first | assumption | omega | (simp; done) | (simp; omega)) ?_)
      refine toEnd hC ?_
      refine endX_seq ?_
      refine runX_condT rfl rfl ?_
      refine runX_seq ?_
      refine runX_regionC fun C hC => ?_
      try simp -implicitDefEqProofs (maxSteps := 4000000) (disch := first | omega | decide | (simp only [go_sem]; omega)) only [go_sem, ↓reduceIte]
      repeat (with_reducible refine And.intro (by first | assumption | omega | (simp; done) | (simp; omega)) ?_)
      refine toEnd hC ?_
      refine endX_seq ?_
      refine runX_ret ?_
      refine endX_seqR ?_
      refine endX_q ?_
      obtain rfl := Option.some.inj h
      show RetW _ _ _ _ _
      simp only [RetW]
      (try simp -implicitDefEqProofs (maxSteps := 4000000) (disch := first | omega | decide | (simp only [go_sem]; omega)) only [go_sem, ↓reduceIte])
      (try simp (disch := omega) only [if_pos, Nat.sub_zero])
      exact leT_refl _
    · refine guardK_T c2 ?_
      try simp -implicitDefEqProofs (maxSteps := 4000000) (disch := first | omega | decide | (simp only [go_sem]; omega)) only [go_sem, ↓reduceIte]
      repeat (with_reducible refine And.intro (by first | assumption | omega | (simp; done) | (simp; omega)) ?_)
      refine toEnd hC ?_
      refine endX_seq ?_
      rcases iteB_some h with ⟨c3, h⟩ | ⟨c3, h⟩
      · refine runX_condT rfl c3 ?_
        refine runX_seq ?_
        refine runX_regionC fun C hC => ?_
        try simp -implicitDefEqProofs (maxSteps := 4000000) (disch := first | omega | decide | (simp only [go_sem]; omega)) only [go_sem, ↓reduceIte]
        repeat (with_reducible refine And.intro (by first | assumption | omega | (simp; done) | (simp; omega)) ?_)
        refine toEnd hC ?_
        refine endX_seq ?_
        refine runX_ret ?_
        refine endX_seqR ?_
        refine endX_q ?_
        obtain rfl := Option.some.inj h
        show RetW _ _ _ _ _
        simp only [RetW]
        (try simp -implicitDefEqProofs (maxSteps := 4000000) (disch := first | omega | decide | (simp only [go_sem]; omega)) only [go_sem, ↓reduceIte])
        (try simp (disch := omega) only [if_pos, Nat.sub_zero])
        exact leT_refl _
      · refine runX_condF rfl c3 ?_
        refine runX_skip ?_
        refine endX_seq ?_
        refine runX_seq ?_
        refine runX_regionC fun C hC => ?_
        obtain ⟨v4, h4, h⟩ := bnd_some h
        try simp -implicitDefEqProofs (maxSteps := 4000000) (disch := first | omega | decide | (simp only [go_sem]; omega)) only [go_sem, ↓reduceIte]
        repeat (with_reducible refine And.intro (by first | assumption | omega | (simp; done) | (simp; omega)) ?_)
        refine callG_X (by first | rfl | (simp only [go_sem]; done) | (simp only [closedL, closedT, Bool.and_true]; exact closedL_map _ (fun _ => by first | rfl | (simp only [go_sem]; done)) _)) (F16_ok n a0 _ h4) (by repeat (first | exact leL_refl _ | refine leL_cons (by first | exact leT_refl _ | exact leT_virt | exact leT_junk _ | exact leT_sl | exact leT_sln | exact leT_nil) ?_)) ?_
        try simp -implicitDefEqProofs (maxSteps := 4000000) (disch := first | omega | decide | (simp only [go_sem]; omega)) only [go_sem, ↓reduceIte]
        repeat (with_reducible refine And.intro (by first | assumption | omega | (simp; done) | (simp; omega)) ?_)
        refine toEnd hC ?_
        refine endX_seq ?_
        refine runX_seq ?_
        refine runX_regionC fun C hC => ?_
        obtain ⟨v5, h5, h⟩ := bnd_some h
        try simp -implicitDefEqProofs (maxSteps := 4000000) (disch := first | omega | decide | (simp only [go_sem]; omega)) only [go_sem, ↓reduceIte]
        repeat (with_reducible refine And.intro (by first | assumption | omega | (simp; done) | (simp; omega)) ?_)
        refine callG_X (by first | rfl | (simp only [go_sem]; done) | (simp only [closedL, closedT, Bool.and_true]; exact closedL_map _ (fun _ => by first | rfl | (simp only [go_sem]; done)) _)) (F17_ok n a0 _ h5) (by repeat (first | exact leL_refl _ | refine leL_cons (by first | exact leT_refl _ | exact leT_virt | exact leT_junk _ | exact leT_sl | exact leT_sln | exact leT_nil) ?_)) ?_
        try simp -implicitDefEqProofs (maxSteps := 4000000) (disch := first | omega | decide | (simp only [go_sem]; omega)) only [go_sem, ↓reduceIte]
        repeat (with_reducible refine And.intro (by first | assumption | omega | (simp; done) | (simp; omega)) ?_)
        refine toEnd hC ?_
        refine endX_seq ?_
        refine runX_seq ?_
        refine runX_regionC fun C hC => ?_
        simp only [runK_region, runK_draw, liteL, liteL2, dstsL, gL, List.getD_cons_zero, List.getD_cons_succ]
        obtain ⟨v6, h6, h⟩ := bnd_some h
        try simp -implicitDefEqProofs (maxSteps := 4000000) (disch := first | omega | decide | (simp only [go_sem]; omega)) only [go_sem, ↓reduceIte]
        repeat (with_reducible refine And.intro (by first | assumption | omega | (simp; done) | (simp; omega)) ?_)
        refine callG_X (by first | rfl | (simp only [go_sem]; done) | (simp only [closedL, closedT, Bool.and_true]; exact closedL_map _ (fun _ => by first | rfl | (simp only [go_sem]; done)) _)) (F16_ok n ([72, 111, 115, 116, 58, 32, 32, 97, 32] : List UInt8) _ h6) (by repeat (first | exact leL_refl _ | refine leL_cons (by first | exact leT_refl _ | exact leT_virt | exact leT_junk _ | exact leT_sl | exact leT_sln | exact leT_nil) ?_)) ?_
        try simp -implicitDefEqProofs (maxSteps := 4000000) (disch := first | omega | decide | (simp only [go_sem]; omega)) only [go_sem, ↓reduceIte]
        repeat (with_reducible refine And.intro (by first | assumption | omega | (simp; done) | (simp; omega)) ?_)
        refine toEnd hC ?_
        refine endX_seq ?_
        refine runX_seq ?_
        refine runX_regionC fun C hC => ?_
        obtain ⟨v7, h7, h⟩ := bnd_some h
        try simp -implicitDefEqProofs (maxSteps := 4000000) (disch := first | omega | decide | (simp only [go_sem]; omega)) only [go_sem, ↓reduceIte]
        repeat (with_reducible refine And.intro (by first | assumption | omega | (simp; done) | (simp; omega)) ?_)
        refine callG_X (by first | rfl | (simp only [go_sem]; done) | (simp only [closedL, closedT, Bool.and_true]; exact closedL_map _ (fun _ => by first | rfl | (simp only [go_sem]; done)) _)) (F18_ok n a0 _ h7) (by repeat (first | exact leL_refl _ | refine leL_cons (by first | exact leT_refl _ | exact leT_virt | exact leT_junk _ | exact leT_sl | exact leT_sln | exact leT_nil) ?_)) ?_
        obtain ⟨v8, h8, h⟩ := bnd_some h
        try simp -implicitDefEqProofs (maxSteps := 4000000) (disch := first | omega | decide | (simp only [go_sem]; omega)) only [go_sem, ↓reduceIte]
        repeat (with_reducible refine And.intro (by first | assumption | omega | (simp; done) | (simp; omega)) ?_)
        refine callG_X (by first | rfl | (simp only [go_sem]; done) | (simp only [closedL, closedT, Bool.and_true]; exact closedL_map _ (fun _ => by first | rfl | (simp only [go_sem]; done)) _)) (F19_ok n a0 _ h8) (by repeat (first | exact leL_refl _ | refine leL_cons (by first | exact leT_refl _ | exact leT_virt | exact leT_junk _ | exact leT_sl | exact leT_sln | exact leT_nil) ?_)) ?_
        try simp -implicitDefEqProofs (maxSteps := 4000000) (disch := first | omega | decide | (simp only [go_sem]; omega)) only [go_sem, ↓reduceIte]
        repeat (with_reducible refine And.intro (by first | assumption | omega | (simp; done) | (simp; omega)) ?_)
        rcases iteB_some h with ⟨c9, h⟩ | ⟨c9, h⟩
        · refine guardK_T c9 ?_
          obtain ⟨v10, h10, h⟩ := bnd_some h
          try simp -implicitDefEqProofs (maxSteps := 4000000) (disch := first | omega | decide | (simp only [go_sem]; omega)) only [go_sem, ↓reduceIte]
          repeat (with_reducible refine And.intro (by first | assumption | omega | (simp; done) | (simp; omega)) ?_)
          refine callG_X (by first | rfl | (simp only [go_sem]; done) | (simp only [closedL, closedT, Bool.and_true]; exact closedL_map _ (fun _ => by first | rfl | (simp only [go_sem]; done)) _)) (F20_ok n a0 _ h10) (by repeat (first | exact leL_refl _ | refine leL_cons (by first | exact leT_refl _ | exact leT_virt | exact leT_junk _ | exact leT_sl | exact leT_sln | exact leT_nil) ?_)) ?_
          obtain ⟨v11, h11, h⟩ := bnd_some h
          try simp -implicitDefEqProofs (maxSteps := 4000000) (disch := first | omega | decide | (simp only [go_sem]; omega)) only [go_sem, ↓reduceIte]
          repeat (with_reducible refine And.intro (by first | assumption | omega | (simp; done) | (simp; omega)) ?_)
          refine callG_X (by first | rfl | (simp only [go_sem]; done) | (simp only [closedL, closedT, Bool.and_true]; exact closedL_map _ (fun _ => by first | rfl | (simp only [go_sem]; done)) _)) (F21_ok n a0 _ h11) (by repeat (first | exact leL_refl _ | refine leL_cons (by first | exact leT_refl _ | exact leT_virt | exact leT_junk _ | exact leT_sl | exact leT_sln | exact leT_nil) ?_)) ?_
          try simp -implicitDefEqProofs (maxSteps := 4000000) (disch := first | omega | decide | (simp only [go_sem]; omega)) only [go_sem, ↓reduceIte]
          repeat (with_reducible refine And.intro (by first | assumption | omega | (simp; done) | (simp; omega)) ?_)
          rcases iteB_some h with ⟨c12, h⟩ | ⟨c12, h⟩
          · refine guardK_T c12 ?_
            try simp -implicitDefEqProofs (maxSteps := 4000000) (disch := first | omega | decide | (simp only [go_sem]; omega)) only [go_sem, ↓reduceIte]
            repeat (with_reducible refine And.intro (by first | assumption | omega | (simp; done) | (simp; omega)) ?_)
            rcases iteB_some h with ⟨c13, h⟩ | ⟨c13, h⟩
            · refine guardK_T c13 ?_
              try simp -implicitDefEqProofs (maxSteps := 4000000) (disch := first | omega | decide | (simp only [go_sem]; omega)) only [go_sem, ↓reduceIte]
              repeat (with_reducible refine And.intro (by first | assumption | omega | (simp; done) | (simp; omega)) ?_)
              rcases iteB_some h with ⟨c14, h⟩ | ⟨c14, h⟩
              · refine guardK_T c14 ?_
                obtain ⟨v15, h15, h⟩ := bnd_some h
                try simp -implicitDefEqProofs (maxSteps := 4000000) (disch := first | omega | decide | (simp only [go_sem]; omega)) only [go_sem, ↓reduceIte]
                repeat (with_reducible refine And.intro (by first | assumption | omega | (simp; done) | (simp; omega)) ?_)
                refine callG_X (by first | rfl | (simp only [go_sem]; done) | (simp only [closedL, closedT, Bool.and_true]; exact closedL_map _ (fun _ => by first | rfl | (simp only [go_sem]; done)) _)) (F22_ok n a1 _ h15) (by repeat (first | exact leL_refl _ | refine leL_cons (by first | exact leT_refl _ | exact leT_virt | exact leT_junk _ | exact leT_sl | exact leT_sln | exact leT_nil) ?_)) ?_
                obtain ⟨v16, h16, h⟩ := bnd_some h
                try simp -implicitDefEqProofs (maxSteps := 4000000) (disch := first | omega | decide | (simp only [go_sem]; omega)) only [go_sem, ↓reduceIte]
                repeat (with_reducible refine And.intro (by first | assumption | omega | (simp; done) | (simp; omega)) ?_)
                refine callG_X (by first | rfl | (simp only [go_sem]; done) | (simp only [closedL, closedT, Bool.and_true]; exact closedL_map _ (fun _ => by first | rfl | (simp only [go_sem]; done)) _)) (F23_ok n v1.1 _ h16) (by repeat (first | exact leL_refl _ | refine leL_cons (by first | exact leT_refl _ | exact leT_virt | exact leT_junk _ | exact leT_sl | exact leT_sln | exact leT_nil) ?_)) ?_
                try simp -implicitDefEqProofs (maxSteps := 4000000) (disch := first | omega | decide | (simp only [go_sem]; omega)) only [go_sem, ↓reduceIte]
                repeat (with_reducible refine And.intro (by first | assumption | omega | (simp; done) | (simp; omega)) ?_)
                rcases iteB_some h with ⟨c17, h⟩ | ⟨c17, h⟩
                · refine guardK_T c17 ?_
                  try simp -implicitDefEqProofs (maxSteps := 4000000) (disch := first | omega | decide | (simp only [go_sem]; omega)) only [go_sem, ↓reduceIte]
                  repeat (with_reducible refine And.intro (by first | assumption | omega | (simp; done) | (simp; omega)) ?_)
                  rcases iteB_some h with ⟨c18, h⟩ | ⟨c18, h⟩
                  · refine guardK_T c18 ?_
                    try simp -implicitDefEqProofs (maxSteps := 4000000) (disch := first | omega | decide | (simp only [go_sem]; omega)) only [go_sem, ↓reduceIte]
                    repeat (with_reducible refine And.intro (by first | assumption | omega | (simp; done) | (simp; omega)) ?_)
                    refine toEnd hC ?_
                    refine endX_seq ?_
                    refine runX_ret ?_
                    refine endX_q ?_
                    obtain rfl := Option.some.inj h
                    show RetW _ _ _ _ _
                    simp only [RetW]
                    (try simp -implicitDefEqProofs (maxSteps := 4000000) (disch := first | omega | decide | (simp only [go_sem]; omega)) only [go_sem, ↓reduceIte])
                    (try simp (disch := omega) only [if_pos, Nat.sub_zero])
                    exact leT_refl _
                  · refine guardK_F c18 ?_
                    try simp -implicitDefEqProofs (maxSteps := 4000000) (disch := first | omega | decide | (simp only [go_sem]; omega)) only [go_sem, ↓reduceIte]
                    repeat (with_reducible refine And.intro (by first | assumption | omega | (simp; done) | (simp; omega)) ?_)
                    refine toEnd hC ?_
                    refine endX_seq ?_
                    refine runX_ret ?_
                    refine endX_q ?_
                    obtain rfl := Option.some.inj h
                    show RetW _ _ _ _ _
                    simp only [RetW]
                    (try simp -implicitDefEqProofs (maxSteps := 4000000) (disch := first | omega | decide | (simp only [go_sem]; omega)) only [go_sem, ↓reduceIte])
                    (try simp (disch := omega) only [if_pos, Nat.sub_zero])
                    exact leT_refl _
                · refine guardK_F c17 ?_
                  try simp -implicitDefEqProofs (maxSteps := 4000000) (disch := first | omega | decide | (simp only [go_sem]; omega)) only [go_sem, ↓reduceIte]
                  repeat (with_reducible refine And.intro (by first | assumption | omega | (simp; done) | (simp; omega)) ?_)
                  refine toEnd hC ?_
                  refine endX_seq ?_
                  refine runX_ret ?_
                  refine endX_q ?_
                  obtain rfl := Option.some.inj h
                  show RetW _ _ _ _ _
                  simp only [RetW]
                  (try simp -implicitDefEqProofs (maxSteps := 4000000) (disch := first | omega | decide | (simp only [go_sem]; omega)) only [go_sem, ↓reduceIte])
                  (try simp (disch := omega) only [if_pos, Nat.sub_zero])
                  exact leT_refl _
              · refine guardK_F c14 ?_
                try simp -implicitDefEqProofs (maxSteps := 4000000) (disch := first | omega | decide | (simp only [go_sem]; omega)) only [go_sem, ↓reduceIte]
                repeat (with_reducible refine And.intro (by first | assumption | omega | (simp; done) | (simp; omega)) ?_)
                refine toEnd hC ?_
                refine endX_seq ?_
                refine runX_ret ?_
                refine endX_q ?_
                obtain rfl := Option.some.inj h
                show RetW _ _ _ _ _
                simp only [RetW]
                (try simp -implicitDefEqProofs (maxSteps := 4000000) (disch := first | omega | decide | (simp only [go_sem]; omega)) only [go_sem, ↓reduceIte])
                (try simp (disch := omega) only [if_pos, Nat.sub_zero])
                exact leT_refl _
            · refine guardK_F c13 ?_
              try simp -implicitDefEqProofs (maxSteps := 4000000) (disch := first | omega | decide | (simp only [go_sem]; omega)) only [go_sem, ↓reduceIte]
              repeat (with_reducible refine And.intro (by first | assumption | omega | (simp; done) | (simp; omega)) ?_)
              refine toEnd hC ?_
              refine endX_seq ?_
              refine runX_ret ?_
              refine endX_q ?_
              obtain rfl := Option.some.inj h
              show RetW _ _ _ _ _
              simp only [RetW]
              (try simp -implicitDefEqProofs (maxSteps := 4000000) (disch := first | omega | decide | (simp only [go_sem]; omega)) only [go_sem, ↓reduceIte])
              (try simp (disch := omega) only [if_pos, Nat.sub_zero])
              exact leT_refl _
          · refine guardK_F c12 ?_
            try simp -implicitDefEqProofs (maxSteps := 4000000) (disch := first | omega | decide | (simp only [go_sem]; omega)) only [go_sem, ↓reduceIte]
            repeat (with_reducible refine And.intro (by first | assumption | omega | (simp; done) | (simp; omega)) ?_)
            refine toEnd hC ?_
            refine endX_seq ?_
            refine runX_ret ?_
            refine endX_q ?_
            obtain rfl := Option.some.inj h
            show RetW _ _ _ _ _
            simp only [RetW]
            (try simp -implicitDefEqProofs (maxSteps := 4000000) (disch := first | omega | decide | (simp only [go_sem]; omega)) only [go_sem, ↓reduceIte])
            (try simp (disch := omega) only [if_pos, Nat.sub_zero])
            exact leT_refl _
        · refine guardK_F c9 ?_
          try simp -implicitDefEqProofs (maxSteps := 4000000) (disch := first | omega | decide | (simp only [go_sem]; omega)) only [go_sem, ↓reduceIte]
          repeat (with_reducible refine And.intro (by first | assumption | omega | (simp; done) | (simp; omega)) ?_)
          refine toEnd hC ?_
          refine endX_seq ?_
          refine runX_ret ?_
          refine endX_q ?_
          obtain rfl := Option.some.inj h
          show RetW _ _ _ _ _
          simp only [RetW]
          (try simp -implicitDefEqProofs (maxSteps := 4000000) (disch := first | omega | decide | (simp only [go_sem]; omega)) only [go_sem, ↓reduceIte])
          (try simp (disch := omega) only [if_pos, Nat.sub_zero])
          exact leT_refl _
end Go.Proofs.YtbdkofondpalpaaDoorX

/- Shapes of arguments, as plain values. Of no program. -/
set_option linter.unusedVariables false
namespace Go.Proofs.YtbdkofondpalpaaDoorX
open Go Go.RowKit
theorem RepR.le {E : Env} {sz : Nat} : ∀ {l l' : List T} {c : List Value}, l.length = l'.length → (∀ i, leT anyE (l.getD i .junk) (l'.getD i .junk)) → RepR E sz l c → RepR E sz l' c
  | [], [], c, _, _, h => h
  | x :: l, y :: l', c, hl, hi, h => by
    simp only [RepR] at h ⊢
    obtain ⟨u, c', h1, h2, h3, h4⟩ := h
    exact ⟨u, c', h1, h2, by simpa using hi 0 E true u trivial (by simpa using h3), RepR.le (by simpa using hl) (fun i => by simpa using hi (i + 1)) h4⟩
  | [], _ :: _, c, hl, _, _ => by simp at hl
  | _ :: _, [], c, hl, _, _ => by simp at hl
theorem leT_slE {sz : Nat} {f : Bool} {l l' : List T} (hl : l.length = l'.length) (h : ∀ i, leT anyE (l.getD i .junk) (l'.getD i .junk)) : leT anyE (.sl sz f l) (.sl sz false l') := fun E cl v hp k => by
  simp only [Rep] at k ⊢
  obtain ⟨a, cap, c, h1, h2, h3, h4, h5⟩ := k
  exact ⟨a, cap, c, by rw [h1, hl], by rw [← hl]; exact h2, (fun h => by cases h), RepR.le hl h h4, h5⟩
theorem elems_shape {α : Type} (enc : α → T) (ok : α → Prop) : ∀ (l : List T), (∀ y ∈ l, ∃ v, leT anyE y (enc v) ∧ ok v) → ∃ vs : List α, vs.length = l.length ∧ (∀ i, leT anyE (l.getD i .junk) ((vs.map enc).getD i .junk)) ∧ ∀ v ∈ vs, ok v
  | [], _ => ⟨[], rfl, fun i => by simp [leT_refl], fun v hv => by simp at hv⟩
  | y :: l, h => by
    obtain ⟨v, h1, h2⟩ := h y (by simp)
    obtain ⟨vs, h3, h4, h5⟩ := elems_shape enc ok l fun z hz => h z (by simp [hz])
    refine ⟨v :: vs, by simp [h3], fun i => ?_, fun w hw => ?_⟩
    · cases i with
      | zero => simpa using h1
      | succ i => simpa using h4 i
    · rcases List.mem_cons.1 hw with rfl | hw
      · exact h2
      · exact h5 w hw
theorem sl_shape {α : Type} (enc : α → T) (ok : α → Prop) (l : List T) (h : ∀ y ∈ l, ∃ v, leT anyE y (enc v) ∧ ok v) {sz : Nat} {f : Bool} : ∃ vs : List α, leT anyE (.sl sz f l) (.sl sz false (vs.map enc)) ∧ vs.length = l.length ∧ ∀ v ∈ vs, ok v := by
  obtain ⟨vs, h1, h2, h3⟩ := elems_shape enc ok l h
  exact ⟨vs, leT_slE (by simp [h1]) h2, h1, h3⟩
theorem arr_shape {α : Type} (enc : α → T) (ok : α → Prop) : ∀ (l : List T), (∀ y ∈ l, ∃ v, y = enc v ∧ T.cells y = [y] ∧ ok v) → ∃ vs : List α, l.flatMap T.cells = vs.map enc ∧ vs.length = l.length ∧ ∀ v ∈ vs, ok v
  | [], _ => ⟨[], rfl, rfl, fun v hv => by simp at hv⟩
  | y :: l, h => by
    obtain ⟨v, rfl, hc, h2⟩ := h y (by simp)
    obtain ⟨vs, h3, h4, h5⟩ := arr_shape enc ok l fun z hz => h z (by simp [hz])
    refine ⟨v :: vs, by rw [List.flatMap_cons, hc, h3]; rfl, by simp [h4], fun w hw => ?_⟩
    rcases List.mem_cons.1 hw with rfl | hw
    · exact h2
    · exact h5 w hw
end Go.Proofs.YtbdkofondpalpaaDoorX

set_option linter.unusedVariables false
set_option linter.unusedSimpArgs false
namespace Go.Proofs.YtbdkofondpalpaaDoorX
open Go Go.RowKit Go.Proofs
set_option maxRecDepth 100000
def okT9 (v : List UInt8) : Prop := v.length ≤ 9223372036854775807
def okT43 (v : (List UInt8) × (List UInt8)) : Prop := okT9 v.1 ∧ okT9 v.2
def okT39 (v : List ((List UInt8) × (List UInt8))) : Prop := v.length ≤ 9223372036854775807 ∧ ∀ y ∈ v, okT43 y
theorem shp9 : ∀ (n : Nat) (x : T), ShapeW Tryd.prog n 9 x → ∃ v : List UInt8, x = .imm (.string (bs v)) ∧ okT9 v
  | 0, x, h => h.elim
  | n + 1, x, h => by
    simp only [ShapeW, Tryd.underlying9] at h
    obtain ⟨s, rfl, hs⟩ := h
    exact ⟨s.data.toList, by rw [← of_bs], hs⟩
theorem shp44 : ∀ (n : Nat) (x : T), ShapeW Tryd.prog n 44 x → ∃ v : (List UInt8) × (List UInt8), leT anyE x (.agg [.imm (.string (bs v.1)), .imm (.string (bs v.2))]) ∧ okT43 v
  | 0, x, h => h.elim
  | n + 1, x, h => by
    simp only [ShapeW, Tryd.underlying44] at h
    obtain ⟨ys, rfl, hl, hf⟩ := h
    match ys, hl with
    | [y0, y1], _ =>
      have h0 := hf 0 _ y0 rfl rfl
      obtain ⟨v0, rfl, k0⟩ := shp9 n _ h0
      have h1 := hf 1 _ y1 rfl rfl
      obtain ⟨v1, rfl, k1⟩ := shp9 n _ h1
      refine ⟨(v0, v1), leT_agg ?_, k0, k1⟩
      show leL anyE [_, _] _
      exact leL_cons (leT_refl _) (leL_cons (leT_refl _) (leL_nil))
theorem shp39 : ∀ (n : Nat) (x : T), ShapeW Tryd.prog n 39 x → ∃ (f : Bool) (l : List T) (v : List ((List UInt8) × (List UInt8))), x = .sl 2 f l ∧ leT anyE x (.sl 2 false (List.map eT43 v)) ∧ okT39 v
  | 0, x, h => h.elim
  | n + 1, x, h => by
    simp only [ShapeW, Tryd.underlying39] at h
    obtain ⟨f, l, rfl, hl, he⟩ := h
    rw [cz44]
    obtain ⟨v, h1, h2, h3⟩ := sl_shape eT43 okT43 l fun y hy => (by
      obtain ⟨v, hv, hk⟩ := shp44 n y (he y hy)
      exact ⟨v, hv, hk⟩)
    exact ⟨f, l, v, rfl, h1, by rw [h2]; exact hl, h3⟩
theorem shapedHeaderLines (main : ∀ (v0 : List UInt8) (v1 : List ((List UInt8) × (List UInt8))), okT9 v0 → okT39 v1 → ∃ n, F5 n v0 v1 = some true) (xs : List T) (h : ShapesW Tryd.prog [9, 39] xs) : FnC Tryd.prog 5 xs (tb true) := by
  obtain ⟨x0, xs0, rfl, ⟨n0, h0⟩, x1, xs1, rfl, ⟨n1, h1⟩, rfl⟩ := h
  obtain ⟨v0, rfl, k0⟩ := shp9 _ _ h0
  obtain ⟨_, _, v1, _, e1, k1⟩ := shp39 _ _ h1
  obtain ⟨N, hN⟩ := main v0 v1 k0 k1
  exact (F5_ok N v0 v1 true hN).le (leL_cons (leT_refl _) (leL_cons (e1) (leL_nil))) (leT_refl _)

end Go.Proofs.YtbdkofondpalpaaDoorX

/- Plain functions with fuel: what they come to. Of no program. -/
set_option linter.unusedVariables false
set_option linter.unusedSimpArgs false
namespace Go.Proofs.YtbdkofondpalpaaDoorX
open Go

/-- With fuel enough the answer is this. -/
def Ev {α : Type} (f : Nat → Option α) (r : α) : Prop := ∃ N, ∀ n, N ≤ n → f n = some r
theorem Ev.pure {α : Type} {r : α} : Ev (fun _ => some r) r := ⟨0, fun _ _ => rfl⟩
theorem Ev.const {α : Type} {x : Option α} {r : α} (h : x = some r) : Ev (fun _ => x) r := ⟨0, fun _ _ => h⟩
theorem Ev.bind {α β : Type} {f : Nat → Option α} {g : Nat → α → Option β} {v : α} {r : β} (h : Ev f v) (h' : Ev (fun n => g n v) r) : Ev (fun n => (f n).bind (g n)) r := by
  obtain ⟨N, h⟩ := h
  obtain ⟨M, h'⟩ := h'
  exact ⟨max N M, fun n hn => by show (f n).bind (g n) = _; rw [h n (by omega)]; exact h' n (by omega)⟩
theorem Ev.step {α : Type} {f : Nat → Option α} {r : α} (h : Ev (fun n => f (n + 1)) r) : Ev f r := by
  obtain ⟨N, h⟩ := h
  refine ⟨N + 1, fun n hn => ?_⟩
  obtain ⟨m, rfl⟩ : ∃ m, n = m + 1 := ⟨n - 1, by omega⟩
  exact h m (by omega)
theorem Ev.congr {α : Type} {f g : Nat → Option α} {r : α} (h : Ev g r) (e : ∀ n, f n = g n) : Ev f r := by
  obtain ⟨N, h⟩ := h
  exact ⟨N, fun n hn => (e n).trans (h n hn)⟩
theorem Ev.grd {α : Type} {p : Prop} [Decidable p] {f : Nat → Option α} {r : α} (hp : p) (h : Ev f r) : Ev (fun n => grd p (f n)) r := h.congr fun n => if_pos hp
theorem Ev.ofT {α : Type} {b : Bool} {f g : Nat → Option α} {r : α} (hb : b = true) (h : Ev f r) : Ev (fun n => iteB b (f n) (g n)) r := h.congr fun n => by rw [hb]; rfl
theorem Ev.ofF {α : Type} {b : Bool} {f g : Nat → Option α} {r : α} (hb : b = false) (h : Ev g r) : Ev (fun n => iteB b (f n) (g n)) r := h.congr fun n => by rw [hb]; rfl
theorem Ev.ite {α : Type} {b : Bool} {f g : Nat → Option α} {r : α} (h1 : b = true → Ev f r) (h2 : b = false → Ev g r) : Ev (fun n => iteB b (f n) (g n)) r := by
  cases hb : b with
  | true => exact (h1 hb).congr fun n => rfl
  | false => exact (h2 hb).congr fun n => rfl
theorem iteB_t {α : Type} (x y : Option α) : iteB true x y = x := rfl
theorem iteB_f {α : Type} (x y : Option α) : iteB false x y = y := rfl
theorem grd_t {α : Type} {p : Prop} [Decidable p] (x : Option α) (h : p) : grd p x = x := if_pos h
theorem grd_True {α : Type} [Decidable True] (x : Option α) : grd True x = x := if_pos trivial
theorem bind_some' {α β : Type} (v : α) (g : α → Option β) : (some v).bind g = g v := rfl
theorem w64 {n : Int} (h : -9223372036854775808 ≤ n ∧ n ≤ 9223372036854775807) : IntKind.wrap .i64 n = n := Go.IntWalk.i64_in _ h
theorem w32 {n : Int} (h : -2147483648 ≤ n ∧ n ≤ 2147483647) : IntKind.wrap .i32 n = n := Go.IntWalk.i32_in _ h
theorem wu8 {n : Int} (h : 0 ≤ n ∧ n ≤ 255) : IntKind.wrap .u8 n = n := Go.IntWalk.u8_in _ h
theorem wu32 {n : Int} (h : 0 ≤ n ∧ n ≤ 4294967295) : IntKind.wrap .u32 n = n := Go.IntWalk.u32_in _ h
theorem wu64 {n : Int} (h : 0 ≤ n ∧ n ≤ 18446744073709551615) : IntKind.wrap .u64 n = n := Go.IntWalk.u64_in _ h
/-- Bytes as numbers. -/
theorem u8_beq (a b : UInt8) : ((a.toNat : Int) == (b.toNat : Int)) = (a == b) := by
  rw [Bool.eq_iff_iff, beq_iff_eq, beq_iff_eq]
  exact ⟨fun h => UInt8.toNat_inj.1 (by omega), fun h => by rw [h]⟩
theorem u8_lit (a : UInt8) (k : Nat) (hk : k < 256) : ((a.toNat : Int) == ((k : Nat) : Int)) = (a == UInt8.ofNat k) := by
  rw [Bool.eq_iff_iff, beq_iff_eq, beq_iff_eq]
  constructor
  · intro h
    apply UInt8.toNat_inj.1
    rw [UInt8.toNat_ofNat']
    omega
  · intro h
    subst h
    rw [UInt8.toNat_ofNat']
    omega
theorem u8_lt (a : UInt8) : (0 : Int) ≤ (a.toNat : Int) ∧ (a.toNat : Int) ≤ 255 := by
  have := a.toNat_lt; omega
theorem drop_cons {α : Type} (l : List α) (i : Nat) (d : α) (h : i < l.length) : l.drop i = l.getD i d :: l.drop (i + 1) := by
  rw [List.drop_eq_getElem_cons h, List.getD_eq_getElem?_getD, List.getElem?_eq_getElem h]; rfl
theorem toNat_nat (n : Nat) : ((n : Int)).toNat = n := rfl
end Go.Proofs.YtbdkofondpalpaaDoorX

/- Bytes as numbers. Of no program. -/
set_option linter.unusedVariables false
set_option linter.unusedSimpArgs false
namespace Go.Proofs.YtbdkofondpalpaaDoorX
open Go

def Bytes (l : List Int) : Prop := ∀ x ∈ l, 0 ≤ x ∧ x ≤ 255
theorem Bytes.nil : Bytes [] := by intro x hx; cases hx
theorem Bytes.cons {a : Int} {r : List Int} (h : 0 ≤ a ∧ a ≤ 255) (hr : Bytes r) : Bytes (a :: r) := by
  intro x hx
  rcases List.mem_cons.1 hx with rfl | hx
  · exact h
  · exact hr x hx
theorem Bytes.head {a : Int} {r : List Int} (h : Bytes (a :: r)) : 0 ≤ a ∧ a ≤ 255 := h a (by simp)
theorem Bytes.tail {a : Int} {r : List Int} (h : Bytes (a :: r)) : Bytes r := fun x hx => h x (by simp [hx])
theorem Bytes.drop {l : List Int} (h : Bytes l) (n : Nat) : Bytes (l.drop n) := fun x hx => h x (List.mem_of_mem_drop hx)
theorem Bytes.append {l r : List Int} (h : Bytes l) (h' : Bytes r) : Bytes (l ++ r) := fun x hx => by
  rcases List.mem_append.1 hx with hx | hx
  · exact h x hx
  · exact h' x hx
def bt (s : List UInt8) (i : Nat) : Int := ((s.getD i 0).toNat : Int)
def ints (s : List UInt8) : List Int := s.map ofB
theorem ints_len (s : List UInt8) : (ints s).length = s.length := by simp [ints]
theorem ints_bytes (s : List UInt8) : Bytes (ints s) := by
  intro x hx
  unfold ints at hx
  obtain ⟨c, _, rfl⟩ := List.mem_map.1 hx
  exact u8_lt c
theorem ints_drop (s : List UInt8) (i : Nat) : ints (s.drop i) = (ints s).drop i := by simp [ints, List.map_drop]
theorem ints_take (s : List UInt8) (i : Nat) : ints (s.take i) = (ints s).take i := by simp [ints, List.map_take]
theorem bt_bd (s : List UInt8) (i : Nat) : 0 ≤ bt s i ∧ bt s i ≤ 255 := u8_lt _
theorem ints_get (s : List UInt8) (i : Nat) : (ints s).getD i 0 = bt s i := by
  unfold ints bt
  rw [List.getD_eq_getElem?_getD, List.getElem?_map, List.getD_eq_getElem?_getD]
  cases s[i]? <;> rfl
theorem drop_bt (s : List UInt8) (i : Nat) (h : i < s.length) : (ints s).drop i = bt s i :: (ints s).drop (i + 1) := by
  rw [drop_cons (ints s) i 0 (by rw [ints_len]; exact h), ints_get]
theorem ofB_toB {x : Int} (h : 0 ≤ x ∧ x ≤ 255) : ofB (toB x) = x := by
  unfold ofB toB
  rw [UInt8.toNat_ofNat']
  omega
theorem map_toB_eq {l : List Int} (hl : Bytes l) (t : List UInt8) : (l.map toB == t) = decide (l = ints t) := by
  rw [Bool.eq_iff_iff, beq_iff_eq, decide_eq_true_eq]
  constructor
  · rintro rfl
    unfold ints
    rw [List.map_map]
    conv => lhs; rw [← List.map_id l]
    exact List.map_congr_left fun x hx => (ofB_toB (hl x hx)).symm
  · rintro rfl
    unfold ints
    rw [List.map_map]
    conv => rhs; rw [← List.map_id t]
    refine List.map_congr_left fun x _ => ?_
    show UInt8.ofNat ((x.toNat : Int)).toNat = x
    rw [toNat_nat]; simp
theorem ints_cons (s : List UInt8) (h : s.length ≠ 0) : ∃ a r, ints s = a :: r := by
  cases hb : ints s with
  | nil => have := ints_len s; rw [hb] at this; simp at this; omega
  | cons a r => exact ⟨a, r, rfl⟩
theorem of_ints {s : List UInt8} {l : List Int} (h : ints s = l) : s = l.map toB := by
  have hb : Bytes l := h ▸ ints_bytes s
  have := map_toB_eq hb s
  rw [h, decide_eq_true rfl] at this
  exact (beq_iff_eq.1 this).symm
theorem ints_toB {l : List Int} (h : Bytes l) : ints (l.map toB) = l := by
  have := map_toB_eq h (l.map toB)
  rw [beq_self_eq_true] at this
  exact (of_decide_eq_true this.symm).symm
theorem toB_inj : ∀ {a b : List Int}, Bytes a → Bytes b → a.map toB = b.map toB → a = b := fun ha hb h => by
  have := congrArg ints h
  rwa [ints_toB ha, ints_toB hb] at this
theorem bq {a b : Int} (h : ¬ a = b) : (a == b) = false := beq_eq_false_iff_ne.2 h
theorem bqt {a b : Int} (h : a = b) : (a == b) = true := by rw [h]; exact beq_self_eq_true b
theorem all_bytes {l : List Int} (h : Bytes l) : (l.all fun x => decide (0 ≤ x) && decide (x < 256)) = true := by
  rw [List.all_eq_true]
  intro x hx
  have := h x hx
  simp only [Bool.and_eq_true, decide_eq_true_eq]
  omega
theorem bs_bool {p : Prop} [Decidable p] {b : Bool} (h : (b = true) ↔ p) : b = decide p := by
  cases b with
  | true => exact (decide_eq_true (h.1 rfl)).symm
  | false => exact (decide_eq_false (fun e => by cases h.2 e)).symm
theorem g64 (i : Nat) (h : i ≤ 1000000000) : IntKind.wrap .i64 ((i : Int) + 1) = ((i + 1 : Nat) : Int) := by rw [w64 (by omega)]; omega
end Go.Proofs.YtbdkofondpalpaaDoorX

/- Blanks at both ends: strings.Trim, and the reference's. -/
set_option linter.unusedVariables false
set_option linter.unusedSimpArgs false
namespace Go.Proofs.YtbdkofondpalpaaDoorX
open Go

def isBl (c : UInt8) : Bool := c == 32 || c == 9
def trimL : List UInt8 → List UInt8
  | [] => []
  | c :: l => if isBl c = true then trimL l else c :: l
def trimR : List UInt8 → List UInt8
  | [] => []
  | c :: l => if trimR l = [] then (if isBl c = true then [] else [c]) else c :: trimR l
/-- Without the blanks at both ends. -/
def trimT (s : List UInt8) : List UInt8 := trimL (trimR s)
theorem bl_contains (c : UInt8) : ([32, 9] : List UInt8).contains c = isBl c := by
  simp only [List.contains_cons, List.contains_nil, Bool.or_false, isBl]
theorem trimL_eq : ∀ l : List UInt8, Lib.trimLeftS l [32, 9] = trimL l
  | [] => rfl
  | c :: l => by
    have ih := trimL_eq l
    unfold Lib.trimLeftS at ih ⊢
    rw [List.dropWhile_cons, bl_contains, ih]
    rfl
theorem trimR_snoc (c : UInt8) : ∀ l : List UInt8, trimR (l ++ [c]) = if isBl c = true then trimR l else l ++ [c]
  | [] => by
    show (if trimR [] = [] then _ else _) = _
    rw [if_pos (show trimR [] = [] from rfl)]; rfl
  | x :: l => by
    rw [show (x :: l) ++ [c] = x :: (l ++ [c]) from rfl, trimR, trimR_snoc c l]
    by_cases h : isBl c = true
    · rw [if_pos h, if_pos h, trimR]
    · rw [if_neg h, if_neg h, if_neg (by simp)]
theorem rev_ind {α : Type} {p : List α → Prop} (h0 : p []) (h1 : ∀ l a, p l → p (l ++ [a])) : ∀ l, p l := by
  intro l
  rw [← List.reverse_reverse l]
  generalize l.reverse = m
  induction m with
  | nil => exact h0
  | cons a m ih => rw [List.reverse_cons]; exact h1 _ _ ih
theorem trimR_eq (l : List UInt8) : Lib.trimRightS l [32, 9] = trimR l := by
  induction l using rev_ind with
  | h0 => rfl
  | h1 l c ih =>
    unfold Lib.trimRightS at ih ⊢
    rw [List.reverse_append, List.reverse_singleton, List.singleton_append, List.dropWhile_cons, bl_contains, trimR_snoc]
    by_cases h : isBl c = true
    · rw [if_pos h, if_pos h, ih]
    · rw [if_neg h, if_neg h, List.reverse_cons, List.reverse_reverse]
theorem trim_comm : ∀ l : List UInt8, trimL (trimR l) = trimR (trimL l)
  | [] => rfl
  | c :: l => by
    have ih := trim_comm l
    by_cases h : isBl c = true
    · rw [show trimL (c :: l) = trimL l by rw [trimL, if_pos h], ← ih, trimR]
      by_cases hr : trimR l = []
      · rw [if_pos hr, if_pos h, hr]
      · rw [if_neg hr, trimL, if_pos h]
    · rw [show trimL (c :: l) = c :: l by rw [trimL, if_neg h], trimR]
      by_cases hr : trimR l = []
      · rw [if_pos hr, if_neg h, trimL, if_neg h]
      · rw [if_neg hr, trimL, if_neg h]
theorem trimL_len : ∀ l : List UInt8, (trimL l).length ≤ l.length
  | [] => Nat.le_refl _
  | c :: l => by
    have := trimL_len l
    rw [trimL]; split <;> simp <;> omega
theorem trimR_len : ∀ l : List UInt8, (trimR l).length ≤ l.length
  | [] => Nat.le_refl _
  | c :: l => by
    have := trimR_len l
    rw [trimR]; split
    · split <;> simp
    · simp; omega
theorem trimT_len (l : List UInt8) : (trimT l).length ≤ l.length := Nat.le_trans (trimL_len _) (trimR_len _)
theorem Trim_eq (n : Nat) (s : List UInt8) (hs : s.length ≤ 1000000000) : F34 n s [32, 9] = some (trimT s) := by
  unfold F34 Lib.trimS
  rw [if_pos ⟨by omega, by decide, by decide⟩, trimL_eq, trimR_eq]; rfl
theorem blank_eq (n : Nat) (c : UInt8) : F79 n (c.toNat : Int) = some (isBl c) := by
  unfold F79 isBl
  rw [show ((c.toNat : Int) == 32) = (c == 32) from u8_lit c 32 (by omega), show ((c.toNat : Int) == 9) = (c == 9) from u8_lit c 9 (by omega)]
  cases (c == 32) <;> rfl
theorem ev_trimR2 (l : List UInt8) : l.length ≤ 1000000000 → Ev (fun n => F40_L2 n l) (trimR l) ∧ Ev (fun n => F40_L3 n l) (trimR l) := by
  induction l using rev_ind with
  | h0 => exact fun _ => ⟨Ev.step (Ev.pure.congr fun n => by rw [F40_L2]; rfl), Ev.step (Ev.pure.congr fun n => by rw [F40_L3]; rfl)⟩
  | h1 l c ih =>
    intro hl
    have hl' : l.length + 1 ≤ 1000000000 := by simpa using hl
    have e1 : IntKind.wrap .i64 (((l ++ [c]).length : Int) - 1) = (l.length : Int) := by rw [List.length_append, List.length_singleton, w64 (by omega)]; omega
    have e2 : (l ++ [c]).getD l.length 0 = c := by rw [List.getD_eq_getElem?_getD]; simp
    have e3 : (l ++ [c]).take l.length = l := List.take_left
    have e4 : ((l ++ [c]).length : Int) = (l.length : Int) + 1 := by simp
    obtain ⟨⟨N1, i1⟩, ⟨N2, i2⟩⟩ := ih (by omega)
    rw [trimR_snoc]
    refine ⟨Ev.step ⟨N1, fun n hn => ?_⟩, Ev.step ⟨N2, fun n hn => ?_⟩⟩
    · show F40_L2 (n + 1) (l ++ [c]) = _
      rw [F40_L2, decide_eq_true (by omega), iteB_t, e1, grd_t _ (by omega), toNat_nat, e2, blank_eq, bind_some', e3]
      cases h : isBl c with
      | true => rw [iteB_t, if_pos rfl, grd_t _ (by omega)]; exact i1 n hn
      | false => rw [iteB_f, if_neg (by simp)]
    · show F40_L3 (n + 1) (l ++ [c]) = _
      rw [F40_L3, decide_eq_true (by omega), iteB_t, e1, grd_t _ (by omega), toNat_nat, e2, blank_eq, bind_some', e3]
      cases h : isBl c with
      | true => rw [iteB_t, if_pos rfl, grd_t _ (by omega)]; exact i2 n hn
      | false => rw [iteB_f, if_neg (by simp)]
theorem ev_trim1 : ∀ l : List UInt8, l.length ≤ 1000000000 → Ev (fun n => F40_L1 n l) (trimR (trimL l))
  | [], hl => Ev.step ((ev_trimR2 [] hl).2.congr fun n => by rw [F40_L1]; rfl)
  | c :: l, hl => by
    have hl' : l.length + 1 ≤ 1000000000 := hl
    have e4 : (((c :: l) : List UInt8).length : Int) = (l.length : Int) + 1 := by simp
    rw [trimL]
    by_cases h : isBl c = true
    · rw [if_pos h]
      obtain ⟨N, i1⟩ := ev_trim1 l (by omega)
      refine Ev.step ⟨N, fun n hn => ?_⟩
      show F40_L1 (n + 1) (c :: l) = _
      rw [F40_L1, decide_eq_true (by omega), iteB_t, grd_t _ (by omega), show ((c :: l).getD (0 : Int).toNat 0) = c from rfl, blank_eq, bind_some', h, iteB_t, grd_t _ (by omega)]
      exact i1 n hn
    · rw [if_neg h]
      obtain ⟨N, i1⟩ := (ev_trimR2 (c :: l) hl).1
      refine Ev.step ⟨N, fun n hn => ?_⟩
      show F40_L1 (n + 1) (c :: l) = _
      rw [F40_L1, decide_eq_true (by omega), iteB_t, grd_t _ (by omega), show ((c :: l).getD (0 : Int).toNat 0) = c from rfl, blank_eq, bind_some', show isBl c = false by simpa using h, iteB_f]
      exact i1 n hn
theorem ev_trim (s : List UInt8) (hs : s.length ≤ 1000000000) : Ev (fun n => F40 n s) (trimT s) := by
  unfold trimT
  rw [trim_comm]
  exact (ev_trim1 s hs).congr fun n => rfl
end Go.Proofs.YtbdkofondpalpaaDoorX

/- strings.Builder, plain. -/
set_option linter.unusedVariables false
set_option linter.unusedSimpArgs false
namespace Go.Proofs.YtbdkofondpalpaaDoorX
open Go

theorem bld_String (n : Nat) (b : Bool) (l : List Int) (h : Bytes l) (hl : l.length ≤ 549755813888) : F46 n (b, l) = some (l.map toB, (b, l)) := by
  unfold F46
  exact if_pos ⟨hl, all_bytes h⟩
theorem bld_Write (n : Nat) (b : Bool) (l : List Int) (s : List UInt8) (hl : l.length + s.length ≤ 549755813888) : F45 n (b, l) s = some ((s.length : Int), (), true, l ++ ints s) := by
  unfold F45
  rw [show F82 n (b, l) = some (true, l) from rfl, bind_some', grd_t _ hl]
  rfl
end Go.Proofs.YtbdkofondpalpaaDoorX

/- Texts cut at a byte. -/
set_option linter.unusedVariables false
set_option linter.unusedSimpArgs false
namespace Go.Proofs.YtbdkofondpalpaaDoorX
open Go

def splitB (c : UInt8) : List UInt8 → List (List UInt8)
  | [] => [[]]
  | x :: l => if x = c then [] :: splitB c l else match splitB c l with
    | [] => [[x]]
    | y :: ys => (x :: y) :: ys
theorem split_ne (c : UInt8) : ∀ l, splitB c l ≠ []
  | [] => by simp [splitB]
  | x :: l => by
    rw [splitB]
    split
    · simp
    · split <;> simp
/-- Where a byte first stands. -/
theorem idx_cases (c : UInt8) : ∀ s : List UInt8, (Lib.indexByte s c = -1 ∧ c ∉ s ∧ s.count c = 0 ∧ splitB c s = [s]) ∨
    ∃ m : Nat, m < s.length ∧ Lib.indexByte s c = (m : Int) ∧ c ∉ s.take m ∧ s = s.take m ++ c :: s.drop (m + 1) ∧ s.count c = 1 + (s.drop (m + 1)).count c ∧ splitB c s = s.take m :: splitB c (s.drop (m + 1))
  | [] => .inl ⟨rfl, by simp, rfl, rfl⟩
  | x :: l => by
    by_cases h : x = c
    · subst h
      refine .inr ⟨0, by simp, ?_, by simp, by simp, by simp; omega, by simp [splitB]⟩
      rw [Lib.indexByte, beq_self_eq_true, if_pos rfl]; rfl
    · have hb : (x == c) = false := by rw [beq_eq_false_iff_ne]; exact h
      rcases idx_cases c l with ⟨h1, h2, h3, h4⟩ | ⟨m, h1, h2, h3, h4, h5, h6⟩
      · refine .inl ⟨?_, ?_, ?_, ?_⟩
        · rw [Lib.indexByte, hb, h1]; rfl
        · simp only [List.mem_cons, not_or]; exact ⟨fun e => h e.symm, h2⟩
        · rw [List.count_cons_of_ne h, h3]
        · rw [splitB, if_neg h, h4]
      · refine .inr ⟨m + 1, by simp; omega, ?_, ?_, ?_, ?_, ?_⟩
        · rw [Lib.indexByte, hb, h2]
          simp only [Bool.false_eq_true, if_false]
          rw [if_neg (by rw [beq_iff_eq]; omega)]; omega
        · rw [List.take_succ_cons]; simp only [List.mem_cons, not_or]; exact ⟨fun e => h e.symm, h3⟩
        · rw [List.take_succ_cons, List.drop_succ_cons, List.cons_append, ← h4]
        · rw [List.count_cons_of_ne h, List.drop_succ_cons, h5]
        · rw [splitB, if_neg h, h6, List.take_succ_cons, List.drop_succ_cons]
theorem Index_eq (n : Nat) (s : List UInt8) (c : UInt8) : F107 n s [c] = some (Lib.indexByte s c) := by
  rw [F107]
  show iteB false _ _ = _
  rw [iteB_f]
  by_cases h : ([c] : List UInt8) = s
  · rw [show (([c] : List UInt8) == s) = true by rw [beq_iff_eq]; exact h, iteB_t, ← h, Lib.indexByte, beq_self_eq_true]; rfl
  · rw [show (([c] : List UInt8) == s) = false by rw [beq_eq_false_iff_ne]; exact h, iteB_f]
    show iteB true _ _ = _
    rw [iteB_t, grd_t _ (by simp), F106, bind_some']
    show some (Lib.indexByte s (((c.toNat : Nat) : Int).toNat.toUInt8)) = _
    rw [toNat_nat, show c.toNat.toUInt8 = c by simp]
def cutB (c : UInt8) (s : List UInt8) : List UInt8 × List UInt8 × Bool := if c ∈ s then (s.take (Lib.indexByte s c).toNat, s.drop ((Lib.indexByte s c).toNat + 1), true) else (s, [], false)
theorem Cut_eq (n : Nat) (s : List UInt8) (c : UInt8) (hs : s.length ≤ 1000000) : F37 n s [c] = some (cutB c s) := by
  unfold cutB
  rw [F37, F74, Index_eq, bind_some', show (([c] : List UInt8).length : Int) = 1 from rfl]
  rcases idx_cases c s with ⟨h1, h2, h3, h4⟩ | ⟨m, h1, h2, h3, h4, h5, h6⟩
  · rw [if_neg h2, h1]; rfl
  · have hm : c ∈ s := by rw [h4]; simp
    rw [if_pos hm, h2, decide_eq_true (by omega), iteB_t, w64 (by omega), grd_t _ (by omega), grd_t _ (by omega), bind_some', show ((m : Int) + 1).toNat = m + 1 by omega, toNat_nat]
/-- Where a byte is not ahead of its first place. -/
theorem idx_app (c : UInt8) (b : List UInt8) : ∀ a : List UInt8, c ∉ a → Lib.indexByte (a ++ c :: b) c = (a.length : Int)
  | [], _ => by rw [List.nil_append, Lib.indexByte, beq_self_eq_true, if_pos rfl]; rfl
  | x :: a, h => by
    simp only [List.mem_cons, not_or] at h
    rw [List.cons_append, Lib.indexByte, show (x == c) = false by (rw [beq_eq_false_iff_ne]; exact fun e => h.1 e.symm), idx_app c b a h.2]
    simp only [Bool.false_eq_true, if_false]
    rw [if_neg (by rw [beq_iff_eq]; omega), List.length_cons]; omega
theorem cut_app (c : UInt8) (a b : List UInt8) (h : c ∉ a) : cutB c (a ++ c :: b) = (a, b, true) := by
  unfold cutB
  rw [if_pos (by simp), idx_app c b a h, toNat_nat, List.take_left']
  · rw [show a.length + 1 = (a ++ [c]).length by simp, show a ++ c :: b = (a ++ [c]) ++ b by simp, List.drop_left']; rfl
  · rfl
theorem cut_none (c : UInt8) (a : List UInt8) (h : c ∉ a) : cutB c a = (a, [], false) := by unfold cutB; rw [if_neg h]
end Go.Proofs.YtbdkofondpalpaaDoorX

/- Lines of a head: tokens, values, fields, and how they are put; the program's and the reference's. -/
set_option linter.unusedVariables false
set_option linter.unusedSimpArgs false
namespace Go.Proofs.YtbdkofondpalpaaDoorX
open Go

theorem kind_fin : ∀ c : Fin 256, F81 0 (c.val : Int) = some (kindOf (c.val : Int)) := by decide +kernel
theorem rKind_eq (n : Nat) (c : UInt8) : F81 n (c.toNat : Int) = some (kindOf (c.toNat : Int)) := kind_fin ⟨c.toNat, c.toNat_lt⟩
def sgP : List Int := [33, 35, 36, 37, 38, 39, 42, 43, 45, 46, 94, 95, 96, 124, 126]
def sgR : List UInt8 := [33, 35, 36, 37, 38, 39, 42, 43, 45, 46, 94, 95, 124, 126]
/-- Is a byte one of a token's? -/
def tokI (x : Int) : Bool := sgP.contains x || (kindOf x != 0)
theorem tok_loop (x : Int) : ∀ (d i : Nat), i + d = 15 → Ev (fun n => F41_L1 n x sgP (i : Int)) ((sgP.drop i).contains x || (kindOf x != 0)) := by
  intro d
  induction d with
  | zero =>
    intro i hi
    obtain rfl : i = 15 := by omega
    exact Ev.step (Ev.pure.congr fun n => by
      rw [F41_L1, decide_eq_false (by omega), iteB_f]; rfl)
  | succ d ih =>
    intro i hi
    have hl : sgP.length = 15 := rfl
    rw [drop_cons sgP i 0 (by omega), List.contains_cons]
    have hg : sgP.getD i default = sgP.getD i 0 := rfl
    by_cases h : sgP.getD i 0 = x
    · refine Ev.step (Ev.pure.congr fun n => ?_)
      rw [F41_L1, decide_eq_true (by omega), iteB_t, toNat_nat, grd_t _ (by omega), hg, h, beq_self_eq_true, iteB_t]; rfl
    · rw [bq (show ¬ x = sgP.getD i 0 from fun e => h e.symm), Bool.false_or]
      refine Ev.step ((ih (i + 1) (by omega)).congr fun n => ?_)
      rw [F41_L1, decide_eq_true (by omega), iteB_t, toNat_nat, grd_t _ (by omega), hg, bq h, iteB_f, g64 i (by omega)]
theorem ev_tok (x : Int) : Ev (fun n => F41 n x) (tokI x) :=
  (tok_loop x 15 0 rfl).congr fun n => rfl
theorem sign_loop (x : Int) : ∀ (d i : Nat), i + d = 14 → Ev (fun n => F44_L1 n x (i : Int)) (((ints sgR).drop i).contains x || (x == 96)) := by
  intro d
  induction d with
  | zero =>
    intro i hi
    obtain rfl : i = 14 := by omega
    exact Ev.step (Ev.pure.congr fun n => by
      rw [F44_L1, decide_eq_false (by omega), iteB_f]; rfl)
  | succ d ih =>
    intro i hi
    have hl : sgR.length = 14 := rfl
    rw [drop_bt sgR i (by omega), List.contains_cons]
    by_cases h : bt sgR i = x
    · refine Ev.step (Ev.pure.congr fun n => ?_)
      rw [F44_L1, decide_eq_true (by omega), iteB_t, toNat_nat, grd_t _ (by omega)]
      show iteB (bt sgR i == x) _ _ = _
      rw [h, beq_self_eq_true, iteB_t]; rfl
    · rw [bq (show ¬ x = bt sgR i from fun e => h e.symm), Bool.false_or]
      refine Ev.step ((ih (i + 1) (by omega)).congr fun n => ?_)
      rw [F44_L1, decide_eq_true (by omega), iteB_t, toNat_nat, grd_t _ (by omega)]
      show iteB (bt sgR i == x) _ _ = _
      rw [bq h, iteB_f, g64 i (by omega)]
theorem tok_fin : ∀ c : Fin 256, (if kindOf (c.val : Int) ≠ 0 then true else (((ints sgR).drop 0).contains (c.val : Int) || ((c.val : Int) == 96))) = tokI (c.val : Int) := by decide +kernel
theorem ev_sign (c : UInt8) : Ev (fun n => F44 n (c.toNat : Int)) (tokI (c.toNat : Int)) := by
  have h := tok_fin ⟨c.toNat, c.toNat_lt⟩
  dsimp only at h
  rw [← h]
  by_cases hk : kindOf (c.toNat : Int) ≠ 0
  · rw [if_pos hk]
    refine Ev.pure.congr fun n => ?_
    rw [F44, rKind_eq, bind_some', show (kindOf (c.toNat : Int) != 0) = true by rw [bne_iff_ne]; exact hk, iteB_t]
  · rw [if_neg hk]
    refine (sign_loop (c.toNat : Int) 14 0 rfl).congr fun n => ?_
    rw [F44, rKind_eq, bind_some', show (kindOf (c.toNat : Int) != 0) = false by rw [bne_eq_false_iff_eq]; exact Decidable.not_not.1 hk, iteB_f]
    rfl
/-- Is a text a token? -/
def tokT (s : List UInt8) : Bool := (ints s).all tokI && !(s == [])
theorem Token_loop (s : List UInt8) (hs : s.length ≤ 1000000000) : ∀ (d i : Nat), i + d = s.length →
    Ev (fun n => F18_L1 n s (i : Int)) (((ints s).drop i).all tokI && !(s == [])) ∧ Ev (fun n => F19_L1 n s (i : Int)) (((ints s).drop i).all tokI && !(s == [])) := by
  intro d
  induction d with
  | zero =>
    intro i hi
    rw [List.drop_of_length_le (by rw [ints_len]; omega)]
    refine ⟨Ev.step (Ev.pure.congr fun n => ?_), Ev.step (Ev.pure.congr fun n => ?_)⟩
    · rw [F18_L1, decide_eq_false (by omega), iteB_f]; rfl
    · rw [F19_L1, decide_eq_false (by omega), iteB_f]
      cases s with
      | nil => rfl
      | cons a r => rw [decide_eq_true (by simp)]; rfl
  | succ d ih =>
    intro i hi
    obtain ⟨⟨N1, i1⟩, ⟨N2, i2⟩⟩ := ih (i + 1) (by omega)
    obtain ⟨M1, j1⟩ := ev_tok (bt s i)
    obtain ⟨M2, j2⟩ := ev_sign (s.getD i 0)
    rw [drop_bt s i (by omega), List.all_cons]
    refine ⟨Ev.step ⟨N1 + M1, fun n hn => ?_⟩, Ev.step ⟨N2 + M2, fun n hn => ?_⟩⟩
    · have q1 := i1 n (by omega)
      have q2 := j1 n (by omega)
      dsimp only at q1 q2
      show F18_L1 (n + 1) s (i : Int) = _
      rw [F18_L1, decide_eq_true (by omega), iteB_t, toNat_nat, grd_t _ (by omega), g64 i (by omega)]
      show (F41 n (bt s i)).bind _ = _
      rw [q2, bind_some']
      cases tokI (bt s i) with
      | true => rw [Bool.not_true, iteB_f, q1]; rfl
      | false => rfl
    · have q1 := i2 n (by omega)
      have q2 := j2 n (by omega)
      dsimp only at q1 q2
      show F19_L1 (n + 1) s (i : Int) = _
      rw [F19_L1, decide_eq_true (by omega), iteB_t, toNat_nat, grd_t _ (by omega), g64 i (by omega)]
      rw [q2, bind_some']
      show iteB (!tokI (bt s i)) _ _ = some ((tokI (bt s i) && _) && _)
      cases tokI (bt s i) with
      | true => rw [Bool.not_true, iteB_f, q1]; rfl
      | false => rfl
theorem ev_Token (s : List UInt8) (hs : s.length ≤ 1000000000) : Ev (fun n => F18 n s) (tokT s) := ((Token_loop s hs s.length 0 (by omega)).1).congr fun n => rfl
theorem ev_rToken (s : List UInt8) (hs : s.length ≤ 1000000000) : Ev (fun n => F19 n s) (tokT s) := ((Token_loop s hs s.length 0 (by omega)).2).congr fun n => rfl
/-- Is a byte one of a value's? -/
def valI (x : Int) : Bool := if x = 9 then true else if x < 32 then false else if x = 127 then false else true
def valT (s : List UInt8) : Bool := (ints s).all valI
theorem Value_loop (s : List UInt8) (hs : s.length ≤ 1000000000) : ∀ (d i : Nat), i + d = s.length →
    Ev (fun n => F20_L1 n s (i : Int)) (((ints s).drop i).all valI) ∧ Ev (fun n => F21_L1 n s (i : Int)) (((ints s).drop i).all valI) := by
  intro d
  induction d with
  | zero =>
    intro i hi
    rw [List.drop_of_length_le (by rw [ints_len]; omega)]
    exact ⟨Ev.step (Ev.pure.congr fun n => by rw [F20_L1, decide_eq_false (by omega), iteB_f]; rfl), Ev.step (Ev.pure.congr fun n => by rw [F21_L1, decide_eq_false (by omega), iteB_f]; rfl)⟩
  | succ d ih =>
    intro i hi
    obtain ⟨⟨N1, i1⟩, ⟨N2, i2⟩⟩ := ih (i + 1) (by omega)
    rw [drop_bt s i (by omega), List.all_cons]
    have key : ∀ (x : Int) (A : Option Bool) (q : Bool), A = some q → iteB (x != 9) (iteB (decide (x < 32)) (some false) (iteB (x == 127) (some false) A)) A = some (valI x && q) := by
      intro x A q hA
      subst hA
      unfold valI
      by_cases h9 : x = 9
      · rw [show (x != 9) = false by rw [h9]; rfl, iteB_f, if_pos h9]; rfl
      · rw [show (x != 9) = true by rw [bne, bq h9]; rfl, iteB_t, if_neg h9]
        by_cases h3 : x < 32
        · rw [decide_eq_true h3, iteB_t, if_pos h3]; rfl
        · rw [decide_eq_false h3, iteB_f, if_neg h3]
          by_cases h1 : x = 127
          · rw [bqt h1, iteB_t, if_pos h1]; rfl
          · rw [bq h1, iteB_f, if_neg h1]; rfl
    refine ⟨Ev.step ⟨N1, fun n hn => ?_⟩, Ev.step ⟨N2, fun n hn => ?_⟩⟩
    · have q1 := i1 n (by omega)
      dsimp only at q1
      show F20_L1 (n + 1) s (i : Int) = _
      rw [F20_L1, decide_eq_true (by omega), iteB_t, toNat_nat, grd_t _ (by omega), g64 i (by omega)]
      exact key (bt s i) _ _ q1
    · have q1 := i2 n (by omega)
      dsimp only at q1
      show F21_L1 (n + 1) s (i : Int) = _
      rw [F21_L1, decide_eq_true (by omega), iteB_t, toNat_nat, g64 i (by omega)]
      simp only [grd_t _ (show 0 ≤ (i : Int) ∧ (i : Int) < (s.length : Int) by omega)]
      exact key (bt s i) _ _ q1
theorem ev_Value (s : List UInt8) (hs : s.length ≤ 1000000000) : Ev (fun n => F20 n s) (valT s) := ((Value_loop s hs s.length 0 (by omega)).1).congr fun n => rfl
theorem ev_rValue (s : List UInt8) (hs : s.length ≤ 1000000000) : Ev (fun n => F21 n s) (valT s) := ((Value_loop s hs s.length 0 (by omega)).2).congr fun n => rfl
/-- The field of a line. -/
def lineT (s : List UInt8) : (List UInt8 × List UInt8) × Bool :=
  if (cutB 58 s).2.2 = true ∧ tokT (cutB 58 s).1 = true ∧ valT (cutB 58 s).2.1 = true then (((cutB 58 s).1, trimT (cutB 58 s).2.1), true) else (([], []), false)
theorem cutB_len (c : UInt8) (s : List UInt8) : (cutB c s).1.length ≤ s.length ∧ (cutB c s).2.1.length ≤ s.length := by
  unfold cutB
  split
  · simp only [List.length_take, List.length_drop]; omega
  · simp
theorem ev_Line (s : List UInt8) (hs : s.length ≤ 1000000) : Ev (fun n => F16 n s) (lineT s) := by
  obtain ⟨l1, l2⟩ := cutB_len 58 s
  obtain ⟨N1, e1⟩ := ev_Token (cutB 58 s).1 (by omega)
  obtain ⟨N2, e2⟩ := ev_Value (cutB 58 s).2.1 (by omega)
  refine ⟨N1 + N2, fun n hn => ?_⟩
  have q1 := e1 n (by omega)
  have q2 := e2 n (by omega)
  dsimp only at q1 q2
  show F16 n s = _
  rw [F16, Cut_eq n s 58 hs, bind_some']
  unfold lineT
  cases h1 : (cutB 58 s).2.2 with
  | false => rw [if_neg (by simp)]; rfl
  | true =>
    rw [Bool.not_true, iteB_f, q1, bind_some']
    cases h2 : tokT (cutB 58 s).1 with
    | false => rw [if_neg (by simp)]; rfl
    | true =>
      rw [Bool.not_true, iteB_f, q2, bind_some']
      cases h3 : valT (cutB 58 s).2.1 with
      | false => rw [if_neg (by simp)]; rfl
      | true => rw [Bool.not_true, iteB_f, Trim_eq n _ (by omega), bind_some', if_pos ⟨rfl, rfl, rfl⟩]
end Go.Proofs.YtbdkofondpalpaaDoorX

/- HeaderLines: the reference's line, fields that are put, and the law. -/
set_option linter.unusedVariables false
set_option linter.unusedSimpArgs false
namespace Go.Proofs.YtbdkofondpalpaaDoorX
open Go

theorem bt_u8 (s : List UInt8) (i : Nat) (c : UInt8) : (bt s i = (c.toNat : Int)) ↔ s.getD i 0 = c := by
  unfold bt
  exact ⟨fun h => UInt8.toNat_inj.1 (by omega), fun h => by rw [h]⟩
theorem rLine_loop (s : List UInt8) (hs : s.length ≤ 1000000) : ∀ (d i : Nat), i + d = s.length → (58 : UInt8) ∉ s.take i → Ev (fun n => F17_L1 n s (i : Int)) (lineT s) := by
  intro d
  induction d with
  | zero =>
    intro i hi hn
    rw [List.take_of_length_le (by omega)] at hn
    have e : lineT s = (([], []), false) := by unfold lineT; rw [cut_none 58 s hn, if_neg (by simp)]
    rw [e]
    refine Ev.step (Ev.pure.congr fun n => ?_)
    rw [F17_L1, decide_eq_false (by omega), iteB_f, bqt (show (i : Int) = (s.length : Int) by omega), iteB_t]
  | succ d ih =>
    intro i hi hn
    by_cases h : s.getD i 0 = 58
    · have hsp : s = s.take i ++ 58 :: s.drop (i + 1) := by
        conv => lhs; rw [← List.take_append_drop i s, drop_cons s i 0 (by omega), h]
      have hc : cutB 58 s = (s.take i, s.drop (i + 1), true) := by
        conv => lhs; rw [hsp]
        exact cut_app 58 _ _ hn
      obtain ⟨N1, e1⟩ := ev_rToken (s.take i) (by rw [List.length_take]; omega)
      obtain ⟨N2, e2⟩ := ev_rValue (s.drop (i + 1)) (by rw [List.length_drop]; omega)
      obtain ⟨N3, e3⟩ := ev_trim (s.drop (i + 1)) (by rw [List.length_drop]; omega)
      refine Ev.step ⟨N1 + N2 + N3, fun n hn' => ?_⟩
      have q1 := e1 n (by omega)
      have q2 := e2 n (by omega)
      have q3 := e3 n (by omega)
      dsimp only at q1 q2 q3
      show F17_L1 (n + 1) s (i : Int) = _
      have hb : (((s.getD i 0).toNat : Int) != 58) = false := by rw [h]; rfl
      rw [F17_L1, decide_eq_true (by omega), iteB_t, g64 i (by omega), toNat_nat, toNat_nat, hb, bq (show ¬ (i : Int) = (s.length : Int) by omega)]
      simp only [grd_t _ (show 0 ≤ (i : Int) ∧ (i : Int) < (s.length : Int) by omega), grd_t _ (show 0 ≤ (i : Int) ∧ (i : Int) ≤ (s.length : Int) by omega), grd_t _ (show 0 ≤ ((i + 1 : Nat) : Int) ∧ ((i + 1 : Nat) : Int) ≤ (s.length : Int) by omega), iteB_f]
      rw [q1, bind_some']
      unfold lineT
      rw [hc]
      dsimp only
      cases h2 : tokT (s.take i) with
      | false => rw [if_neg (by simp)]; rfl
      | true =>
        rw [Bool.not_true, iteB_f, q2, bind_some']
        cases h3 : valT (s.drop (i + 1)) with
        | false => rw [if_neg (by simp)]; rfl
        | true => rw [Bool.not_true, iteB_f, q3, bind_some', if_pos ⟨rfl, rfl, rfl⟩]
    · have hn' : (58 : UInt8) ∉ s.take (i + 1) := by
        rw [List.take_add_one, List.mem_append]
        rintro (e | e)
        · exact hn e
        · rw [List.getD_eq_getElem?_getD] at h
          cases hg : s[i]? with
          | none => rw [hg] at e; simp at e
          | some x => rw [hg] at e h; simp at e; exact h e.symm
      refine Ev.step ((ih (i + 1) (by omega) hn').congr fun n => ?_)
      have hb : (((s.getD i 0).toNat : Int) != 58) = true := by
        rw [bne_iff_ne]; intro e; exact h ((bt_u8 s i 58).1 e)
      rw [F17_L1, decide_eq_true (by omega), iteB_t, g64 i (by omega), toNat_nat, hb, iteB_t, grd_t _ (by omega)]
theorem ev_rLine (s : List UInt8) (hs : s.length ≤ 1000000) : Ev (fun n => F17 n s) (lineT s) :=
  (rLine_loop s hs s.length 0 (by omega) (by simp)).congr fun n => rfl
/-! ### Fields that are put -/
abbrev Fld := List UInt8 × List UInt8
def put1 (f : Fld) : List UInt8 := f.1 ++ [58, 32] ++ f.2 ++ [13, 10]
def putT (l : List Fld) : List UInt8 := l.flatMap put1
theorem put1_len (f : Fld) : (put1 f).length = f.1.length + f.2.length + 4 := by simp [put1]; omega
theorem ints_app (a b : List UInt8) : ints (a ++ b) = ints a ++ ints b := by simp [ints]
theorem toB_ints (s : List UInt8) : (ints s).map toB = s := (of_ints rfl).symm
theorem Put_loop (l : List Fld) (hl : l.length ≤ 1000000) : ∀ (d i : Nat) (b : Bool) (t : List UInt8), i + d = l.length → t.length + (putT (l.drop i)).length ≤ 1000000 →
    Ev (fun n => F22_L1 n l (i : Int) b (ints t)) (t ++ putT (l.drop i)) ∧ Ev (fun n => F23_L1 n l t (i : Int)) (t ++ putT (l.drop i)) := by
  intro d
  induction d with
  | zero =>
    intro i b t hi ht
    rw [List.drop_of_length_le (by omega), show putT [] = [] from rfl, List.append_nil]
    refine ⟨Ev.step (Ev.pure.congr fun n => ?_), Ev.step (Ev.pure.congr fun n => ?_)⟩
    · rw [F22_L1, decide_eq_false (by omega), iteB_f, bld_String n b _ (ints_bytes t) (by rw [ints_len]; omega), bind_some', toB_ints]
    · rw [F23_L1, decide_eq_false (by omega), iteB_f]
  | succ d ih =>
    intro i b t hi ht
    have hd : l.drop i = l.getD i default :: l.drop (i + 1) := drop_cons l i default (by omega)
    rw [hd] at ht ⊢
    generalize hf : l.getD i default = f at ht ⊢
    have hp : putT (f :: l.drop (i + 1)) = put1 f ++ putT (l.drop (i + 1)) := rfl
    rw [hp] at ht ⊢
    rw [List.length_append, put1_len] at ht
    obtain ⟨⟨N1, i1⟩, ⟨N2, i2⟩⟩ := ih (i + 1) true (t ++ put1 f) (by omega) (by rw [List.length_append, put1_len]; omega)
    rw [List.append_assoc] at i1 i2
    refine ⟨Ev.step ⟨N1, fun n hn => ?_⟩, Ev.step ⟨N2, fun n hn => ?_⟩⟩
    · have q1 := i1 n hn
      dsimp only at q1
      show F22_L1 (n + 1) l (i : Int) b (ints t) = _
      rw [F22_L1, decide_eq_true (by omega), iteB_t, toNat_nat, hf, g64 i (by omega), grd_t _ (by omega), grd_t _ (by omega), grd_t _ (by omega), grd_t _ (by omega)]
      show (F45 n (b, ints t) (put1 f)).bind _ = _
      rw [bld_Write n b _ _ (by rw [ints_len, put1_len]; omega), bind_some']
      dsimp only
      rw [← ints_app, q1]
    · have q1 := i2 n hn
      dsimp only at q1
      show F23_L1 (n + 1) l t (i : Int) = _
      rw [F23_L1, decide_eq_true (by omega), iteB_t, toNat_nat, hf, g64 i (by omega), grd_t _ (by omega), grd_t _ (by omega), grd_t _ (by omega), grd_t _ (by omega), grd_t _ (by omega), grd_t _ (by omega)]
      rw [show ((t ++ f.1 ++ [58, 32]) ++ f.2) ++ [13, 10] = t ++ put1 f by simp [put1, List.append_assoc]]
      exact q1
/-! ### Fields that are few -/
def wF (f : Fld) : Nat := 10 + min f.1.length 900 + min f.2.length 900
def fits : List Fld → Nat → Bool
  | [], _ => true
  | f :: r, a => decide (a + wF f ≤ 900) && fits r (a + wF f)
theorem fits_put : ∀ (l : List Fld) (a : Nat), a ≤ 900 → fits l a = true → a + (putT l).length ≤ 900 ∧ a + 10 * l.length ≤ 900
  | [], a, ha, _ => by simp [putT]; exact ha
  | f :: r, a, ha, h => by
    simp only [fits, Bool.and_eq_true, decide_eq_true_eq] at h
    obtain ⟨h1, h2⟩ := h
    obtain ⟨h3, h4⟩ := fits_put r (a + wF f) h1 h2
    have h5 : (putT (f :: r)).length = (put1 f).length + (putT r).length := by show (put1 f ++ putT r).length = _; rw [List.length_append]
    rw [h5, put1_len, List.length_cons]
    have : f.1.length + f.2.length + 10 ≤ wF f := by unfold wF at h1 ⊢; omega
    omega
theorem own_loop (l : List Fld) : ∀ (d i a : Nat) (x : List Fld), i + d = l.length → a ≤ 900 → 10 * i ≤ a → x = l.take i →
    Ev (fun n => F15_L1 n l (a : Int) (i : Int) x) (if fits (l.drop i) a = true then (l, true) else ([], false)) := by
  intro d
  induction d with
  | zero =>
    intro i a x hi ha h10 hx
    rw [List.drop_of_length_le (by omega), if_pos (show fits [] a = true from rfl)]
    refine Ev.step (Ev.pure.congr fun n => ?_)
    rw [F15_L1, decide_eq_false (by omega), iteB_f, hx, List.take_of_length_le (by omega)]
  | succ d ih =>
    intro i a x hi ha h10 hx
    have hd : l.drop i = l.getD i default :: l.drop (i + 1) := drop_cons l i default (by omega)
    have htk : l.take (i + 1) = l.take i ++ [l.getD i default] := by
      rw [List.take_add_one, List.getD_eq_getElem?_getD, List.getElem?_eq_getElem (by omega)]; rfl
    rw [hd]
    generalize hf : l.getD i default = f at htk ⊢
    have hm : ∀ k : Nat, (if (900 : Int) < (k : Int) then (900 : Int) else (k : Int)) = ((min k 900 : Nat) : Int) := by
      intro k; split <;> omega
    have hw : IntKind.wrap .i64 (IntKind.wrap .i64 (IntKind.wrap .i64 ((a : Int) + 10) + ((min f.1.length 900 : Nat) : Int)) + ((min f.2.length 900 : Nat) : Int)) = ((a + wF f : Nat) : Int) := by
      rw [w64 (n := (a : Int) + 10) (by omega), w64 (n := (a : Int) + 10 + _) (by omega), w64 (by omega)]
      unfold wF; omega
    have hxl : x.length ≤ 90 := by rw [hx, List.length_take]; omega
    simp only [fits, Bool.and_eq_true, decide_eq_true_eq]
    by_cases h9 : a + wF f ≤ 900
    · have h10' : 10 * (i + 1) ≤ a + wF f := by unfold wF; omega
      have ih' := ih (i + 1) (a + wF f) (x ++ [f]) (by omega) h9 h10' (by rw [htk, hx])
      have hc : (a + wF f ≤ 900 ∧ fits (l.drop (i + 1)) (a + wF f) = true) ↔ (fits (l.drop (i + 1)) (a + wF f) = true) := ⟨fun h => h.2, fun h => ⟨h9, h⟩⟩
      rw [show (if a + wF f ≤ 900 ∧ fits (l.drop (i + 1)) (a + wF f) = true then (l, true) else (([] : List Fld), false)) = (if fits (l.drop (i + 1)) (a + wF f) = true then (l, true) else ([], false)) by simp only [hc]]
      refine Ev.step (ih'.congr fun n => ?_)
      rw [F15_L1, decide_eq_true (by omega), iteB_t, toNat_nat, hf, hm, hm, hw, g64 i (by omega), decide_eq_false (by omega), iteB_f, grd_t _ (by omega), grd_t _ (by omega), grd_t _ (by omega), grd_t _ (by omega)]
    · rw [if_neg (fun h => h9 h.1)]
      refine Ev.step (Ev.pure.congr fun n => ?_)
      rw [F15_L1, decide_eq_true (by omega), iteB_t, toNat_nat, hf, hm, hm, hw, decide_eq_true (by omega), iteB_t, grd_t _ (by omega), grd_t _ (by omega)]
theorem ev_own (l : List Fld) : Ev (fun n => F15 n l) (if fits l 0 = true then (l, true) else ([], false)) :=
  (own_loop l l.length 0 0 [] (by omega) (by omega) (by omega) rfl).congr fun n => rfl
theorem line_host : lineT [72, 111, 115, 116, 58, 32, 32, 97, 32] = (([72, 111, 115, 116], [97]), true) := by decide
theorem lines_law (s : List UInt8) (l : List Fld) : Ev (fun n => F5 n s l) true := by
  obtain ⟨N0, e0⟩ := ev_own l
  by_cases hf : fits l 0 = true
  case neg =>
    refine ⟨N0, fun n hn => ?_⟩
    have q0 := e0 n hn
    dsimp only at q0
    rw [if_neg hf] at q0
    show F5 n s l = _
    rw [F5, q0]; rfl
  obtain ⟨h1, h2⟩ := fits_put l 0 (by omega) hf
  by_cases hs : 900 < s.length
  · refine ⟨N0, fun n hn => ?_⟩
    have q0 := e0 n hn
    dsimp only at q0
    rw [if_pos hf] at q0
    show F5 n s l = _
    rw [F5, q0, bind_some', Bool.not_true, iteB_f, decide_eq_true (by omega), iteB_t]
  · obtain ⟨N1, e1⟩ := ev_Line s (by omega)
    obtain ⟨N2, e2⟩ := ev_rLine s (by omega)
    obtain ⟨N3, e3⟩ := ev_Line [72, 111, 115, 116, 58, 32, 32, 97, 32] (by decide)
    obtain ⟨N4, e4⟩ := ev_Token s (by omega)
    obtain ⟨N5, e5⟩ := ev_rToken s (by omega)
    obtain ⟨N6, e6⟩ := ev_Value s (by omega)
    obtain ⟨N7, e7⟩ := ev_rValue s (by omega)
    obtain ⟨⟨N8, e8⟩, ⟨N9, e9⟩⟩ := Put_loop l (by omega) l.length 0 false [] (by omega) (by simp; omega)
    refine ⟨N0 + N1 + N2 + N3 + N4 + N5 + N6 + N7 + N8 + N9, fun n hn => ?_⟩
    have q0 := e0 n (by omega)
    have q1 := e1 n (by omega)
    have q2 := e2 n (by omega)
    have q3 := e3 n (by omega)
    have q4 := e4 n (by omega)
    have q5 := e5 n (by omega)
    have q6 := e6 n (by omega)
    have q7 := e7 n (by omega)
    have q8 : F22 n l = _ := e8 n (by omega)
    have q9 : F23 n l = _ := e9 n (by omega)
    dsimp only at q0 q1 q2 q3 q4 q5 q6 q7
    rw [if_pos hf] at q0
    show F5 n s l = _
    rw [F5, q0, bind_some', Bool.not_true, iteB_f, decide_eq_false (by omega), iteB_f, q1, bind_some', q2, bind_some', q3, bind_some', q4, bind_some', q5, bind_some', beq_self_eq_true, iteB_t, q6, bind_some', q7, bind_some', beq_self_eq_true, iteB_t, beq_self_eq_true, beq_self_eq_true, beq_self_eq_true, Bool.and_self, iteB_t, iteB_t, q8, bind_some', q9, bind_some', beq_self_eq_true, iteB_t, line_host]
    rfl
theorem law_main (v0 : List UInt8) (v1 : List Fld) (h0 : okT9 v0) (h1 : okT39 v1) : ∃ n, F5 n v0 v1 = some true := by
  obtain ⟨N, h⟩ := lines_law v0 v1
  exact ⟨N, h N (Nat.le_refl _)⟩
end Go.Proofs.YtbdkofondpalpaaDoorX

set_option linter.unusedVariables false
namespace Go.Proofs.YtbdkofondpalpaaDoorX
open Go Go.RowKit Go.Proofs
set_option maxRecDepth 100000
theorem shapedRow (xs : List T) (h : ShapesW Tryd.prog [9, 39] xs) : FnC Tryd.prog 5 xs (tb true) := shapedHeaderLines law_main xs h
end Go.Proofs.YtbdkofondpalpaaDoorX
namespace Go.Proofs.YtbdkofondpalpaaDoor.headerLines
open Go.ChangeShapes Go.WideShapes Go.ChangeAt Go.RowKit
set_option linter.unusedVariables false
theorem own : ownKnob Tryd.prog.godebug = none := by kernel_rfl
set_option maxRecDepth 100000 in
theorem lifted (os : Os) (started : os.Started) (H : Type) (enc : TypeId × Value → H) :
    ReturnsInHanded {} Tryd.checked os 5 .any (fun w args => (Rows.headerLinesSpec.pre enc Tryd.prog Tryd.f5 [] false w args ∧ laidMetH Tryd.prog Rows.headerLinesRow.laid w) ∧ sizedMet enc Tryd.prog Tryd.f5 (OpenSpec.ofChange Rows.headerLinesSpec) false w args) (Rows.headerLinesSpec.post enc Tryd.prog Tryd.f5 false true false false) := by
  refine returnsInHanded_of_change_and (C := Tryd.checked) (X := fun w _ => laidMetH Tryd.prog Rows.headerLinesRow.laid w) (fun _ _ _ hh h => h.of_heap hh) own started (by kernel_rfl) Tryd.func5
    (ChangeSpec.witness_shaped (enc := enc) (C := Tryd.checked) (os := os) (X := fun w _ => laidMetH Tryd.prog Rows.headerLinesRow.laid w) false (World.laidAll Tryd.prog os Rows.headerLinesRow.laid) #[.string ByteArray.empty, .slice none 0 0] 8 (World.laidAll_os _ _ _)
      (World.shaped_of_ZipB (by kernel_rfl) (by kernel_rfl)) (by kernel_rfl) (by kernel_rfl) (by kernel_rfl)
      (by rw [MakeChecks.laidMetH_plain _ _ _ (by kernel_rfl)]; exact laidMet_laidAll _ (by kernel_rfl) (by kernel_rfl))) ?_
  intro W base args ds gs before hval0 hW _ _ hL _
  exact YtbdkofondpalpaaDoorX.row_contract (P := Tryd.prog) (fn := Tryd.f5) (s := Rows.headerLinesSpec) (ts := [9, 39]) (tb := 4) (L := [9, 39, 44, 43]) (by kernel_rfl) (by kernel_rfl) (by kernel_rfl) (by kernel_rfl) (by kernel_rfl) (by kernel_rfl) rfl
    (fun H ds h => by
      match ds, h with
      | [d0, d1], _ => rfl) YtbdkofondpalpaaDoorX.shapedRow W base args ds gs before hval0 hW
theorem over : Rows.headerLinesRow.holds Tryd.pinned (OpenSpec.ofChange Rows.headerLinesSpec) :=
  OpenClaim.holds_of_wide 5 Tryd.f5 rfl rfl rfl rfl rfl rfl rfl ⟨rfl, rfl, rfl, rfl, rfl⟩ rfl rfl rfl rfl rfl (by kernel_rfl) Tryd.func5 (by kernel_rfl)
    (of_decide_eq_true (by kernel_rfl)) (by unfold Func.isWrapper; first | (rw [if_pos (by decide +kernel)]; kernel_rfl) | (rw [if_neg (by decide +kernel)]; exact ⟨rfl, rfl⟩))
    (fun os started H enc _ => lifted os started H enc)
theorem proved : Rows.HeaderLinesCardSaid :=
  Claim7.holds_tied_plain_at .later [] [.data, .pinned] true (true, "48a05177c2816304ae20193907aa78ea5bf3c06c577e3e3e520e080529c15cb6") false
    over (fun _ h => by cases h) (by kernel_rfl) (fun _ h => by cases h) headerLines_row_tie rfl ⟨rfl, rfl⟩ (by kernel_rfl) rfl
    (fun f fn hf hfn => by
      obtain rfl : f = 5 := Option.some.inj ((show Tryd.prog.funcNamed "shadowbox/shadowboxlaw30.HeaderLines" = some 5 by kernel_rfl).symm.trans hf) |>.symm
      obtain rfl : fn = Tryd.f5 := (Option.some.inj (Tryd.func5.symm.trans hfn)).symm
      exact ⟨by kernel_rfl, fun j t ht => by
        rw [Tryd.params5] at ht
        have hm : t ∈ [9, 39] := by simpa using Array.mem_of_getElem? ht
        have hall : ([9, 39].all fun u => !Tryd.prog.wantsStandIn u) = true := by kernel_rfl
        exact (show Tryd.prog.wantsStandIn t = false by simpa using List.all_eq_true.1 hall t hm)⟩)
    (by kernel_rfl)
#print axioms proved
end Go.Proofs.YtbdkofondpalpaaDoor.headerLines
namespace Go.Proofs.YtbdkofondpalpaaDoor
/-- The card, under a short name, for the claim. -/
theorem headerLines_holds : Rows.HeaderLinesCardSaid := headerLines.proved
end Go.Proofs.YtbdkofondpalpaaDoor
