/- Part of the proof of RequestCloses: walks and plain words, merged. -/
import Derived.Test.YtbdkofondpalpaaDoorBRequestClosesc
import Derived.Test.YtbdkofondpalpaaDoorRows
import Derived.Test.YtbdkofondpalpaaDoorCards
import Derived.Test.YtbdkofondpalpaaDoorTie
import Derived.Test.YtbdkofondpalpaaDoorChecked
import Derived.WalkKit
import Derived.ProofKit
import Derived.OpenShut
import Derived.Lay
import Derived.LaidMore
import Derived.LaidOnce
import Derived.SevenTiedAt
set_option linter.unusedVariables false
set_option linter.unusedSimpArgs false

set_option linter.unusedVariables false
set_option linter.unusedSimpArgs false
namespace Go.Proofs.YtbdkofondpalpaaDoorX
open Go Go.RowKit Go.Proofs
set_option maxRecDepth 100000
attribute [local go_sem ↓] stepsK_build stepsK_build0 stepsK_bs stepsK_bs0 appendS
attribute [local go_sem] String.reduceEq String.reduceNe reduceCtorEq Int.reduceEq Nat.reduceAdd Nat.reduceSub Nat.reduceMul Nat.reduceLT Nat.reduceLeDiff Nat.reduceEqDiff Nat.reduceBEq Int.reduceToNat Int.reduceLT Int.reduceLE Int.reduceGT Int.reduceGE Int.reduceAdd Int.reduceSub Int.reduceMul Int.reduceNeg Int.reduceBEq Int.reduceBNe Int.reducePow Int.reduceDiv Int.reduceMod Int.reduceTDiv Int.reduceTMod Int.reduceNatCast
/-! ### shadowboxref30.trim -/
def F40_S2 (x7 : List UInt8) : St := ⟨[.imm (.string (bs x7)), .junk, .junk, .junk, .junk, .junk, .junk, .junk, .junk, .junk, .junk, .junk, .junk, .junk, .junk, .junk, .junk, .junk, .junk, .junk, .junk, .junk, .junk, .junk, .junk, .junk, .junk, .junk, .junk, .junk], []⟩
def F40_S3 (x13 : List UInt8) : St := ⟨[.imm (.string (bs x13)), .junk, .junk, .junk, .junk, .junk, .junk, .junk, .junk, .junk, .junk, .junk, .junk, .junk, .junk, .junk, .junk, .junk, .junk, .junk, .junk, .junk, .junk, .junk, .junk, .junk, .junk, .junk, .junk, .junk], []⟩
def F40_S1 (x1 : List UInt8) : St := ⟨[.imm (.string (bs x1)), .junk, .junk, .junk, .junk, .junk, .junk, .junk, .junk, .junk, .junk, .junk, .junk, .junk, .junk, .junk, .junk, .junk, .junk, .junk, .junk, .junk, .junk, .junk, .junk, .junk, .junk, .junk, .junk, .junk], []⟩
mutual
def F40_L2 : Nat → (List UInt8) → Option (List UInt8)
  | 0, _ => none
  | m2 + 1, x7 => iteB (decide ((0 : Int) < (x7.length : Int))) (grd (0 ≤ (IntKind.wrap .i64 ((x7.length : Int) - (1 : Int))) ∧ (IntKind.wrap .i64 ((x7.length : Int) - (1 : Int))) < (x7.length : Int)) ((F79 m2 ((x7.getD (IntKind.wrap .i64 ((x7.length : Int) - (1 : Int))).toNat 0).toNat : Int)).bind fun v10 => iteB v10 (grd (0 ≤ (IntKind.wrap .i64 ((x7.length : Int) - (1 : Int))) ∧ (IntKind.wrap .i64 ((x7.length : Int) - (1 : Int))) ≤ (x7.length : Int)) (F40_L2 m2 (x7.take (IntKind.wrap .i64 ((x7.length : Int) - (1 : Int))).toNat))) (some x7))) (some x7)
def F40_L3 : Nat → (List UInt8) → Option (List UInt8)
  | 0, _ => none
  | m3 + 1, x13 => iteB (decide ((0 : Int) < (x13.length : Int))) (grd (0 ≤ (IntKind.wrap .i64 ((x13.length : Int) - (1 : Int))) ∧ (IntKind.wrap .i64 ((x13.length : Int) - (1 : Int))) < (x13.length : Int)) ((F79 m3 ((x13.getD (IntKind.wrap .i64 ((x13.length : Int) - (1 : Int))).toNat 0).toNat : Int)).bind fun v16 => iteB v16 (grd (0 ≤ (IntKind.wrap .i64 ((x13.length : Int) - (1 : Int))) ∧ (IntKind.wrap .i64 ((x13.length : Int) - (1 : Int))) ≤ (x13.length : Int)) (F40_L3 m3 (x13.take (IntKind.wrap .i64 ((x13.length : Int) - (1 : Int))).toNat))) (some x13))) (some x13)
def F40_L1 : Nat → (List UInt8) → Option (List UInt8)
  | 0, _ => none
  | m1 + 1, x1 => iteB (decide ((0 : Int) < (x1.length : Int))) (grd ((0 : Int) < (x1.length : Int)) ((F79 m1 ((x1.getD (0 : Int).toNat 0).toNat : Int)).bind fun v4 => iteB v4 (grd ((1 : Int) ≤ (x1.length : Int)) (F40_L1 m1 (x1.drop 1))) (F40_L2 m1 x1))) (F40_L3 m1 x1)
end
def F40 (n : Nat) (a0 : List UInt8) : Option (List UInt8) := F40_L1 n a0
set_option maxHeartbeats 4000000 in
theorem F40_ok : ∀ (n : Nat) (a0 : List UInt8) (r : List UInt8), F40 n a0 = some r → FnC Tryd.prog 40 [.imm (.string (bs a0))] (.imm (.string (bs r)))
  | n, a0, r, h => by
    unfold F40 at h
    refine FnC.goX mixed Tryd.func40 (by kernel_rfl) rfl ?_
    simp only [Tryd.ntmps40, List.length_cons, List.length_nil, List.replicate, List.cons_append, List.nil_append, Nat.reduceAdd, Nat.reduceSub]
    refine runX_seq ?_
    refine runX_regionC fun C hC => ?_
    try simp -implicitDefEqProofs (maxSteps := 4000000) (disch := first | omega | decide | (simp only [go_sem]; omega)) only [go_sem, ↓reduceIte]
    repeat (with_reducible refine And.intro (by first | assumption | omega | (simp; done) | (simp; omega)) ?_)
    refine toEnd hC ?_
    refine endX_seq ?_
    refine runX_seq ?_
    refine runX_block ?_
    refine runX_loop [0] (fun m S => ∃ (x1 : List UInt8), S = F40_S1 x1 ∧ m ≤ n ∧ F40_L1 m x1 = some r) n ⟨F40_S1 a0, ?_, a0, rfl, Nat.le_refl _, h⟩ ?_
    · simp only [F40_S1]
      (try simp -implicitDefEqProofs (maxSteps := 4000000) (disch := first | omega | decide | (simp only [go_sem]; omega)) only [go_sem, ↓reduceIte])
      first | exact leS_refl _ | (refine leS_le ?_ ?_ <;> first | exact leL_refl _ | exact leOs_refl _ | (simp only [List.append_assoc, List.cons_append, List.nil_append]; exact leOs_refl _) | (repeat (first | exact leL_refl _ | refine leL_cons (by first | exact leT_refl _ | exact leT_virt | exact leT_junk _ | exact leT_sl | exact leT_sln | exact leT_nil | (refine leT_agg (by repeat (first | exact leL_refl _ | refine leL_cons (by first | exact leT_refl _ | exact leT_sl | exact leT_sln | exact leT_nil) ?_)))) ?_)))
    · clear h
      rintro m1 S ⟨x1, rfl, hm1, h⟩
      cases m1 with
      | zero => first | cases (show (none : Option _) = some _ from h) | (rw [F40_L1] at h; cases h)
      | succ m1 =>
        rw [F40_L1] at h
        simp only [F40_S1]
        refine runX_seq ?_
        refine runX_seq ?_
        refine runX_regionC fun C hC => ?_
        try simp -implicitDefEqProofs (maxSteps := 4000000) (disch := first | omega | decide | (simp only [go_sem]; omega)) only [go_sem, ↓reduceIte]
        repeat (with_reducible refine And.intro (by first | assumption | omega | (simp; done) | (simp; omega)) ?_)
        rcases iteB_some h with ⟨c2, h⟩ | ⟨c2, h⟩
        · refine guardK_T c2 ?_
          obtain ⟨g3, h⟩ := grd_some h
          obtain ⟨v4, h4, h⟩ := bnd_some h
          try simp -implicitDefEqProofs (maxSteps := 4000000) (disch := first | omega | decide | (simp only [go_sem]; omega)) only [go_sem, ↓reduceIte]
          repeat (with_reducible refine And.intro (by first | assumption | omega | (simp; done) | (simp; omega)) ?_)
          refine callG_X (by first | rfl | (simp only [go_sem]; done) | (simp only [closedL, closedT, Bool.and_true]; exact closedL_map _ (fun _ => by first | rfl | (simp only [go_sem]; done)) _)) (F79_ok m1 ((x1.getD (0 : Int).toNat 0).toNat : Int) _ h4) (by repeat (first | exact leL_refl _ | refine leL_cons (by first | exact leT_refl _ | exact leT_virt | exact leT_junk _ | exact leT_sl | exact leT_sln | exact leT_nil | (refine leT_agg (by repeat (first | exact leL_refl _ | refine leL_cons (by first | exact leT_refl _ | exact leT_sl | exact leT_sln | exact leT_nil) ?_)))) ?_)) ?_
          try simp -implicitDefEqProofs (maxSteps := 4000000) (disch := first | omega | decide | (simp only [go_sem]; omega)) only [go_sem, ↓reduceIte]
          repeat (with_reducible refine And.intro (by first | assumption | omega | (simp; done) | (simp; omega)) ?_)
          refine toEnd hC ?_
          refine endX_seq ?_
          rcases iteB_some h with ⟨c5, h⟩ | ⟨c5, h⟩
          · refine runX_condT rfl c5 ?_
            refine runX_skip ?_
            refine endX_seq ?_
            refine runX_block ?_
            refine runX_regionC fun C hC => ?_
            obtain ⟨g6, h⟩ := grd_some h
            try simp -implicitDefEqProofs (maxSteps := 4000000) (disch := first | omega | decide | (simp only [go_sem]; omega)) only [go_sem, ↓reduceIte]
            repeat (with_reducible refine And.intro (by first | assumption | omega | (simp; done) | (simp; omega)) ?_)
            refine toEnd hC ?_
            refine endX_blk ?_
            refine endX_q (roundQ_normal ⟨m1, by omega, F40_S1 (x1.drop 1), ?_, (x1.drop 1), rfl, by omega, h⟩)
            simp only [F40_S1]
            (try simp -implicitDefEqProofs (maxSteps := 4000000) (disch := first | omega | decide | (simp only [go_sem]; omega)) only [go_sem, ↓reduceIte])
            first | exact leS_refl _ | (refine leS_le ?_ ?_ <;> first | exact leL_refl _ | exact leOs_refl _ | (simp only [List.append_assoc, List.cons_append, List.nil_append]; exact leOs_refl _) | (repeat (first | exact leL_refl _ | refine leL_cons (by first | exact leT_refl _ | exact leT_virt | exact leT_junk _ | exact leT_sl | exact leT_sln | exact leT_nil | (refine leT_agg (by repeat (first | exact leL_refl _ | refine leL_cons (by first | exact leT_refl _ | exact leT_sl | exact leT_sln | exact leT_nil) ?_)))) ?_)))
          · refine runX_condF rfl c5 ?_
            refine runX_exit ?_
            refine endX_seqE ?_
            refine endX_q (roundQ_exit ?_)
            refine endX_blkE ?_
            refine endX_seq ?_
            refine runX_seq ?_
            refine runX_block ?_
            refine runX_loop [0] (fun m S => ∃ (x7 : List UInt8), S = F40_S2 x7 ∧ m ≤ m1 ∧ F40_L2 m x7 = some r) m1 ⟨F40_S2 x1, ?_, x1, rfl, Nat.le_refl _, h⟩ ?_
            · simp only [F40_S2]
              (try simp -implicitDefEqProofs (maxSteps := 4000000) (disch := first | omega | decide | (simp only [go_sem]; omega)) only [go_sem, ↓reduceIte])
              first | exact leS_refl _ | (refine leS_le ?_ ?_ <;> first | exact leL_refl _ | exact leOs_refl _ | (simp only [List.append_assoc, List.cons_append, List.nil_append]; exact leOs_refl _) | (repeat (first | exact leL_refl _ | refine leL_cons (by first | exact leT_refl _ | exact leT_virt | exact leT_junk _ | exact leT_sl | exact leT_sln | exact leT_nil | (refine leT_agg (by repeat (first | exact leL_refl _ | refine leL_cons (by first | exact leT_refl _ | exact leT_sl | exact leT_sln | exact leT_nil) ?_)))) ?_)))
            · clear h
              rintro m2 S ⟨x7, rfl, hm2, h⟩
              cases m2 with
              | zero => first | cases (show (none : Option _) = some _ from h) | (rw [F40_L2] at h; cases h)
              | succ m2 =>
                rw [F40_L2] at h
                simp only [F40_S2]
                refine runX_seq ?_
                refine runX_seq ?_
                refine runX_regionC fun C hC => ?_
                try simp -implicitDefEqProofs (maxSteps := 4000000) (disch := first | omega | decide | (simp only [go_sem]; omega)) only [go_sem, ↓reduceIte]
                repeat (with_reducible refine And.intro (by first | assumption | omega | (simp; done) | (simp; omega)) ?_)
                rcases iteB_some h with ⟨c8, h⟩ | ⟨c8, h⟩
                · refine guardK_T c8 ?_
                  obtain ⟨g9, h⟩ := grd_some h
                  obtain ⟨v10, h10, h⟩ := bnd_some h
                  try simp -implicitDefEqProofs (maxSteps := 4000000) (disch := first | omega | decide | (simp only [go_sem]; omega)) only [go_sem, ↓reduceIte]
                  repeat (with_reducible refine And.intro (by first | assumption | omega | (simp; done) | (simp; omega)) ?_)
                  refine callG_X (by first | rfl | (simp only [go_sem]; done) | (simp only [closedL, closedT, Bool.and_true]; exact closedL_map _ (fun _ => by first | rfl | (simp only [go_sem]; done)) _)) (F79_ok m2 ((x7.getD (IntKind.wrap .i64 ((x7.length : Int) - (1 : Int))).toNat 0).toNat : Int) _ h10) (by repeat (first | exact leL_refl _ | refine leL_cons (by first | exact leT_refl _ | exact leT_virt | exact leT_junk _ | exact leT_sl | exact leT_sln | exact leT_nil | (refine leT_agg (by repeat (first | exact leL_refl _ | refine leL_cons (by first | exact leT_refl _ | exact leT_sl | exact leT_sln | exact leT_nil) ?_)))) ?_)) ?_
                  try simp -implicitDefEqProofs (maxSteps := 4000000) (disch := first | omega | decide | (simp only [go_sem]; omega)) only [go_sem, ↓reduceIte]
                  repeat (with_reducible refine And.intro (by first | assumption | omega | (simp; done) | (simp; omega)) ?_)
                  refine toEnd hC ?_
                  refine endX_seq ?_
                  rcases iteB_some h with ⟨c11, h⟩ | ⟨c11, h⟩
                  · refine runX_condT rfl c11 ?_
                    refine runX_skip ?_
                    refine endX_seq ?_
                    refine runX_block ?_
                    refine runX_regionC fun C hC => ?_
                    obtain ⟨g12, h⟩ := grd_some h
                    try simp -implicitDefEqProofs (maxSteps := 4000000) (disch := first | omega | decide | (simp only [go_sem]; omega)) only [go_sem, ↓reduceIte]
                    repeat (with_reducible refine And.intro (by first | assumption | omega | (simp; done) | (simp; omega)) ?_)
                    refine toEnd hC ?_
                    refine endX_blk ?_
                    refine endX_q (roundQ_normal ⟨m2, by omega, F40_S2 (x7.take (IntKind.wrap .i64 ((x7.length : Int) - (1 : Int))).toNat), ?_, (x7.take (IntKind.wrap .i64 ((x7.length : Int) - (1 : Int))).toNat), rfl, by omega, h⟩)
                    simp only [F40_S2]
                    (try simp -implicitDefEqProofs (maxSteps := 4000000) (disch := first | omega | decide | (simp only [go_sem]; omega)) only [go_sem, ↓reduceIte])
                    first | exact leS_refl _ | (refine leS_le ?_ ?_ <;> first | exact leL_refl _ | exact leOs_refl _ | (simp only [List.append_assoc, List.cons_append, List.nil_append]; exact leOs_refl _) | (repeat (first | exact leL_refl _ | refine leL_cons (by first | exact leT_refl _ | exact leT_virt | exact leT_junk _ | exact leT_sl | exact leT_sln | exact leT_nil | (refine leT_agg (by repeat (first | exact leL_refl _ | refine leL_cons (by first | exact leT_refl _ | exact leT_sl | exact leT_sln | exact leT_nil) ?_)))) ?_)))
                  · refine runX_condF rfl c11 ?_
                    refine runX_exit ?_
                    refine endX_seqE ?_
                    refine endX_q (roundQ_exit ?_)
                    refine endX_blkE ?_
                    refine endX_seq ?_
                    refine runX_seq ?_
                    refine runX_regionC fun C hC => ?_
                    try simp -implicitDefEqProofs (maxSteps := 4000000) (disch := first | omega | decide | (simp only [go_sem]; omega)) only [go_sem, ↓reduceIte]
                    repeat (with_reducible refine And.intro (by first | assumption | omega | (simp; done) | (simp; omega)) ?_)
                    refine toEnd hC ?_
                    refine endX_seq ?_
                    refine runX_ret ?_
                    refine endX_q ?_
                    obtain rfl := Option.some.inj h
                    show RetW _ _ _ _ _
                    simp only [RetW]
                    (try simp -implicitDefEqProofs (maxSteps := 4000000) (disch := first | omega | decide | (simp only [go_sem]; omega)) only [go_sem, ↓reduceIte])
                    (try simp (disch := omega) only [if_pos, Nat.sub_zero])
                    exact leT_refl _
                · refine guardK_F c8 ?_
                  try simp -implicitDefEqProofs (maxSteps := 4000000) (disch := first | omega | decide | (simp only [go_sem]; omega)) only [go_sem, ↓reduceIte]
                  repeat (with_reducible refine And.intro (by first | assumption | omega | (simp; done) | (simp; omega)) ?_)
                  refine toEnd hC ?_
                  refine endX_seq ?_
                  refine runX_condF rfl rfl ?_
                  refine runX_exit ?_
                  refine endX_seqE ?_
                  refine endX_q (roundQ_exit ?_)
                  refine endX_blkE ?_
                  refine endX_seq ?_
                  refine runX_seq ?_
                  refine runX_regionC fun C hC => ?_
                  try simp -implicitDefEqProofs (maxSteps := 4000000) (disch := first | omega | decide | (simp only [go_sem]; omega)) only [go_sem, ↓reduceIte]
                  repeat (with_reducible refine And.intro (by first | assumption | omega | (simp; done) | (simp; omega)) ?_)
                  refine toEnd hC ?_
                  refine endX_seq ?_
                  refine runX_ret ?_
                  refine endX_q ?_
                  obtain rfl := Option.some.inj h
                  show RetW _ _ _ _ _
                  simp only [RetW]
                  (try simp -implicitDefEqProofs (maxSteps := 4000000) (disch := first | omega | decide | (simp only [go_sem]; omega)) only [go_sem, ↓reduceIte])
                  (try simp (disch := omega) only [if_pos, Nat.sub_zero])
                  exact leT_refl _
        · refine guardK_F c2 ?_
          try simp -implicitDefEqProofs (maxSteps := 4000000) (disch := first | omega | decide | (simp only [go_sem]; omega)) only [go_sem, ↓reduceIte]
          repeat (with_reducible refine And.intro (by first | assumption | omega | (simp; done) | (simp; omega)) ?_)
          refine toEnd hC ?_
          refine endX_seq ?_
          refine runX_condF rfl rfl ?_
          refine runX_exit ?_
          refine endX_seqE ?_
          refine endX_q (roundQ_exit ?_)
          refine endX_blkE ?_
          refine endX_seq ?_
          refine runX_seq ?_
          refine runX_block ?_
          refine runX_loop [0] (fun m S => ∃ (x13 : List UInt8), S = F40_S3 x13 ∧ m ≤ m1 ∧ F40_L3 m x13 = some r) m1 ⟨F40_S3 x1, ?_, x1, rfl, Nat.le_refl _, h⟩ ?_
          · simp only [F40_S3]
            (try simp -implicitDefEqProofs (maxSteps := 4000000) (disch := first | omega | decide | (simp only [go_sem]; omega)) only [go_sem, ↓reduceIte])
            first | exact leS_refl _ | (refine leS_le ?_ ?_ <;> first | exact leL_refl _ | exact leOs_refl _ | (simp only [List.append_assoc, List.cons_append, List.nil_append]; exact leOs_refl _) | (repeat (first | exact leL_refl _ | refine leL_cons (by first | exact leT_refl _ | exact leT_virt | exact leT_junk _ | exact leT_sl | exact leT_sln | exact leT_nil | (refine leT_agg (by repeat (first | exact leL_refl _ | refine leL_cons (by first | exact leT_refl _ | exact leT_sl | exact leT_sln | exact leT_nil) ?_)))) ?_)))
          · clear h
            rintro m3 S ⟨x13, rfl, hm3, h⟩
            cases m3 with
            | zero => first | cases (show (none : Option _) = some _ from h) | (rw [F40_L3] at h; cases h)
            | succ m3 =>
              rw [F40_L3] at h
              simp only [F40_S3]
              refine runX_seq ?_
              refine runX_seq ?_
              refine runX_regionC fun C hC => ?_
              try simp -implicitDefEqProofs (maxSteps := 4000000) (disch := first | omega | decide | (simp only [go_sem]; omega)) only [go_sem, ↓reduceIte]
              repeat (with_reducible refine And.intro (by first | assumption | omega | (simp; done) | (simp; omega)) ?_)
              rcases iteB_some h with ⟨c14, h⟩ | ⟨c14, h⟩
              · refine guardK_T c14 ?_
                obtain ⟨g15, h⟩ := grd_some h
                obtain ⟨v16, h16, h⟩ := bnd_some h
                try simp -implicitDefEqProofs (maxSteps := 4000000) (disch := first | omega | decide | (simp only [go_sem]; omega)) only [go_sem, ↓reduceIte]
                repeat (with_reducible refine And.intro (by first | assumption | omega | (simp; done) | (simp; omega)) ?_)
                refine callG_X (by first | rfl | (simp only [go_sem]; done) | (simp only [closedL, closedT, Bool.and_true]; exact closedL_map _ (fun _ => by first | rfl | (simp only [go_sem]; done)) _)) (F79_ok m3 ((x13.getD (IntKind.wrap .i64 ((x13.length : Int) - (1 : Int))).toNat 0).toNat : Int) _ h16) (by repeat (first | exact leL_refl _ | refine leL_cons (by first | exact leT_refl _ | exact leT_virt | exact leT_junk _ | exact leT_sl | exact leT_sln | exact leT_nil | (refine leT_agg (by repeat (first | exact leL_refl _ | refine leL_cons (by first | exact leT_refl _ | exact leT_sl | exact leT_sln | exact leT_nil) ?_)))) ?_)) ?_
                try simp -implicitDefEqProofs (maxSteps := 4000000) (disch := first | omega | decide | (simp only [go_sem]; omega)) only [go_sem, ↓reduceIte]
                repeat (with_reducible refine And.intro (by first | assumption | omega | (simp; done) | (simp; omega)) ?_)
                refine toEnd hC ?_
                refine endX_seq ?_
                rcases iteB_some h with ⟨c17, h⟩ | ⟨c17, h⟩
                · refine runX_condT rfl c17 ?_
                  refine runX_skip ?_
                  refine endX_seq ?_
                  refine runX_block ?_
                  refine runX_regionC fun C hC => ?_
                  obtain ⟨g18, h⟩ := grd_some h
                  try simp -implicitDefEqProofs (maxSteps := 4000000) (disch := first | omega | decide | (simp only [go_sem]; omega)) only [go_sem, ↓reduceIte]
                  repeat (with_reducible refine And.intro (by first | assumption | omega | (simp; done) | (simp; omega)) ?_)
                  refine toEnd hC ?_
                  refine endX_blk ?_
                  refine endX_q (roundQ_normal ⟨m3, by omega, F40_S3 (x13.take (IntKind.wrap .i64 ((x13.length : Int) - (1 : Int))).toNat), ?_, (x13.take (IntKind.wrap .i64 ((x13.length : Int) - (1 : Int))).toNat), rfl, by omega, h⟩)
                  simp only [F40_S3]
                  (try simp -implicitDefEqProofs (maxSteps := 4000000) (disch := first | omega | decide | (simp only [go_sem]; omega)) only [go_sem, ↓reduceIte])
                  first | exact leS_refl _ | (refine leS_le ?_ ?_ <;> first | exact leL_refl _ | exact leOs_refl _ | (simp only [List.append_assoc, List.cons_append, List.nil_append]; exact leOs_refl _) | (repeat (first | exact leL_refl _ | refine leL_cons (by first | exact leT_refl _ | exact leT_virt | exact leT_junk _ | exact leT_sl | exact leT_sln | exact leT_nil | (refine leT_agg (by repeat (first | exact leL_refl _ | refine leL_cons (by first | exact leT_refl _ | exact leT_sl | exact leT_sln | exact leT_nil) ?_)))) ?_)))
                · refine runX_condF rfl c17 ?_
                  refine runX_exit ?_
                  refine endX_seqE ?_
                  refine endX_q (roundQ_exit ?_)
                  refine endX_blkE ?_
                  refine endX_seq ?_
                  refine runX_seq ?_
                  refine runX_regionC fun C hC => ?_
                  try simp -implicitDefEqProofs (maxSteps := 4000000) (disch := first | omega | decide | (simp only [go_sem]; omega)) only [go_sem, ↓reduceIte]
                  repeat (with_reducible refine And.intro (by first | assumption | omega | (simp; done) | (simp; omega)) ?_)
                  refine toEnd hC ?_
                  refine endX_seq ?_
                  refine runX_ret ?_
                  refine endX_q ?_
                  obtain rfl := Option.some.inj h
                  show RetW _ _ _ _ _
                  simp only [RetW]
                  (try simp -implicitDefEqProofs (maxSteps := 4000000) (disch := first | omega | decide | (simp only [go_sem]; omega)) only [go_sem, ↓reduceIte])
                  (try simp (disch := omega) only [if_pos, Nat.sub_zero])
                  exact leT_refl _
              · refine guardK_F c14 ?_
                try simp -implicitDefEqProofs (maxSteps := 4000000) (disch := first | omega | decide | (simp only [go_sem]; omega)) only [go_sem, ↓reduceIte]
                repeat (with_reducible refine And.intro (by first | assumption | omega | (simp; done) | (simp; omega)) ?_)
                refine toEnd hC ?_
                refine endX_seq ?_
                refine runX_condF rfl rfl ?_
                refine runX_exit ?_
                refine endX_seqE ?_
                refine endX_q (roundQ_exit ?_)
                refine endX_blkE ?_
                refine endX_seq ?_
                refine runX_seq ?_
                refine runX_regionC fun C hC => ?_
                try simp -implicitDefEqProofs (maxSteps := 4000000) (disch := first | omega | decide | (simp only [go_sem]; omega)) only [go_sem, ↓reduceIte]
                repeat (with_reducible refine And.intro (by first | assumption | omega | (simp; done) | (simp; omega)) ?_)
                refine toEnd hC ?_
                refine endX_seq ?_
                refine runX_ret ?_
                refine endX_q ?_
                obtain rfl := Option.some.inj h
                show RetW _ _ _ _ _
                simp only [RetW]
                (try simp -implicitDefEqProofs (maxSteps := 4000000) (disch := first | omega | decide | (simp only [go_sem]; omega)) only [go_sem, ↓reduceIte])
                (try simp (disch := omega) only [if_pos, Nat.sub_zero])
                exact leT_refl _
end Go.Proofs.YtbdkofondpalpaaDoorX

/- Blanks at both ends: words, and the reference's. -/
set_option linter.unusedVariables false
set_option linter.unusedSimpArgs false
namespace Go.Proofs.YtbdkofondpalpaaDoorX
open Go

def isBl (c : UInt8) : Bool := c == 32 || c == 9
def trimL : List UInt8 → List UInt8
  | [] => []
  | c :: l => if isBl c = true then trimL l else c :: l
def trimR : List UInt8 → List UInt8
  | [] => []
  | c :: l => if trimR l = [] then (if isBl c = true then [] else [c]) else c :: trimR l
/-- Without the blanks at both ends. -/
def trimT (s : List UInt8) : List UInt8 := trimL (trimR s)
theorem bl_contains (c : UInt8) : ([32, 9] : List UInt8).contains c = isBl c := by
  simp only [List.contains_cons, List.contains_nil, Bool.or_false, isBl]
theorem trimR_snoc (c : UInt8) : ∀ l : List UInt8, trimR (l ++ [c]) = if isBl c = true then trimR l else l ++ [c]
  | [] => by
    show (if trimR [] = [] then _ else _) = _
    rw [if_pos (show trimR [] = [] from rfl)]; rfl
  | x :: l => by
    rw [show (x :: l) ++ [c] = x :: (l ++ [c]) from rfl, trimR, trimR_snoc c l]
    by_cases h : isBl c = true
    · rw [if_pos h, if_pos h, trimR]
    · rw [if_neg h, if_neg h, if_neg (by simp)]
theorem rev_ind {α : Type} {p : List α → Prop} (h0 : p []) (h1 : ∀ l a, p l → p (l ++ [a])) : ∀ l, p l := by
  intro l
  rw [← List.reverse_reverse l]
  generalize l.reverse = m
  induction m with
  | nil => exact h0
  | cons a m ih => rw [List.reverse_cons]; exact h1 _ _ ih
theorem trim_comm : ∀ l : List UInt8, trimL (trimR l) = trimR (trimL l)
  | [] => rfl
  | c :: l => by
    have ih := trim_comm l
    by_cases h : isBl c = true
    · rw [show trimL (c :: l) = trimL l by rw [trimL, if_pos h], ← ih, trimR]
      by_cases hr : trimR l = []
      · rw [if_pos hr, if_pos h, hr]
      · rw [if_neg hr, trimL, if_pos h]
    · rw [show trimL (c :: l) = c :: l by rw [trimL, if_neg h], trimR]
      by_cases hr : trimR l = []
      · rw [if_pos hr, if_neg h, trimL, if_neg h]
      · rw [if_neg hr, trimL, if_neg h]
theorem trimL_len : ∀ l : List UInt8, (trimL l).length ≤ l.length
  | [] => Nat.le_refl _
  | c :: l => by
    have := trimL_len l
    rw [trimL]; split <;> simp <;> omega
theorem trimR_len : ∀ l : List UInt8, (trimR l).length ≤ l.length
  | [] => Nat.le_refl _
  | c :: l => by
    have := trimR_len l
    rw [trimR]; split
    · split <;> simp
    · simp; omega
theorem trimT_len (l : List UInt8) : (trimT l).length ≤ l.length := Nat.le_trans (trimL_len _) (trimR_len _)
theorem blank_eq (n : Nat) (c : UInt8) : F79 n (c.toNat : Int) = some (isBl c) := by
  unfold F79 isBl
  rw [show ((c.toNat : Int) == 32) = (c == 32) from u8_lit c 32 (by omega), show ((c.toNat : Int) == 9) = (c == 9) from u8_lit c 9 (by omega)]
  cases (c == 32) <;> rfl
theorem ev_trimR2 (l : List UInt8) : l.length ≤ 1000000000 → Ev (fun n => F40_L2 n l) (trimR l) ∧ Ev (fun n => F40_L3 n l) (trimR l) := by
  induction l using rev_ind with
  | h0 => exact fun _ => ⟨Ev.step (Ev.pure.congr fun n => by rw [F40_L2]; rfl), Ev.step (Ev.pure.congr fun n => by rw [F40_L3]; rfl)⟩
  | h1 l c ih =>
    intro hl
    have hl' : l.length + 1 ≤ 1000000000 := by simpa using hl
    have e1 : IntKind.wrap .i64 (((l ++ [c]).length : Int) - 1) = (l.length : Int) := by rw [List.length_append, List.length_singleton, w64 (by omega)]; omega
    have e2 : (l ++ [c]).getD l.length 0 = c := by rw [List.getD_eq_getElem?_getD]; simp
    have e3 : (l ++ [c]).take l.length = l := List.take_left
    have e4 : ((l ++ [c]).length : Int) = (l.length : Int) + 1 := by simp
    obtain ⟨⟨N1, i1⟩, ⟨N2, i2⟩⟩ := ih (by omega)
    rw [trimR_snoc]
    refine ⟨Ev.step ⟨N1, fun n hn => ?_⟩, Ev.step ⟨N2, fun n hn => ?_⟩⟩
    · show F40_L2 (n + 1) (l ++ [c]) = _
      rw [F40_L2, decide_eq_true (by omega), iteB_t, e1, grd_t _ (by omega), toNat_nat, e2, blank_eq, bind_some', e3]
      cases h : isBl c with
      | true => rw [iteB_t, if_pos rfl, grd_t _ (by omega)]; exact i1 n hn
      | false => rw [iteB_f, if_neg (by simp)]
    · show F40_L3 (n + 1) (l ++ [c]) = _
      rw [F40_L3, decide_eq_true (by omega), iteB_t, e1, grd_t _ (by omega), toNat_nat, e2, blank_eq, bind_some', e3]
      cases h : isBl c with
      | true => rw [iteB_t, if_pos rfl, grd_t _ (by omega)]; exact i2 n hn
      | false => rw [iteB_f, if_neg (by simp)]
theorem ev_trim1 : ∀ l : List UInt8, l.length ≤ 1000000000 → Ev (fun n => F40_L1 n l) (trimR (trimL l))
  | [], hl => Ev.step ((ev_trimR2 [] hl).2.congr fun n => by rw [F40_L1]; rfl)
  | c :: l, hl => by
    have hl' : l.length + 1 ≤ 1000000000 := hl
    have e4 : (((c :: l) : List UInt8).length : Int) = (l.length : Int) + 1 := by simp
    rw [trimL]
    by_cases h : isBl c = true
    · rw [if_pos h]
      obtain ⟨N, i1⟩ := ev_trim1 l (by omega)
      refine Ev.step ⟨N, fun n hn => ?_⟩
      show F40_L1 (n + 1) (c :: l) = _
      rw [F40_L1, decide_eq_true (by omega), iteB_t, grd_t _ (by omega), show ((c :: l).getD (0 : Int).toNat 0) = c from rfl, blank_eq, bind_some', h, iteB_t, grd_t _ (by omega)]
      exact i1 n hn
    · rw [if_neg h]
      obtain ⟨N, i1⟩ := (ev_trimR2 (c :: l) hl).1
      refine Ev.step ⟨N, fun n hn => ?_⟩
      show F40_L1 (n + 1) (c :: l) = _
      rw [F40_L1, decide_eq_true (by omega), iteB_t, grd_t _ (by omega), show ((c :: l).getD (0 : Int).toNat 0) = c from rfl, blank_eq, bind_some', show isBl c = false by simpa using h, iteB_f]
      exact i1 n hn
theorem ev_trim (s : List UInt8) (hs : s.length ≤ 1000000000) : Ev (fun n => F40 n s) (trimT s) := by
  unfold trimT
  rw [trim_comm]
  exact (ev_trim1 s hs).congr fun n => rfl
end Go.Proofs.YtbdkofondpalpaaDoorX

/- Blanks at both ends: strings.Trim. -/
set_option linter.unusedVariables false
set_option linter.unusedSimpArgs false
namespace Go.Proofs.YtbdkofondpalpaaDoorX
open Go

theorem trimL_eq : ∀ l : List UInt8, Lib.trimLeftS l [32, 9] = trimL l
  | [] => rfl
  | c :: l => by
    have ih := trimL_eq l
    unfold Lib.trimLeftS at ih ⊢
    rw [List.dropWhile_cons, bl_contains, ih]
    rfl
theorem trimR_eq (l : List UInt8) : Lib.trimRightS l [32, 9] = trimR l := by
  induction l using rev_ind with
  | h0 => rfl
  | h1 l c ih =>
    unfold Lib.trimRightS at ih ⊢
    rw [List.reverse_append, List.reverse_singleton, List.singleton_append, List.dropWhile_cons, bl_contains, trimR_snoc]
    by_cases h : isBl c = true
    · rw [if_pos h, if_pos h, ih]
    · rw [if_neg h, if_neg h, List.reverse_cons, List.reverse_reverse]
theorem Trim_eq (n : Nat) (s : List UInt8) (hs : s.length ≤ 1000000000) : F34 n s [32, 9] = some (trimT s) := by
  unfold F34 Lib.trimS
  rw [if_pos ⟨by omega, by decide, by decide⟩, trimL_eq, trimR_eq]; rfl
end Go.Proofs.YtbdkofondpalpaaDoorX

set_option linter.unusedVariables false
set_option linter.unusedSimpArgs false
namespace Go.Proofs.YtbdkofondpalpaaDoorX
open Go Go.RowKit Go.Proofs
set_option maxRecDepth 100000
attribute [local go_sem ↓] stepsK_build stepsK_build0 stepsK_bs stepsK_bs0 appendS
attribute [local go_sem] String.reduceEq String.reduceNe reduceCtorEq Int.reduceEq Nat.reduceAdd Nat.reduceSub Nat.reduceMul Nat.reduceLT Nat.reduceLeDiff Nat.reduceEqDiff Nat.reduceBEq Int.reduceToNat Int.reduceLT Int.reduceLE Int.reduceGT Int.reduceGE Int.reduceAdd Int.reduceSub Int.reduceMul Int.reduceNeg Int.reduceBEq Int.reduceBNe Int.reducePow Int.reduceDiv Int.reduceMod Int.reduceTDiv Int.reduceTMod Int.reduceNatCast
/-! ### internal/stringslite.Cut -/
def F74 (n : Nat) (a0 : List UInt8) (a1 : List UInt8) : Option ((List UInt8) × (List UInt8) × (Bool)) := (F107 n a0 a1).bind fun v1 => iteB (decide ((0 : Int) ≤ v1)) (grd (0 ≤ v1 ∧ v1 ≤ (a0.length : Int)) (grd (0 ≤ (IntKind.wrap .i64 (v1 + (a1.length : Int))) ∧ (IntKind.wrap .i64 (v1 + (a1.length : Int))) ≤ (a0.length : Int)) (some ((a0.take v1.toNat), (a0.drop (IntKind.wrap .i64 (v1 + (a1.length : Int))).toNat), true)))) (some (a0, [], false))
set_option maxHeartbeats 4000000 in
theorem F74_ok : ∀ (n : Nat) (a0 : List UInt8) (a1 : List UInt8) (r : (List UInt8) × (List UInt8) × (Bool)), F74 n a0 a1 = some r → FnC Tryd.prog 74 [.imm (.string (bs a0)), .imm (.string (bs a1))] (.tup [.imm (.string (bs r.1)), .imm (.string (bs r.2.1)), .imm (.bool r.2.2)])
  | n, a0, a1, r, h => by
    unfold F74 at h
    refine FnC.goX mixed Tryd.func74 (by kernel_rfl) rfl ?_
    simp only [Tryd.ntmps74, List.length_cons, List.length_nil, List.replicate, List.cons_append, List.nil_append, Nat.reduceAdd, Nat.reduceSub]
    refine runX_seq ?_
    refine runX_regionC fun C hC => ?_
    try simp -implicitDefEqProofs (maxSteps := 4000000) (disch := first | omega | decide | (simp only [go_sem]; omega)) only [go_sem, ↓reduceIte]
    repeat (with_reducible refine And.intro (by first | assumption | omega | (simp; done) | (simp; omega)) ?_)
    refine toEnd hC ?_
    refine endX_seq ?_
    refine runX_seq ?_
    refine runX_seq ?_
    refine runX_regionC fun C hC => ?_
    obtain ⟨v1, h1, h⟩ := bnd_some h
    try simp -implicitDefEqProofs (maxSteps := 4000000) (disch := first | omega | decide | (simp only [go_sem]; omega)) only [go_sem, ↓reduceIte]
    repeat (with_reducible refine And.intro (by first | assumption | omega | (simp; done) | (simp; omega)) ?_)
    refine callG_X (by first | rfl | (simp only [go_sem]; done) | (simp only [closedL, closedT, Bool.and_true]; exact closedL_map _ (fun _ => by first | rfl | (simp only [go_sem]; done)) _)) (F107_ok n a0 a1 _ h1) (by repeat (first | exact leL_refl _ | refine leL_cons (by first | exact leT_refl _ | exact leT_virt | exact leT_junk _ | exact leT_sl | exact leT_sln | exact leT_nil) ?_)) ?_
    try simp -implicitDefEqProofs (maxSteps := 4000000) (disch := first | omega | decide | (simp only [go_sem]; omega)) only [go_sem, ↓reduceIte]
    repeat (with_reducible refine And.intro (by first | assumption | omega | (simp; done) | (simp; omega)) ?_)
    refine toEnd hC ?_
    refine endX_seq ?_
    refine runX_seq ?_
    refine runX_regionC fun C hC => ?_
    try simp -implicitDefEqProofs (maxSteps := 4000000) (disch := first | omega | decide | (simp only [go_sem]; omega)) only [go_sem, ↓reduceIte]
    repeat (with_reducible refine And.intro (by first | assumption | omega | (simp; done) | (simp; omega)) ?_)
    refine toEnd hC ?_
    refine endX_seq ?_
    rcases iteB_some h with ⟨c2, h⟩ | ⟨c2, h⟩
    · refine runX_condT rfl c2 ?_
      refine runX_seq ?_
      refine runX_drawC mixed (by kernel_rfl) fun C hC => ?_
      obtain ⟨g3, h⟩ := grd_some h
      obtain ⟨g4, h⟩ := grd_some h
      try simp -implicitDefEqProofs (maxSteps := 4000000) (disch := first | omega | decide | (simp only [go_sem]; omega)) only [go_sem, ↓reduceIte]
      repeat (with_reducible refine And.intro (by first | assumption | omega | (simp; done) | (simp; omega)) ?_)
      refine toEnd hC ?_
      refine endX_seq ?_
      refine runX_ret ?_
      refine endX_seqR ?_
      refine endX_q ?_
      obtain rfl := Option.some.inj h
      show RetW _ _ _ _ _
      simp only [RetW]
      (try simp -implicitDefEqProofs (maxSteps := 4000000) (disch := first | omega | decide | (simp only [go_sem]; omega)) only [go_sem, ↓reduceIte])
      (try simp (disch := omega) only [if_pos, Nat.sub_zero])
      exact leT_refl _
    · refine runX_condF rfl c2 ?_
      refine runX_skip ?_
      refine endX_seq ?_
      refine runX_seq ?_
      refine runX_regionC fun C hC => ?_
      try simp -implicitDefEqProofs (maxSteps := 4000000) (disch := first | omega | decide | (simp only [go_sem]; omega)) only [go_sem, ↓reduceIte]
      repeat (with_reducible refine And.intro (by first | assumption | omega | (simp; done) | (simp; omega)) ?_)
      refine toEnd hC ?_
      refine endX_seq ?_
      refine runX_ret ?_
      refine endX_q ?_
      obtain rfl := Option.some.inj h
      show RetW _ _ _ _ _
      simp only [RetW]
      (try simp -implicitDefEqProofs (maxSteps := 4000000) (disch := first | omega | decide | (simp only [go_sem]; omega)) only [go_sem, ↓reduceIte])
      (try simp (disch := omega) only [if_pos, Nat.sub_zero])
      exact leT_refl _
end Go.Proofs.YtbdkofondpalpaaDoorX

set_option linter.unusedVariables false
set_option linter.unusedSimpArgs false
namespace Go.Proofs.YtbdkofondpalpaaDoorX
open Go Go.RowKit Go.Proofs
set_option maxRecDepth 100000
attribute [local go_sem ↓] stepsK_build stepsK_build0 stepsK_bs stepsK_bs0 appendS
attribute [local go_sem] String.reduceEq String.reduceNe reduceCtorEq Int.reduceEq Nat.reduceAdd Nat.reduceSub Nat.reduceMul Nat.reduceLT Nat.reduceLeDiff Nat.reduceEqDiff Nat.reduceBEq Int.reduceToNat Int.reduceLT Int.reduceLE Int.reduceGT Int.reduceGE Int.reduceAdd Int.reduceSub Int.reduceMul Int.reduceNeg Int.reduceBEq Int.reduceBNe Int.reducePow Int.reduceDiv Int.reduceMod Int.reduceTDiv Int.reduceTMod Int.reduceNatCast
/-! ### strings.Cut -/
def F37 (n : Nat) (a0 : List UInt8) (a1 : List UInt8) : Option ((List UInt8) × (List UInt8) × (Bool)) := (F74 n a0 a1).bind fun v1 => some (v1.1, v1.2.1, v1.2.2)
set_option maxHeartbeats 4000000 in
theorem F37_ok : ∀ (n : Nat) (a0 : List UInt8) (a1 : List UInt8) (r : (List UInt8) × (List UInt8) × (Bool)), F37 n a0 a1 = some r → FnC Tryd.prog 37 [.imm (.string (bs a0)), .imm (.string (bs a1))] (.tup [.imm (.string (bs r.1)), .imm (.string (bs r.2.1)), .imm (.bool r.2.2)])
  | n, a0, a1, r, h => by
    unfold F37 at h
    refine FnC.goX mixed Tryd.func37 (by kernel_rfl) rfl ?_
    simp only [Tryd.ntmps37, List.length_cons, List.length_nil, List.replicate, List.cons_append, List.nil_append, Nat.reduceAdd, Nat.reduceSub]
    refine runX_seq ?_
    refine runX_regionC fun C hC => ?_
    try simp -implicitDefEqProofs (maxSteps := 4000000) (disch := first | omega | decide | (simp only [go_sem]; omega)) only [go_sem, ↓reduceIte]
    repeat (with_reducible refine And.intro (by first | assumption | omega | (simp; done) | (simp; omega)) ?_)
    refine toEnd hC ?_
    refine endX_seq ?_
    refine runX_seq ?_
    refine runX_regionC fun C hC => ?_
    obtain ⟨v1, h1, h⟩ := bnd_some h
    try simp -implicitDefEqProofs (maxSteps := 4000000) (disch := first | omega | decide | (simp only [go_sem]; omega)) only [go_sem, ↓reduceIte]
    repeat (with_reducible refine And.intro (by first | assumption | omega | (simp; done) | (simp; omega)) ?_)
    refine callG_X (by first | rfl | (simp only [go_sem]; done) | (simp only [closedL, closedT, Bool.and_true]; exact closedL_map _ (fun _ => by first | rfl | (simp only [go_sem]; done)) _)) (F74_ok n a0 a1 _ h1) (by repeat (first | exact leL_refl _ | refine leL_cons (by first | exact leT_refl _ | exact leT_virt | exact leT_junk _ | exact leT_sl | exact leT_sln | exact leT_nil) ?_)) ?_
    try simp -implicitDefEqProofs (maxSteps := 4000000) (disch := first | omega | decide | (simp only [go_sem]; omega)) only [go_sem, ↓reduceIte]
    repeat (with_reducible refine And.intro (by first | assumption | omega | (simp; done) | (simp; omega)) ?_)
    refine toEnd hC ?_
    refine endX_seq ?_
    refine runX_ret ?_
    refine endX_q ?_
    obtain rfl := Option.some.inj h
    show RetW _ _ _ _ _
    simp only [RetW]
    (try simp -implicitDefEqProofs (maxSteps := 4000000) (disch := first | omega | decide | (simp only [go_sem]; omega)) only [go_sem, ↓reduceIte])
    (try simp (disch := omega) only [if_pos, Nat.sub_zero])
    exact leT_refl _
end Go.Proofs.YtbdkofondpalpaaDoorX

/- Texts cut at a byte: strings.Index, Count, Split, Cut of one byte. -/
set_option linter.unusedVariables false
set_option linter.unusedSimpArgs false
namespace Go.Proofs.YtbdkofondpalpaaDoorX
open Go

def splitB (c : UInt8) : List UInt8 → List (List UInt8)
  | [] => [[]]
  | x :: l => if x = c then [] :: splitB c l else match splitB c l with
    | [] => [[x]]
    | y :: ys => (x :: y) :: ys
theorem split_ne (c : UInt8) : ∀ l, splitB c l ≠ []
  | [] => by simp [splitB]
  | x :: l => by
    rw [splitB]
    split
    · simp
    · split <;> simp
/-- Where a byte first stands. -/
theorem idx_cases (c : UInt8) : ∀ s : List UInt8, (Lib.indexByte s c = -1 ∧ c ∉ s ∧ s.count c = 0 ∧ splitB c s = [s]) ∨
    ∃ m : Nat, m < s.length ∧ Lib.indexByte s c = (m : Int) ∧ c ∉ s.take m ∧ s = s.take m ++ c :: s.drop (m + 1) ∧ s.count c = 1 + (s.drop (m + 1)).count c ∧ splitB c s = s.take m :: splitB c (s.drop (m + 1))
  | [] => .inl ⟨rfl, by simp, rfl, rfl⟩
  | x :: l => by
    by_cases h : x = c
    · subst h
      refine .inr ⟨0, by simp, ?_, by simp, by simp, by simp; omega, by simp [splitB]⟩
      rw [Lib.indexByte, beq_self_eq_true, if_pos rfl]; rfl
    · have hb : (x == c) = false := by rw [beq_eq_false_iff_ne]; exact h
      rcases idx_cases c l with ⟨h1, h2, h3, h4⟩ | ⟨m, h1, h2, h3, h4, h5, h6⟩
      · refine .inl ⟨?_, ?_, ?_, ?_⟩
        · rw [Lib.indexByte, hb, h1]; rfl
        · simp only [List.mem_cons, not_or]; exact ⟨fun e => h e.symm, h2⟩
        · rw [List.count_cons_of_ne h, h3]
        · rw [splitB, if_neg h, h4]
      · refine .inr ⟨m + 1, by simp; omega, ?_, ?_, ?_, ?_, ?_⟩
        · rw [Lib.indexByte, hb, h2]
          simp only [Bool.false_eq_true, if_false]
          rw [if_neg (by rw [beq_iff_eq]; omega)]; omega
        · rw [List.take_succ_cons]; simp only [List.mem_cons, not_or]; exact ⟨fun e => h e.symm, h3⟩
        · rw [List.take_succ_cons, List.drop_succ_cons, List.cons_append, ← h4]
        · rw [List.count_cons_of_ne h, List.drop_succ_cons, h5]
        · rw [splitB, if_neg h, h6, List.take_succ_cons, List.drop_succ_cons]
theorem Index_eq (n : Nat) (s : List UInt8) (c : UInt8) : F107 n s [c] = some (Lib.indexByte s c) := by
  rw [F107]
  show iteB false _ _ = _
  rw [iteB_f]
  by_cases h : ([c] : List UInt8) = s
  · rw [show (([c] : List UInt8) == s) = true by rw [beq_iff_eq]; exact h, iteB_t, ← h, Lib.indexByte, beq_self_eq_true]; rfl
  · rw [show (([c] : List UInt8) == s) = false by rw [beq_eq_false_iff_ne]; exact h, iteB_f]
    show iteB true _ _ = _
    rw [iteB_t, grd_t _ (by simp), F106, bind_some']
    show some (Lib.indexByte s (((c.toNat : Nat) : Int).toNat.toUInt8)) = _
    rw [toNat_nat, show c.toNat.toUInt8 = c by simp]
theorem sIndex_eq (n : Nat) (s : List UInt8) (c : UInt8) : F115 n s [c] = some (Lib.indexByte s c) := by rw [F115, Index_eq, bind_some']
theorem take_set' {α : Type} : ∀ (l : List α) (i : Nat) (x : α), i < l.length → (l.set i x).take (i + 1) = l.take i ++ [x]
  | [], i, x, h => by simp at h
  | a :: l, 0, x, h => by simp
  | a :: l, i + 1, x, h => by
    rw [List.set_cons_succ, List.take_succ_cons, List.take_succ_cons, List.cons_append, take_set' l i x (by simpa using h)]
theorem ev_gen (c : UInt8) (s0 : List UInt8) (N : Nat) (h0 : N ≤ s0.length + 1) (hN : s0.length ≤ 1000000) : ∀ (d : Nat) (s : List UInt8) (i : Nat) (row : List (List UInt8)), s.count c = d → i + d + 1 = N → row.length = N → s.length ≤ 1000000 →
    Ev (fun k => F83_L3 k [c] 0 s0 (N : Int) s (i : Int) row) (row.take i ++ splitB c s) := by
  have hmin : (if IntKind.wrap .i64 ((s0.length : Int) + 1) < (N : Int) then IntKind.wrap .i64 ((s0.length : Int) + 1) else (N : Int)) = (N : Int) := by
    rw [w64 (by omega), if_neg (by omega)]
  intro d
  induction d with
  | zero =>
    intro s i row hc hi hr hs
    rcases idx_cases c s with ⟨h1, h2, h3, h4⟩ | ⟨m, h1, h2, h3, h4, h5, h6⟩
    · rw [h4]
      refine Ev.step (Ev.pure.congr fun k => ?_)
      rw [F83_L3, hmin, w64 (n := (N : Int) - 1) (by omega), decide_eq_false (by omega), iteB_f, F83_J2, grd_t _ (by omega), toNat_nat, grd_t _ (by omega), w64 (n := (i : Int) + 1) (by omega), grd_t _ (by omega), show ((i : Int) + 1).toNat = i + 1 by omega, take_set' _ _ _ (by omega)]
    · omega
  | succ d ih =>
    intro s i row hc hi hr hs
    rcases idx_cases c s with ⟨h1, h2, h3, h4⟩ | ⟨m, h1, h2, h3, h4, h5, h6⟩
    · omega
    · have e := ih (s.drop (m + 1)) (i + 1) (row.set i (s.take m)) (by omega) (by omega) (by rw [List.length_set, hr]) (by rw [List.length_drop]; omega)
      rw [take_set' _ _ _ (by omega), List.append_assoc] at e
      rw [h6]
      refine Ev.step (e.congr fun k => ?_)
      rw [F83_L3, hmin, w64 (n := (N : Int) - 1) (by omega), decide_eq_true (by omega), iteB_t, sIndex_eq, bind_some', h2, decide_eq_false (by omega), iteB_f, w64 (n := (m : Int) + 0) (by omega)]
      rw [show (([c] : List UInt8).length : Int) = 1 from rfl, w64 (n := (m : Int) + 1) (by omega), w64 (n := (i : Int) + 1) (by omega), toNat_nat]
      rw [grd_t _ (by omega), grd_t _ (by omega), grd_t _ (by omega), grd_t _ (by omega)]
      rw [show ((m : Int) + 1).toNat = m + 1 by omega, show ((m : Int) + 0).toNat = m by omega, show (i : Int) + 1 = ((i + 1 : Nat) : Int) by omega]
theorem ev_Split (c : UInt8) (s : List UInt8) (hs : s.length ≤ 1000000) : Ev (fun k => F48 k s [c]) (splitB c s) := by
  have hcl : s.count c ≤ s.length := List.count_le_length
  have e := ev_gen c s (s.count c + 1) (by omega) hs (s.count c) s 0 (List.replicate (s.count c + 1) []) rfl (by omega) (by simp) hs
  rw [List.take_zero, List.nil_append] at e
  obtain ⟨N, hN⟩ := e
  refine ⟨N, fun n hn => ?_⟩
  have e := hN n hn
  dsimp only at e
  have w1 : IntKind.wrap .i64 (((Lib.countByte s c : Nat) : Int) + 1) = ((s.count c + 1 : Nat) : Int) := by
    unfold Lib.countByte
    rw [w64 (by omega)]; omega
  have hmin : (if IntKind.wrap .i64 ((s.length : Int) + 1) < ((s.count c + 1 : Nat) : Int) then IntKind.wrap .i64 ((s.length : Int) + 1) else ((s.count c + 1 : Nat) : Int)) = ((s.count c + 1 : Nat) : Int) := by
    rw [w64 (by omega), if_neg (by omega)]
  show F48 n s [c] = _
  rw [F48, F83]
  show (iteB false _ (iteB false _ (iteB true _ _))).bind _ = _
  rw [iteB_f, iteB_f, iteB_t, F114]
  show ((some ((Lib.countByte s c : Nat) : Int)).bind _).bind _ = _
  rw [bind_some', w1, F83_J1, hmin, toNat_nat, grd_t _ (by omega)]
  show (F83_L3 n [c] 0 s _ s ((0 : Nat) : Int) _).bind _ = _
  rw [e, bind_some']
def cutB (c : UInt8) (s : List UInt8) : List UInt8 × List UInt8 × Bool := if c ∈ s then (s.take (Lib.indexByte s c).toNat, s.drop ((Lib.indexByte s c).toNat + 1), true) else (s, [], false)
theorem Cut_eq (n : Nat) (s : List UInt8) (c : UInt8) (hs : s.length ≤ 1000000) : F37 n s [c] = some (cutB c s) := by
  unfold cutB
  rw [F37, F74, Index_eq, bind_some', show (([c] : List UInt8).length : Int) = 1 from rfl]
  rcases idx_cases c s with ⟨h1, h2, h3, h4⟩ | ⟨m, h1, h2, h3, h4, h5, h6⟩
  · rw [if_neg h2, h1]; rfl
  · have hm : c ∈ s := by rw [h4]; simp
    rw [if_pos hm, h2, decide_eq_true (by omega), iteB_t, w64 (by omega), grd_t _ (by omega), grd_t _ (by omega), bind_some', show ((m : Int) + 1).toNat = m + 1 by omega, toNat_nat]
/-- Where a byte is not ahead of its first place. -/
theorem idx_app (c : UInt8) (b : List UInt8) : ∀ a : List UInt8, c ∉ a → Lib.indexByte (a ++ c :: b) c = (a.length : Int)
  | [], _ => by rw [List.nil_append, Lib.indexByte, beq_self_eq_true, if_pos rfl]; rfl
  | x :: a, h => by
    simp only [List.mem_cons, not_or] at h
    rw [List.cons_append, Lib.indexByte, show (x == c) = false by (rw [beq_eq_false_iff_ne]; exact fun e => h.1 e.symm), idx_app c b a h.2]
    simp only [Bool.false_eq_true, if_false]
    rw [if_neg (by rw [beq_iff_eq]; omega), List.length_cons]; omega
theorem cut_app (c : UInt8) (a b : List UInt8) (h : c ∉ a) : cutB c (a ++ c :: b) = (a, b, true) := by
  unfold cutB
  rw [if_pos (by simp), idx_app c b a h, toNat_nat, List.take_left']
  · rw [show a.length + 1 = (a ++ [c]).length by simp, show a ++ c :: b = (a ++ [c]) ++ b by simp, List.drop_left']; rfl
  · rfl
theorem cut_none (c : UInt8) (a : List UInt8) (h : c ∉ a) : cutB c a = (a, [], false) := by unfold cutB; rw [if_neg h]
end Go.Proofs.YtbdkofondpalpaaDoorX

/- Words between commas: header.Words. -/
set_option linter.unusedVariables false
set_option linter.unusedSimpArgs false
namespace Go.Proofs.YtbdkofondpalpaaDoorX
open Go

theorem split_none (c : UInt8) : ∀ a : List UInt8, c ∉ a → splitB c a = [a]
  | [], _ => rfl
  | x :: a, h => by
    simp only [List.mem_cons, not_or] at h
    rw [splitB, if_neg (fun e => h.1 e.symm), split_none c a h.2]
theorem split_app (c : UInt8) (b : List UInt8) : ∀ a : List UInt8, c ∉ a → splitB c (a ++ c :: b) = a :: splitB c b
  | [], _ => by rw [List.nil_append, splitB, if_pos rfl]
  | x :: a, h => by
    simp only [List.mem_cons, not_or] at h
    rw [List.cons_append, splitB, if_neg (fun e => h.1 e.symm), split_app c b a h.2]
theorem split_len (c : UInt8) : ∀ s : List UInt8, (splitB c s).length ≤ s.length + 1
  | [] => by simp [splitB]
  | x :: s => by
    have := split_len c s
    rw [splitB]
    split
    · simp; omega
    · split
      · simp
      · rename_i y ys e
        rw [e] at this
        simp at this ⊢; omega
theorem split_piece (c : UInt8) : ∀ (s : List UInt8) (p : List UInt8), p ∈ splitB c s → p.length ≤ s.length
  | [], p, h => by simp [splitB] at h; subst h; simp
  | x :: s, p, h => by
    rw [splitB] at h
    split at h
    · rcases List.mem_cons.1 h with rfl | h
      · simp
      · have := split_piece c s p h; simp; omega
    · split at h
      · simp at h; subst h; simp
      · rename_i y ys e
        rcases List.mem_cons.1 h with rfl | h
        · have := split_piece c s y (by rw [e]; simp); simp; omega
        · have := split_piece c s p (by rw [e]; simp [h]); simp; omega
/-- What is left of pieces: those that are not blank. -/
def wordsF (l : List (List UInt8)) : List (List UInt8) := (l.map trimT).filter fun w => !(w == [])
theorem wordsF_cons (x : List UInt8) (l : List (List UInt8)) : wordsF (x :: l) = if trimT x = [] then wordsF l else trimT x :: wordsF l := by
  unfold wordsF
  rw [List.map_cons, List.filter_cons]
  by_cases h : trimT x = []
  · rw [if_pos h, h, if_neg (by simp)]
  · rw [if_neg h, if_pos (by simpa using h)]
theorem words_loop (l : List (List UInt8)) (hl : l.length ≤ 1000000) (hp : ∀ x ∈ l, x.length ≤ 1000000) : ∀ (d i : Nat) (x : List (List UInt8)), i + d = l.length → x.length ≤ i →
    Ev (fun n => F25_L1 n l (i : Int) x) (x ++ wordsF (l.drop i)) := by
  intro d
  induction d with
  | zero =>
    intro i x hi hx
    rw [List.drop_of_length_le (by omega), show wordsF [] = [] from rfl, List.append_nil]
    exact Ev.step (Ev.pure.congr fun n => by rw [F25_L1, decide_eq_false (by omega), iteB_f])
  | succ d ih =>
    intro i x hi hx
    have hd : l.drop i = l.getD i default :: l.drop (i + 1) := drop_cons l i default (by omega)
    have hm : l.getD i default ∈ l := by
      rw [List.getD_eq_getElem?_getD, List.getElem?_eq_getElem (by omega)]; exact List.getElem_mem _
    have hpl := hp _ hm
    rw [hd, wordsF_cons]
    generalize hg : l.getD i default = y at hpl ⊢
    by_cases h : trimT y = []
    · rw [if_pos h]
      refine Ev.step ((ih (i + 1) x (by omega) (by omega)).congr fun n => ?_)
      rw [F25_L1, decide_eq_true (by omega), iteB_t, toNat_nat, hg, g64 i (by omega), grd_t _ (by omega), Trim_eq n y (by omega), bind_some', h]
      rfl
    · rw [if_neg h]
      have h2 := ih (i + 1) (x ++ [trimT y]) (by omega) (by simp; omega)
      rw [List.append_assoc] at h2
      refine Ev.step (h2.congr fun n => ?_)
      rw [F25_L1, decide_eq_true (by omega), iteB_t, toNat_nat, hg, g64 i (by omega), grd_t _ (by omega), Trim_eq n y (by omega), bind_some', show (trimT y == []) = false by rw [beq_eq_false_iff_ne]; exact h, Bool.not_false, iteB_t, grd_t _ (by omega)]
def wordsT (s : List UInt8) : List (List UInt8) := wordsF (splitB 44 s)
theorem ev_Words (s : List UInt8) (hs : s.length ≤ 100000) : Ev (fun n => F25 n s) (wordsT s) := by
  have hl := split_len 44 s
  have h := words_loop (splitB 44 s) (by omega) (fun x hx => by have := split_piece 44 s x hx; omega) (splitB 44 s).length 0 [] (by omega) (by simp)
  rw [List.nil_append, List.drop_zero] at h
  exact (Ev.bind (g := fun n v => F25_L1 n v (0 : Int) []) (ev_Split 44 s (by omega)) h).congr fun n => rfl
end Go.Proofs.YtbdkofondpalpaaDoorX

/- RequestCloses: a request ends its connection just if one of its words says so. -/
set_option linter.unusedVariables false
set_option linter.unusedSimpArgs false
namespace Go.Proofs.YtbdkofondpalpaaDoorX
open Go

def conS : List UInt8 := [99, 111, 110, 110, 101, 99, 116, 105, 111, 110]
def ConS : List UInt8 := [67, 111, 110, 110, 101, 99, 116, 105, 111, 110]
def clsS : List UInt8 := [99, 108, 111, 115, 101]
def isCls (w : List UInt8) : Bool := lowT w == clsS
/-- Does one of the words say so? -/
def closesT (l : List Fld) : Bool := (wordsT (getT l conS)).any isCls
theorem any_loop (l : List (List UInt8)) (hl : l.length ≤ 1000000) (hp : ∀ w ∈ l, w.length ≤ 1000000) : ∀ (d i : Nat), i + d = l.length →
    ∃ v : Int, Ev (fun n => F52000086_L1 n l (i : Int)) v ∧ decide ((0 : Int) ≤ v) = (l.drop i).any isCls := by
  intro d
  induction d with
  | zero =>
    intro i hi
    refine ⟨-1, Ev.step (Ev.pure.congr fun n => ?_), ?_⟩
    · rw [F52000086_L1, decide_eq_false (by omega), iteB_f]
    · rw [List.drop_of_length_le (by omega)]; rfl
  | succ d ih =>
    intro i hi
    have hd : l.drop i = l.getD i default :: l.drop (i + 1) := drop_cons l i default (by omega)
    have hm : l.getD i default ∈ l := by
      rw [List.getD_eq_getElem?_getD, List.getElem?_eq_getElem (by omega)]; exact List.getElem_mem _
    obtain ⟨N1, e1⟩ := ev_Lower (l.getD i default) (by have := hp _ hm; omega)
    have hc : ∀ n, N1 ≤ n → F51 n (l.getD i default) = some (isCls (l.getD i default)) := fun n hn => by
      have q := e1 n hn
      dsimp only at q
      rw [F51, q, bind_some']; rfl
    rw [hd, List.any_cons]
    cases h : isCls (l.getD i default) with
    | true =>
      refine ⟨(i : Int), Ev.step ⟨N1, fun n hn => ?_⟩, by rw [decide_eq_true (by omega)]; rfl⟩
      show F52000086_L1 (n + 1) l (i : Int) = _
      rw [F52000086_L1, decide_eq_true (by omega), iteB_t, toNat_nat, grd_t _ (by omega), hc n hn, bind_some', h, iteB_t]
    | false =>
      obtain ⟨v, ⟨N2, e2⟩, hv⟩ := ih (i + 1) (by omega)
      refine ⟨v, Ev.step ⟨N1 + N2, fun n hn => ?_⟩, by rw [hv, Bool.false_or]⟩
      have q2 := e2 n (by omega)
      dsimp only at q2
      show F52000086_L1 (n + 1) l (i : Int) = _
      rw [F52000086_L1, decide_eq_true (by omega), iteB_t, toNat_nat, grd_t _ (by omega), hc n (by omega), bind_some', h, iteB_f, g64 i (by omega), q2]
theorem wordsF_mem {l : List (List UInt8)} {w : List UInt8} (h : w ∈ wordsF l) : ∃ p ∈ l, w = trimT p := by
  unfold wordsF at h
  obtain ⟨h1, _⟩ := List.mem_filter.1 h
  obtain ⟨p, hp, rfl⟩ := List.mem_map.1 h1
  exact ⟨p, hp, rfl⟩
theorem words_short {s w : List UInt8} (h : w ∈ wordsT s) : w.length ≤ s.length := by
  obtain ⟨p, hp, rfl⟩ := wordsF_mem h
  exact Nat.le_trans (trimT_len p) (split_piece 44 s p hp)
theorem words_count (s : List UInt8) : (wordsT s).length ≤ s.length + 1 := by
  have h := split_len 44 s
  unfold wordsT wordsF
  have := List.length_filter_le (fun w : List UInt8 => !(w == [])) ((splitB 44 s).map trimT)
  rw [List.length_map] at this
  omega
abbrev Req := (List UInt8) × (List UInt8) × (List UInt8) × (List Fld) × (List Fld) × (List Int)
theorem ev_Close (r : Req) (hl : r.2.2.2.2.1.length ≤ 1000) (ht : totF r.2.2.2.2.1 ≤ 50000) : Ev (fun n => F28 n r) (closesT r.2.2.2.2.1) := by
  generalize hf : r.2.2.2.2.1 = l at hl ht
  have hg := get_len l conS
  obtain ⟨N1, e1⟩ := ev_Get l conS hl (by omega)
  obtain ⟨N2, e2⟩ := ev_Words (getT l conS) (by omega)
  have hwc := words_count (getT l conS)
  obtain ⟨v, ⟨N3, e3⟩, hv⟩ := any_loop (wordsT (getT l conS)) (by omega) (fun w hw => by have := words_short hw; omega) (wordsT (getT l conS)).length 0 (by omega)
  refine ⟨N1 + N2 + N3, fun n hn => ?_⟩
  have q1 := e1 n (by omega)
  have q2 := e2 n (by omega)
  have q3 : F52000086 n (wordsT (getT l conS)) = some v := e3 n (by omega)
  dsimp only at q1 q2
  show F28 n r = _
  rw [F28, hf, show F49 n l [99, 111, 110, 110, 101, 99, 116, 105, 111, 110] = _ from q1, bind_some']
  dsimp only
  rw [q2, bind_some', F52000050, q3, bind_some', hv, bind_some', List.drop_zero]
  rfl
/-! ### Words that say nothing -/
/-- No sign that is a c. -/
def noC (s : List UInt8) : Prop := ∀ x ∈ ints s, lowI x ≠ 99
theorem noC_not {w : List UInt8} (h : noC w) : isCls w = false := by
  unfold isCls
  rw [beq_eq_false_iff_ne]
  intro e
  have h9 : (99 : UInt8) ∈ lowT w := by rw [e]; simp [clsS]
  unfold lowT at h9
  obtain ⟨y, hy, e2⟩ := List.mem_map.1 h9
  obtain ⟨x, hx, rfl⟩ := List.mem_map.1 hy
  have hb := ints_bytes w x hx
  have hlo : 0 ≤ lowI x ∧ lowI x ≤ 255 := by
    unfold lowI
    split
    · rename_i hk
      have hk2 := low_wrap hk
      unfold kindOf at hk
      repeat' split at hk
      all_goals first | omega | (simp at hk)
    · exact hb
  have := ofB_toB hlo
  rw [e2] at this
  exact h x hx this.symm
theorem split_mem (c : UInt8) : ∀ (s p : List UInt8), p ∈ splitB c s → ∀ x ∈ p, x ∈ s
  | [], p, h, x, hx => by simp [splitB] at h; subst h; cases hx
  | a :: s, p, h, x, hx => by
    rw [splitB] at h
    split at h
    · rcases List.mem_cons.1 h with rfl | h
      · cases hx
      · exact List.mem_cons_of_mem _ (split_mem c s p h x hx)
    · split at h
      · rw [List.mem_singleton] at h; subst h
        rw [List.mem_singleton] at hx; subst hx
        exact List.mem_cons_self
      · rename_i y ys e
        rcases List.mem_cons.1 h with rfl | h
        · rcases List.mem_cons.1 hx with rfl | hx
          · exact List.mem_cons_self
          · exact List.mem_cons_of_mem _ (split_mem c s y (by rw [e]; simp) x hx)
        · exact List.mem_cons_of_mem _ (split_mem c s p (by rw [e]; simp [h]) x hx)
theorem trimL_mem : ∀ (l : List UInt8) (x : UInt8), x ∈ trimL l → x ∈ l
  | [], x, h => by cases h
  | c :: l, x, h => by
    rw [trimL] at h
    split at h
    · exact List.mem_cons_of_mem _ (trimL_mem l x h)
    · exact h
theorem trimR_mem : ∀ (l : List UInt8) (x : UInt8), x ∈ trimR l → x ∈ l
  | [], x, h => by cases h
  | c :: l, x, h => by
    rw [trimR] at h
    split at h
    · split at h
      · cases h
      · rw [List.mem_singleton] at h; subst h; exact List.mem_cons_self
    · rcases List.mem_cons.1 h with rfl | h
      · exact List.mem_cons_self
      · exact List.mem_cons_of_mem _ (trimR_mem l x h)
theorem noC_words {s : List UInt8} (h : noC s) : (wordsT s).any isCls = false := by
  rw [List.any_eq_false]
  intro w hw
  obtain ⟨p, hp, rfl⟩ := wordsF_mem hw
  have : noC (trimT p) := by
    intro x hx
    unfold ints at hx
    obtain ⟨y, hy, rfl⟩ := List.mem_map.1 hx
    have hy2 := split_mem 44 s p hp y (trimR_mem _ _ (trimL_mem _ _ hy))
    exact h _ (List.mem_map.2 ⟨y, hy2, rfl⟩)
  rw [noC_not this]; simp
theorem split_both (c : UInt8) (b : List UInt8) : ∀ a : List UInt8, splitB c (a ++ c :: b) = splitB c a ++ splitB c b
  | [] => by
    rw [List.nil_append, show splitB c (c :: b) = [] :: splitB c b by rw [splitB, if_pos rfl]]
    rfl
  | x :: a => by
    rw [List.cons_append, splitB, splitB, split_both c b a]
    split
    · rfl
    · have hne := split_ne c a
      cases h : splitB c a with
      | nil => exact absurd h hne
      | cons y ys => rfl
theorem wordsF_app (a b : List (List UInt8)) : wordsF (a ++ b) = wordsF a ++ wordsF b := by unfold wordsF; rw [List.map_append, List.filter_append]
theorem cls_a : closesT [(conS, [97, 44, 32, 67, 108, 111, 115, 101])] = true := by decide
theorem cls_nil : closesT [] = false := by decide
theorem cls_none {s : List UInt8} (h : noC s) : closesT [(ConS, s)] = false := by
  unfold closesT
  rw [show getT [(ConS, s)] conS = s by
    unfold getT
    rw [vals_cons, if_pos (show (lowT ConS == conS) = true by decide), show valsT [] conS = [] from rfl, Lib.join_one]]
  exact noC_words h
theorem cls_both (s : List UInt8) : closesT [(ConS, s), (conS, [67, 76, 79, 83, 69])] = true := by
  unfold closesT
  rw [show getT [(ConS, s), (conS, [67, 76, 79, 83, 69])] conS = s ++ 44 :: [32, 67, 76, 79, 83, 69] by
    unfold getT
    rw [vals_cons, if_pos (show (lowT ConS == conS) = true by decide), vals_cons, if_pos (show (lowT conS == conS) = true by decide), show valsT [] conS = [] from rfl, Lib.join_cons]
    simp [Lib.joinTail, comS]]
  unfold wordsT
  rw [split_both, wordsF_app, List.any_append, show (wordsF (splitB 44 [32, 67, 76, 79, 83, 69])).any isCls = true by decide, Bool.or_true]
/-! ### The law -/
theorem or_fin : ∀ c : Fin 256, (IntKind.wrap .u8 (bOr .u8 (c.val : Int) 32) == 99) = false → lowI (c.val : Int) ≠ 99 := by decide +kernel
theorem noC_app {a b : List UInt8} (ha : noC a) (hb : noC b) : noC (a ++ b) := by
  intro x hx
  rw [ints_app] at hx
  rcases List.mem_append.1 hx with h | h
  · exact ha x h
  · exact hb x h
def reqF (l : List Fld) : Req := ([], [], [], [], l, [])
theorem ev_a : Ev (fun n => F28 n (reqF [(conS, [97, 44, 32, 67, 108, 111, 115, 101])])) true := by
  have h := ev_Close (reqF [(conS, [97, 44, 32, 67, 108, 111, 115, 101])]) (by decide) (by decide)
  rwa [show (reqF [(conS, [97, 44, 32, 67, 108, 111, 115, 101])]).2.2.2.2.1 = [(conS, [97, 44, 32, 67, 108, 111, 115, 101])] from rfl, cls_a] at h
theorem word_loop (l : List (List UInt8)) (s w : List UInt8) (i : Nat) (hs : s.length ≤ 5000) (hw : w.length ≤ 50) (hi : i ≤ 1000)
    (hnext : noC w → Ev (fun n => F7_L2 n l (s ++ w ++ [44]) ((i + 1 : Nat) : Int)) true) :
    ∀ (d k : Nat), k + d = w.length → noC (w.take k) → Ev (fun n => F7_L4 n l s (i : Int) w (k : Int)) true := by
  intro d
  induction d with
  | zero =>
    intro k hk hn
    rw [List.take_of_length_le (by omega)] at hn
    refine Ev.step ((hnext hn).congr fun n => ?_)
    rw [F7_L4, decide_eq_false (by omega), iteB_f, grd_t _ (by omega), grd_t _ (by omega), g64 i (by omega)]
  | succ d ih =>
    intro k hk hn
    obtain ⟨N1, e1⟩ := ev_a
    have hgr : 0 ≤ (k : Int) ∧ (k : Int) < (w.length : Int) := by omega
    by_cases h1 : bt w k = 44
    · refine Ev.step ⟨N1, fun n hn' => ?_⟩
      have q := e1 n hn'
      dsimp only at q
      show F7_L4 (n + 1) l s (i : Int) w (k : Int) = _
      rw [F7_L4, decide_eq_true (by omega), iteB_t, toNat_nat, grd_t _ hgr]
      show iteB (bt w k == 44) ((F28 n (reqF [(conS, [97, 44, 32, 67, 108, 111, 115, 101])])).bind _) _ = _
      rw [bqt h1, iteB_t, q]; rfl
    · cases h2 : (IntKind.wrap .u8 (bOr .u8 (bt w k) 32) == 99) with
      | true =>
        refine Ev.step ⟨N1, fun n hn' => ?_⟩
        have q := e1 n hn'
        dsimp only at q
        show F7_L4 (n + 1) l s (i : Int) w (k : Int) = _
        rw [F7_L4, decide_eq_true (by omega), iteB_t, toNat_nat, grd_t _ hgr]
        show iteB (bt w k == 44) _ (grd _ (iteB (IntKind.wrap .u8 (bOr .u8 (bt w k) 32) == 99) ((F28 n (reqF [(conS, [97, 44, 32, 67, 108, 111, 115, 101])])).bind _) _)) = _
        rw [bq h1, iteB_f, grd_t _ hgr, h2, iteB_t, q]; rfl
      | false =>
        have hb := bt_bd w k
        have hlow : lowI (bt w k) ≠ 99 := by
          have := or_fin ⟨(bt w k).toNat, by omega⟩
          dsimp only at this
          rw [show (((bt w k).toNat : Nat) : Int) = bt w k by omega] at this
          exact this h2
        have hn2 : noC (w.take (k + 1)) := by
          intro x hx
          rw [ints_take] at hx
          have e : (ints w).take (k + 1) = (ints w).take k ++ [bt w k] := by
            have h := ints_get w k
            rw [List.getD_eq_getElem?_getD] at h
            rw [List.take_add_one]
            rw [List.getElem?_eq_getElem (by rw [ints_len]; omega)] at h ⊢
            simp only [Option.getD_some] at h
            simp [h]
          rw [e] at hx
          rcases List.mem_append.1 hx with hx | hx
          · exact hn x (by rw [ints_take]; exact hx)
          · rw [List.mem_singleton] at hx; subst hx; exact hlow
        refine Ev.step ((ih (k + 1) (by omega) hn2).congr fun n => ?_)
        rw [F7_L4, decide_eq_true (by omega), iteB_t, toNat_nat, grd_t _ hgr, g64 k (by omega)]
        show iteB (bt w k == 44) _ (grd _ (iteB (IntKind.wrap .u8 (bOr .u8 (bt w k) 32) == 99) _ _)) = _
        rw [bq h1, iteB_f, grd_t _ hgr, h2, iteB_f]
theorem closes_loop (l : List (List UInt8)) (hl : l.length ≤ 20) : ∀ (d i : Nat) (s : List UInt8), i + d = l.length → s.length ≤ 51 * i → noC s → Ev (fun n => F7_L2 n l s (i : Int)) true := by
  intro d
  induction d with
  | zero =>
    intro i s hi hs hn
    have t1 : totF [(ConS, s)] ≤ 50000 := by
      have : totF [(ConS, s)] = 10 + s.length := by simp [totF, ConS]
      omega
    have t2 : totF [(ConS, s), (conS, [67, 76, 79, 83, 69])] ≤ 50000 := by
      have : totF [(ConS, s), (conS, [67, 76, 79, 83, 69])] = 10 + s.length + 15 := by simp [totF, ConS, conS]
      omega
    obtain ⟨N1, e1⟩ := ev_Close (reqF [(ConS, s)]) (by show 1 ≤ 1000; omega) t1
    obtain ⟨N2, e2⟩ := ev_Close (reqF [(ConS, s), (conS, [67, 76, 79, 83, 69])]) (by show 2 ≤ 1000; omega) t2
    obtain ⟨N3, e3⟩ := ev_Close (reqF []) (by decide) (by decide)
    refine Ev.step ⟨N1 + N2 + N3, fun n hn' => ?_⟩
    have q1 : F28 n (reqF [(ConS, s)]) = some false := (e1 n (by omega)).trans (congrArg some (cls_none hn))
    have q2 : F28 n (reqF [(ConS, s), (conS, [67, 76, 79, 83, 69])]) = some true := (e2 n (by omega)).trans (congrArg some (cls_both s))
    have q3 : F28 n (reqF []) = some false := (e3 n (by omega)).trans (congrArg some cls_nil)
    show F7_L2 (n + 1) l s (i : Int) = _
    rw [F7_L2, decide_eq_false (by omega), iteB_f]
    show (F28 n (reqF [(ConS, s)])).bind _ = _
    rw [q1, bind_some', iteB_f, grd_t _ (by omega)]
    show (F28 n (reqF [(ConS, s), (conS, [67, 76, 79, 83, 69])])).bind _ = _
    rw [q2, bind_some', iteB_t]
    show (F28 n (reqF [])).bind _ = _
    rw [q3]; rfl
  | succ d ih =>
    intro i s hi hs hn
    have key : ∀ w : List UInt8, w.length ≤ 50 → Ev (fun n => F7_J3 n l s (i : Int) w) true := fun w hw =>
      (word_loop l s w i (by omega) hw (by omega) (fun hnw => ih (i + 1) (s ++ w ++ [44]) (by omega) (by simp; omega) (noC_app (noC_app hn hnw) (by
        intro x hx
        have : x = 44 := by simpa [ints, ofB] using hx
        subst this; decide))) w.length 0 (by omega) (by intro x hx; simp [ints] at hx)).congr fun n => by rw [F7_J3]; rfl
    by_cases h : 50 < (l.getD i default).length
    · refine Ev.step ((key ((l.getD i default).take 50) (by rw [List.length_take]; omega)).congr fun n => ?_)
      rw [F7_L2, decide_eq_true (by omega), iteB_t, toNat_nat, grd_t _ (by omega), decide_eq_true (by omega), iteB_t, grd_t _ (by omega)]
    · refine Ev.step ((key (l.getD i default) (by omega)).congr fun n => ?_)
      rw [F7_L2, decide_eq_true (by omega), iteB_t, toNat_nat, grd_t _ (by omega), decide_eq_false (by omega), iteB_f]
theorem closes_law (l : List (List UInt8)) (a : Int) : Ev (fun n => F7 n l a) true := by
  have key : ∀ l : List (List UInt8), l.length ≤ 20 → Ev (fun n => F7_J1 n l) true := fun l hl =>
    (closes_loop l hl l.length 0 [] (by omega) (by simp) (by intro x hx; simp [ints] at hx)).congr fun n => by rw [F7_J1]; rfl
  by_cases h : 20 < l.length
  · refine (key (l.take 20) (by rw [List.length_take]; omega)).congr fun n => ?_
    rw [F7, decide_eq_true (by omega), iteB_t, grd_t _ (by omega)]
  · refine (key l (by omega)).congr fun n => ?_
    rw [F7, decide_eq_false (by omega), iteB_f]
theorem law_main (v0 : List (List UInt8)) (v1 : Int) (h0 : okT56 v0) (h1 : okT3 v1) : ∃ n, F7 n v0 v1 = some true := by
  obtain ⟨N, h⟩ := closes_law v0 v1
  exact ⟨N, h N (Nat.le_refl _)⟩
end Go.Proofs.YtbdkofondpalpaaDoorX

set_option linter.unusedVariables false
namespace Go.Proofs.YtbdkofondpalpaaDoorX
open Go Go.RowKit Go.Proofs
set_option maxRecDepth 100000
theorem shapedRow (xs : List T) (h : ShapesW Tryd.prog [56, 3] xs) : FnC Tryd.prog 7 xs (tb true) := shapedRequestCloses law_main xs h
end Go.Proofs.YtbdkofondpalpaaDoorX
namespace Go.Proofs.YtbdkofondpalpaaDoor.requestCloses
open Go.ChangeShapes Go.WideShapes Go.ChangeAt Go.RowKit
set_option linter.unusedVariables false
theorem own : ownKnob Tryd.prog.godebug = none := by kernel_rfl
set_option maxRecDepth 100000 in
theorem lifted (os : Os) (started : os.Started) (H : Type) (enc : TypeId × Value → H) :
    ReturnsInHanded {} Tryd.checked os 7 .any (fun w args => (Rows.requestClosesSpec.pre enc Tryd.prog Tryd.f7 [] false w args ∧ laidMetH Tryd.prog Rows.requestClosesRow.laid w) ∧ sizedMet enc Tryd.prog Tryd.f7 (OpenSpec.ofChange Rows.requestClosesSpec) false w args) (Rows.requestClosesSpec.post enc Tryd.prog Tryd.f7 false true false false) := by
  refine returnsInHanded_of_change_and (C := Tryd.checked) (X := fun w _ => laidMetH Tryd.prog Rows.requestClosesRow.laid w) (fun _ _ _ hh h => h.of_heap hh) own started (by kernel_rfl) Tryd.func7
    (ChangeSpec.witness_shaped (enc := enc) (C := Tryd.checked) (os := os) (X := fun w _ => laidMetH Tryd.prog Rows.requestClosesRow.laid w) false (World.laidAll Tryd.prog os Rows.requestClosesRow.laid) #[.slice none 0 0, .int .i64 0] 8 (World.laidAll_os _ _ _)
      (World.shaped_of_ZipB (by kernel_rfl) (by kernel_rfl)) (by kernel_rfl) (by kernel_rfl) (by kernel_rfl)
      (by rw [MakeChecks.laidMetH_plain _ _ _ (by kernel_rfl)]; exact laidMet_laidAll _ (by kernel_rfl) (by kernel_rfl))) ?_
  intro W base args ds gs before hval0 hW _ _ hL _
  exact YtbdkofondpalpaaDoorX.row_contract (P := Tryd.prog) (fn := Tryd.f7) (s := Rows.requestClosesSpec) (ts := [56, 3]) (tb := 4) (L := [56, 3, 9]) (by kernel_rfl) (by kernel_rfl) (by kernel_rfl) (by kernel_rfl) (by kernel_rfl) (by kernel_rfl) rfl
    (fun H ds h => by
      match ds, h with
      | [d0, d1], _ => rfl) YtbdkofondpalpaaDoorX.shapedRow W base args ds gs before hval0 hW
theorem over : Rows.requestClosesRow.holds Tryd.pinned (OpenSpec.ofChange Rows.requestClosesSpec) :=
  OpenClaim.holds_of_wide 7 Tryd.f7 rfl rfl rfl rfl rfl rfl rfl ⟨rfl, rfl, rfl, rfl, rfl⟩ rfl rfl rfl rfl rfl (by kernel_rfl) Tryd.func7 (by kernel_rfl)
    (of_decide_eq_true (by kernel_rfl)) (by unfold Func.isWrapper; first | (rw [if_pos (by decide +kernel)]; kernel_rfl) | (rw [if_neg (by decide +kernel)]; exact ⟨rfl, rfl⟩))
    (fun os started H enc _ => lifted os started H enc)
theorem proved : Rows.RequestClosesCardSaid :=
  Claim7.holds_tied_plain_at .later [] [.data, .pinned] true (true, "48a05177c2816304ae20193907aa78ea5bf3c06c577e3e3e520e080529c15cb6") false
    over (fun _ h => by cases h) (by kernel_rfl) (fun _ h => by cases h) requestCloses_row_tie rfl ⟨rfl, rfl⟩ (by kernel_rfl) rfl
    (fun f fn hf hfn => by
      obtain rfl : f = 7 := Option.some.inj ((show Tryd.prog.funcNamed "shadowbox/shadowboxlaw31.RequestCloses" = some 7 by kernel_rfl).symm.trans hf) |>.symm
      obtain rfl : fn = Tryd.f7 := (Option.some.inj (Tryd.func7.symm.trans hfn)).symm
      exact ⟨by kernel_rfl, fun j t ht => by
        rw [Tryd.params7] at ht
        have hm : t ∈ [56, 3] := by simpa using Array.mem_of_getElem? ht
        have hall : ([56, 3].all fun u => !Tryd.prog.wantsStandIn u) = true := by kernel_rfl
        exact (show Tryd.prog.wantsStandIn t = false by simpa using List.all_eq_true.1 hall t hm)⟩)
    (by kernel_rfl)
#print axioms proved
end Go.Proofs.YtbdkofondpalpaaDoor.requestCloses
namespace Go.Proofs.YtbdkofondpalpaaDoor
/-- The card, under a short name, for the claim. -/
theorem requestCloses_holds : Rows.RequestClosesCardSaid := requestCloses.proved
end Go.Proofs.YtbdkofondpalpaaDoor
