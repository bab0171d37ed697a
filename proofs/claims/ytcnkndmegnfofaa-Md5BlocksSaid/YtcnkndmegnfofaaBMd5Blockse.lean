/- Part of the proof of Md5Blocks: walks and plain words, merged. -/
import Derived.Test.YtcnkndmegnfofaaBMd5Blocksc
import Derived.Test.YtcnkndmegnfofaaBMd5Blocksd
import Derived.Test.YtcnkndmegnfofaaRows
import Derived.Test.YtcnkndmegnfofaaChecked
import Derived.WalkKit
import Derived.ProofKit
import Derived.OpenShut
set_option linter.unusedVariables false
set_option linter.unusedSimpArgs false

set_option linter.unusedVariables false
set_option linter.unusedSimpArgs false
namespace Go.Proofs.YtcnkndmegnfofaaX
open Go Go.RowKit Go.Proofs
set_option maxRecDepth 100000
attribute [local go_sem ↓] stepsK_build stepsK_build0 stepsK_bs stepsK_bs0 appendS
attribute [local go_sem] String.reduceEq String.reduceNe reduceCtorEq Int.reduceEq Nat.reduceAdd Nat.reduceSub Nat.reduceMul Nat.reduceLT Nat.reduceLeDiff Nat.reduceEqDiff Nat.reduceBEq Int.reduceToNat Int.reduceLT Int.reduceLE Int.reduceGT Int.reduceGE Int.reduceAdd Int.reduceSub Int.reduceMul Int.reduceNeg Int.reduceBEq Int.reduceBNe Int.reducePow Int.reduceDiv Int.reduceMod Int.reduceTDiv Int.reduceTMod Int.reduceNatCast
/-! ### md5.Text -/
def F42_S1 (v1 : List (Int)) (x2 : Int) (x3 : List (Int)) : St := ⟨[.junk, .junk, .junk, .rsl 0 1 0 x3.length, .junk, .junk, .junk, .agg (List.map byteT v1), .imm (.int .i64 x2), .junk, .junk, .junk, .junk, .junk, .junk, .junk, .junk, .junk, .junk, .junk, .junk, .junk, .junk], [some (.buf 5 1 (List.map byteT x3) 0)]⟩
def F42_L1 : Nat → (List (Int)) → (Int) → (List (Int)) → Option (List UInt8)
  | 0, _, _, _ => none
  | m1 + 1, v1, x2, x3 => iteB (decide (x2 < (16 : Int))) (grd (0 ≤ x2 ∧ x2 < (16 : Int) ∧ x2.toNat < v1.length) (grd (0 ≤ (bShr .u8 (v1.getD x2.toNat default) 4) ∧ (bShr .u8 (v1.getD x2.toNat default) 4) < (16 : Int)) (grd (0 ≤ (IntKind.wrap .u8 (bAnd .u8 (v1.getD x2.toNat default) (15 : Int))) ∧ (IntKind.wrap .u8 (bAnd .u8 (v1.getD x2.toNat default) (15 : Int))) < (16 : Int)) (grd ((x3.length + 2) ≤ 549755813888) (F42_L1 m1 v1 (IntKind.wrap .i64 (x2 + (1 : Int))) (x3 ++ ([((([48, 49, 50, 51, 52, 53, 54, 55, 56, 57, 97, 98, 99, 100, 101, 102] : List UInt8).getD (bShr .u8 (v1.getD x2.toNat default) 4).toNat 0).toNat : Int), ((([48, 49, 50, 51, 52, 53, 54, 55, 56, 57, 97, 98, 99, 100, 101, 102] : List UInt8).getD (IntKind.wrap .u8 (bAnd .u8 (v1.getD x2.toNat default) (15 : Int))).toNat 0).toNat : Int)]))))))) (some (x3.map toB))
def F42 (n : Nat) (a0 : List (Int)) : Option (List UInt8) := (F40 n a0).bind fun v1 => F42_L1 n v1 (0 : Int) []
set_option maxHeartbeats 4000000 in
theorem F42_ok : ∀ (n : Nat) (a0 : List (Int)) (r : List UInt8), F42 n a0 = some r → FnC Try.prog 42 [.sl 1 false (List.map byteT a0)] (.imm (.string (bs r)))
  | n, a0, r, h => by
    unfold F42 at h
    refine FnC.goX mixed Try.func42 (by kernel_rfl) rfl ?_
    simp only [Try.ntmps42, List.length_cons, List.length_nil, List.replicate, List.cons_append, List.nil_append, Nat.reduceAdd, Nat.reduceSub]
    refine runX_seq ?_
    refine runX_regionC fun C hC => ?_
    try simp -implicitDefEqProofs (maxSteps := 4000000) (disch := first | omega | decide | (simp only [go_sem]; omega)) only [go_sem, ↓reduceIte]
    repeat (with_reducible refine And.intro (by first | assumption | omega | (simp; done) | (simp; omega)) ?_)
    refine toEnd hC ?_
    refine endX_seq ?_
    refine runX_seq ?_
    refine runX_regionC fun C hC => ?_
    try simp -implicitDefEqProofs (maxSteps := 4000000) (disch := first | omega | decide | (simp only [go_sem]; omega)) only [go_sem, ↓reduceIte]
    repeat (with_reducible refine And.intro (by first | assumption | omega | (simp; done) | (simp; omega)) ?_)
    refine toEnd hC ?_
    refine endX_seq ?_
    refine runX_seq ?_
    refine runX_seq ?_
    refine runX_regionC fun C hC => ?_
    obtain ⟨v1, h1, h⟩ := bnd_some h
    try simp -implicitDefEqProofs (maxSteps := 4000000) (disch := first | omega | decide | (simp only [go_sem]; omega)) only [go_sem, ↓reduceIte]
    repeat (with_reducible refine And.intro (by first | assumption | omega | (simp; done) | (simp; omega)) ?_)
    refine callG_X (by first | rfl | (simp only [go_sem]; done) | (simp only [closedL, closedT, Bool.and_true]; exact closedL_map _ (fun _ => by first | rfl | (simp only [go_sem]; done)) _)) (F40_ok n a0 _ h1) (by repeat (first | exact leL_refl _ | refine leL_cons (by first | exact leT_refl _ | exact leT_virt | exact leT_junk _ | exact leT_sl | exact leT_sln | exact leT_nil | (refine leT_agg (by repeat (first | exact leL_refl _ | refine leL_cons (by first | exact leT_refl _ | exact leT_sl | exact leT_sln | exact leT_nil) ?_)))) ?_)) ?_
    try simp -implicitDefEqProofs (maxSteps := 4000000) (disch := first | omega | decide | (simp only [go_sem]; omega)) only [go_sem, ↓reduceIte]
    repeat (with_reducible refine And.intro (by first | assumption | omega | (simp; done) | (simp; omega)) ?_)
    refine toEnd hC ?_
    refine endX_seq ?_
    refine runX_block ?_
    refine runX_loop [3, 7, 8] (fun m S => ∃ (x2 : Int) (x3 : List (Int)), S = F42_S1 v1 x2 x3 ∧ m ≤ n ∧ F42_L1 m v1 x2 x3 = some r) n ⟨F42_S1 v1 (0 : Int) [], ?_, (0 : Int), [], rfl, Nat.le_refl _, h⟩ ?_
    · (try simp -implicitDefEqProofs (maxSteps := 4000000) (disch := first | omega | decide | (simp only [go_sem]; omega)) only [go_sem, ↓reduceIte])
      simp only [F42_S1]
      refine leS_trans (leS_pad _ _ 1) ?_
      simp only [List.replicate, List.cons_append, List.nil_append]
      refine leS_virt 0 5 1 rfl ?_ ?_ rfl
      · repeat (first | exact leL_refl _ | refine leL_cons (by first | exact leT_refl _ | exact leT_virt | exact leT_junk _ | exact leT_sl | exact leT_sln | exact leT_nil | (refine leT_agg (by repeat (first | exact leL_refl _ | refine leL_cons (by first | exact leT_refl _ | exact leT_sl | exact leT_sln | exact leT_nil) ?_)))) ?_)
      · repeat (first | exact leOs_refl _ | refine leOs.cons (by first | exact leO.same _ | (refine leO.box (leT_agg (by repeat (first | exact leL_refl _ | refine leL_cons (by first | exact leT_refl _ | exact leT_virt | exact leT_junk _ | exact leT_sl | exact leT_sln | exact leT_nil | (refine leT_agg (by repeat (first | exact leL_refl _ | refine leL_cons (by first | exact leT_refl _ | exact leT_sl | exact leT_sln | exact leT_nil) ?_)))) ?_))) rfl) | (refine leO.box (by first | exact leT_virt | exact leT_sl | exact leT_sln) rfl)) ?_)
    · clear h
      rintro m1 S ⟨x2, x3, rfl, hm1, h⟩
      cases m1 with
      | zero => first | cases (show (none : Option _) = some _ from h) | (rw [F42_L1] at h; cases h)
      | succ m1 =>
        rw [F42_L1] at h
        simp only [F42_S1]
        refine runX_seq ?_
        refine runX_regionC fun C hC => ?_
        try simp -implicitDefEqProofs (maxSteps := 4000000) (disch := first | omega | decide | (simp only [go_sem]; omega)) only [go_sem, ↓reduceIte]
        repeat (with_reducible refine And.intro (by first | assumption | omega | (simp; done) | (simp; omega)) ?_)
        refine toEnd hC ?_
        refine endX_seq ?_
        refine runX_seq ?_
        rcases iteB_some h with ⟨c4, h⟩ | ⟨c4, h⟩
        · refine runX_condT rfl c4 ?_
          refine runX_skip ?_
          refine endX_seq ?_
          refine runX_seq ?_
          refine runX_block ?_
          refine runX_seq ?_
          refine runX_regionC fun C hC => ?_
          obtain ⟨g5, h⟩ := grd_some h
          try simp -implicitDefEqProofs (maxSteps := 4000000) (disch := first | omega | decide | (simp only [go_sem]; omega)) only [go_sem, ↓reduceIte]
          repeat (with_reducible refine And.intro (by first | assumption | omega | (simp; done) | (simp; omega)) ?_)
          refine toEnd hC ?_
          refine endX_seq ?_
          refine runX_drawC mixed (by kernel_rfl) fun C hC => ?_
          obtain ⟨g6, h⟩ := grd_some h
          obtain ⟨g7, h⟩ := grd_some h
          try simp -implicitDefEqProofs (maxSteps := 4000000) (disch := first | omega | decide | (simp only [go_sem]; omega)) only [go_sem, ↓reduceIte]
          repeat (with_reducible refine And.intro (by first | assumption | omega | (simp; done) | (simp; omega)) ?_)
          refine buildX_val ?_
          obtain ⟨g8, h⟩ := grd_some h
          try simp -implicitDefEqProofs (maxSteps := 4000000) (disch := first | omega | decide | (simp only [go_sem]; omega)) only [go_sem, ↓reduceIte]
          repeat (with_reducible refine And.intro (by first | assumption | omega | (simp; done) | (simp; omega)) ?_)
          refine toEnd hC ?_
          refine endX_blk ?_
          refine endX_seq ?_
          refine runX_regionC fun C hC => ?_
          try simp -implicitDefEqProofs (maxSteps := 4000000) (disch := first | omega | decide | (simp only [go_sem]; omega)) only [go_sem, ↓reduceIte]
          repeat (with_reducible refine And.intro (by first | assumption | omega | (simp; done) | (simp; omega)) ?_)
          refine toEnd hC ?_
          refine endX_q (roundQ_normal ⟨m1, by omega, F42_S1 v1 (IntKind.wrap .i64 (x2 + (1 : Int))) (x3 ++ ([((([48, 49, 50, 51, 52, 53, 54, 55, 56, 57, 97, 98, 99, 100, 101, 102] : List UInt8).getD (bShr .u8 (v1.getD x2.toNat default) 4).toNat 0).toNat : Int), ((([48, 49, 50, 51, 52, 53, 54, 55, 56, 57, 97, 98, 99, 100, 101, 102] : List UInt8).getD (IntKind.wrap .u8 (bAnd .u8 (v1.getD x2.toNat default) (15 : Int))).toNat 0).toNat : Int)])), ?_, (IntKind.wrap .i64 (x2 + (1 : Int))), (x3 ++ ([((([48, 49, 50, 51, 52, 53, 54, 55, 56, 57, 97, 98, 99, 100, 101, 102] : List UInt8).getD (bShr .u8 (v1.getD x2.toNat default) 4).toNat 0).toNat : Int), ((([48, 49, 50, 51, 52, 53, 54, 55, 56, 57, 97, 98, 99, 100, 101, 102] : List UInt8).getD (IntKind.wrap .u8 (bAnd .u8 (v1.getD x2.toNat default) (15 : Int))).toNat 0).toNat : Int)])), rfl, by omega, h⟩)
          simp only [F42_S1]
          (try simp -implicitDefEqProofs (maxSteps := 4000000) (disch := first | omega | decide | (simp only [go_sem]; omega)) only [go_sem, ↓reduceIte])
          first | exact leS_refl _ | (refine leS_le ?_ ?_ <;> first | exact leL_refl _ | exact leOs_refl _ | (simp only [List.append_assoc, List.cons_append, List.nil_append]; exact leOs_refl _) | (repeat (first | exact leL_refl _ | refine leL_cons (by first | exact leT_refl _ | exact leT_virt | exact leT_junk _ | exact leT_sl | exact leT_sln | exact leT_nil | (refine leT_agg (by repeat (first | exact leL_refl _ | refine leL_cons (by first | exact leT_refl _ | exact leT_sl | exact leT_sln | exact leT_nil) ?_)))) ?_)))
        · refine runX_condF rfl c4 ?_
          refine runX_exit ?_
          refine endX_seqE ?_
          refine endX_q (roundQ_exit ?_)
          refine endX_blkE ?_
          refine endX_seq ?_
          refine runX_seq ?_
          refine runX_regionC fun C hC => ?_
          try simp -implicitDefEqProofs (maxSteps := 4000000) (disch := first | omega | decide | (simp only [go_sem]; omega)) only [go_sem, ↓reduceIte]
          repeat (with_reducible refine And.intro (by first | assumption | omega | (simp; done) | (simp; omega)) ?_)
          refine toEnd hC ?_
          refine endX_seq ?_
          refine runX_ret ?_
          refine endX_q ?_
          obtain rfl := Option.some.inj h
          show RetW _ _ _ _ _
          simp only [RetW]
          (try simp -implicitDefEqProofs (maxSteps := 4000000) (disch := first | omega | decide | (simp only [go_sem]; omega)) only [go_sem, ↓reduceIte])
          (try simp (disch := omega) only [if_pos, Nat.sub_zero])
          exact leT_refl _
end Go.Proofs.YtcnkndmegnfofaaX

set_option linter.unusedVariables false
set_option linter.unusedSimpArgs false
namespace Go.Proofs.YtcnkndmegnfofaaX
open Go Go.RowKit Go.Proofs
set_option maxRecDepth 100000
attribute [local go_sem ↓] stepsK_build stepsK_build0 stepsK_bs stepsK_bs0 appendS
attribute [local go_sem] String.reduceEq String.reduceNe reduceCtorEq Int.reduceEq Nat.reduceAdd Nat.reduceSub Nat.reduceMul Nat.reduceLT Nat.reduceLeDiff Nat.reduceEqDiff Nat.reduceBEq Int.reduceToNat Int.reduceLT Int.reduceLE Int.reduceGT Int.reduceGE Int.reduceAdd Int.reduceSub Int.reduceMul Int.reduceNeg Int.reduceBEq Int.reduceBNe Int.reducePow Int.reduceDiv Int.reduceMod Int.reduceTDiv Int.reduceTMod Int.reduceNatCast
/-! ### shadowboxref11.Sum -/
def F41_S1 (x2 : List (Int)) (x3 : Int) (x4 : Int) (x5 : Int) (x6 : Int) (x7 : Int) : St := ⟨[.sl 1 false (List.map byteT x2), .junk, .ref 0 0 0 0, .ref 1 0 0 0, .junk, .junk, .junk, .junk, .junk, .junk, .junk, .junk, .junk, .junk, .junk, .junk, .junk], [some (.box 62 (.agg [.imm (.int .u8 (0 : Int)), .imm (.int .u8 (0 : Int)), .imm (.int .u8 (0 : Int)), .imm (.int .u8 (0 : Int)), .imm (.int .u8 (0 : Int)), .imm (.int .u8 (0 : Int)), .imm (.int .u8 (0 : Int)), .imm (.int .u8 (0 : Int)), .imm (.int .u8 (0 : Int)), .imm (.int .u8 (0 : Int)), .imm (.int .u8 (0 : Int)), .imm (.int .u8 (0 : Int)), .imm (.int .u8 (0 : Int)), .imm (.int .u8 (0 : Int)), .imm (.int .u8 (0 : Int)), .imm (.int .u8 (0 : Int))]) false), some (.box 59 (.agg [.imm (.int .u32 x3), .imm (.int .u32 x4), .imm (.int .u32 x5), .imm (.int .u32 x6), .imm (.int .u64 x7)]) false)]⟩
def F41_L1 : Nat → (List (Int)) → (Int) → (Int) → (Int) → (Int) → (Int) → Option (List (Int))
  | 0, _, _, _, _, _, _ => none
  | m1 + 1, x2, x3, x4, x5, x6, x7 => iteB (decide ((64 : Int) ≤ (x2.length : Int))) (grd ((64 : Int) ≤ (x2.length : Int)) ((F35 m1 ([x3, x4, x5, x6], x7) (x2.take 64)).bind fun v10 => grd ((64 : Int) ≤ (x2.length : Int)) (F41_L1 m1 (x2.drop 64) (v10.1.getD 0 default) (v10.1.getD 1 default) (v10.1.getD 2 default) (v10.1.getD 3 default) v10.2))) ((F37 m1 ([x3, x4, x5, x6], x7) x2).bind fun v12 => grd (v12.length = 16) (grd (16 ≤ v12.length) (some (v12.take 16))))
def F41 (n : Nat) (a0 : List (Int)) : Option (List (Int)) := (F39 n ).bind fun v1 => F41_L1 n a0 (v1.1.getD 0 default) (v1.1.getD 1 default) (v1.1.getD 2 default) (v1.1.getD 3 default) v1.2
set_option maxHeartbeats 4000000 in
theorem F41_ok : ∀ (n : Nat) (a0 : List (Int)) (r : List (Int)), F41 n a0 = some r → FnC Try.prog 41 [.sl 1 false (List.map byteT a0)] (.agg (List.map byteT r))
  | n, a0, r, h => by
    unfold F41 at h
    refine FnC.goX mixed Try.func41 (by kernel_rfl) rfl ?_
    simp only [Try.ntmps41, List.length_cons, List.length_nil, List.replicate, List.cons_append, List.nil_append, Nat.reduceAdd, Nat.reduceSub]
    refine runX_seq ?_
    refine runX_regionC fun C hC => ?_
    try simp -implicitDefEqProofs (maxSteps := 4000000) (disch := first | omega | decide | (simp only [go_sem]; omega)) only [go_sem, ↓reduceIte]
    repeat (with_reducible refine And.intro (by first | assumption | omega | (simp; done) | (simp; omega)) ?_)
    refine toEnd hC ?_
    refine endX_seq ?_
    refine runX_seq ?_
    refine runX_regionC fun C hC => ?_
    simp only [runK_region, runK_draw, liteL, liteL2, dstsL, gL, List.getD_cons_zero, List.getD_cons_succ]
    obtain ⟨v1, h1, h⟩ := bnd_some h
    try simp -implicitDefEqProofs (maxSteps := 4000000) (disch := first | omega | decide | (simp only [go_sem]; omega)) only [go_sem, ↓reduceIte]
    repeat (with_reducible refine And.intro (by first | assumption | omega | (simp; done) | (simp; omega)) ?_)
    refine callG_X (by first | rfl | (simp only [go_sem]; done) | (simp only [closedL, closedT, Bool.and_true]; exact closedL_map _ (fun _ => by first | rfl | (simp only [go_sem]; done)) _)) (F39_ok n  _ h1) (by repeat (first | exact leL_refl _ | refine leL_cons (by first | exact leT_refl _ | exact leT_virt | exact leT_junk _ | exact leT_sl | exact leT_sln | exact leT_nil | (refine leT_agg (by repeat (first | exact leL_refl _ | refine leL_cons (by first | exact leT_refl _ | exact leT_sl | exact leT_sln | exact leT_nil) ?_)))) ?_)) ?_
    try simp -implicitDefEqProofs (maxSteps := 4000000) (disch := first | omega | decide | (simp only [go_sem]; omega)) only [go_sem, ↓reduceIte]
    repeat (with_reducible refine And.intro (by first | assumption | omega | (simp; done) | (simp; omega)) ?_)
    refine toEnd hC ?_
    refine endX_seq ?_
    refine runX_seq ?_
    refine runX_block ?_
    refine runX_loop [0, 2, 3] (fun m S => ∃ (x2 : List (Int)) (x3 : Int) (x4 : Int) (x5 : Int) (x6 : Int) (x7 : Int), S = F41_S1 x2 x3 x4 x5 x6 x7 ∧ m ≤ n ∧ F41_L1 m x2 x3 x4 x5 x6 x7 = some r) n ⟨F41_S1 a0 (v1.1.getD 0 default) (v1.1.getD 1 default) (v1.1.getD 2 default) (v1.1.getD 3 default) v1.2, ?_, a0, (v1.1.getD 0 default), (v1.1.getD 1 default), (v1.1.getD 2 default), (v1.1.getD 3 default), v1.2, rfl, Nat.le_refl _, h⟩ ?_
    · simp only [F41_S1]
      (try simp -implicitDefEqProofs (maxSteps := 4000000) (disch := first | omega | decide | (simp only [go_sem]; omega)) only [go_sem, ↓reduceIte])
      first | exact leS_refl _ | (refine leS_le ?_ ?_ <;> first | exact leL_refl _ | exact leOs_refl _ | (simp only [List.append_assoc, List.cons_append, List.nil_append]; exact leOs_refl _) | (repeat (first | exact leL_refl _ | refine leL_cons (by first | exact leT_refl _ | exact leT_virt | exact leT_junk _ | exact leT_sl | exact leT_sln | exact leT_nil | (refine leT_agg (by repeat (first | exact leL_refl _ | refine leL_cons (by first | exact leT_refl _ | exact leT_sl | exact leT_sln | exact leT_nil) ?_)))) ?_)))
    · clear h
      rintro m1 S ⟨x2, x3, x4, x5, x6, x7, rfl, hm1, h⟩
      cases m1 with
      | zero => first | cases (show (none : Option _) = some _ from h) | (rw [F41_L1] at h; cases h)
      | succ m1 =>
        rw [F41_L1] at h
        simp only [F41_S1]
        refine runX_seq ?_
        refine runX_seq ?_
        refine runX_regionC fun C hC => ?_
        try simp -implicitDefEqProofs (maxSteps := 4000000) (disch := first | omega | decide | (simp only [go_sem]; omega)) only [go_sem, ↓reduceIte]
        repeat (with_reducible refine And.intro (by first | assumption | omega | (simp; done) | (simp; omega)) ?_)
        refine toEnd hC ?_
        refine endX_seq ?_
        rcases iteB_some h with ⟨c8, h⟩ | ⟨c8, h⟩
        · refine runX_condT rfl c8 ?_
          refine runX_skip ?_
          refine endX_seq ?_
          refine runX_block ?_
          refine runX_seq ?_
          refine runX_drawC mixed (by kernel_rfl) fun C hC => ?_
          obtain ⟨g9, h⟩ := grd_some h
          obtain ⟨v10, h10, h⟩ := bnd_some h
          try simp -implicitDefEqProofs (maxSteps := 4000000) (disch := first | omega | decide | (simp only [go_sem]; omega)) only [go_sem, ↓reduceIte]
          repeat (with_reducible refine And.intro (by first | assumption | omega | (simp; done) | (simp; omega)) ?_)
          refine callD_X (F35_ok m1 ([x3, x4, x5, x6], x7) (x2.take 64) _ h10) (by repeat (first | exact leL_refl _ | refine leL_cons (by first | exact leT_refl _ | exact leT_virt | exact leT_junk _ | exact leT_sl | exact leT_sln | exact leT_nil | (refine leT_agg (by repeat (first | exact leL_refl _ | refine leL_cons (by first | exact leT_refl _ | exact leT_sl | exact leT_sln | exact leT_nil) ?_)))) ?_)) ?_
          try simp -implicitDefEqProofs (maxSteps := 4000000) (disch := first | omega | decide | (simp only [go_sem]; omega)) only [go_sem, ↓reduceIte]
          repeat (with_reducible refine And.intro (by first | assumption | omega | (simp; done) | (simp; omega)) ?_)
          refine toEnd hC ?_
          refine endX_seq ?_
          refine runX_regionC fun C hC => ?_
          obtain ⟨g11, h⟩ := grd_some h
          try simp -implicitDefEqProofs (maxSteps := 4000000) (disch := first | omega | decide | (simp only [go_sem]; omega)) only [go_sem, ↓reduceIte]
          repeat (with_reducible refine And.intro (by first | assumption | omega | (simp; done) | (simp; omega)) ?_)
          refine toEnd hC ?_
          refine endX_blk ?_
          refine endX_q (roundQ_normal ⟨m1, by omega, F41_S1 (x2.drop 64) (v10.1.getD 0 default) (v10.1.getD 1 default) (v10.1.getD 2 default) (v10.1.getD 3 default) v10.2, ?_, (x2.drop 64), (v10.1.getD 0 default), (v10.1.getD 1 default), (v10.1.getD 2 default), (v10.1.getD 3 default), v10.2, rfl, by omega, h⟩)
          simp only [F41_S1]
          (try simp -implicitDefEqProofs (maxSteps := 4000000) (disch := first | omega | decide | (simp only [go_sem]; omega)) only [go_sem, ↓reduceIte])
          first | exact leS_refl _ | (refine leS_le ?_ ?_ <;> first | exact leL_refl _ | exact leOs_refl _ | (simp only [List.append_assoc, List.cons_append, List.nil_append]; exact leOs_refl _) | (repeat (first | exact leL_refl _ | refine leL_cons (by first | exact leT_refl _ | exact leT_virt | exact leT_junk _ | exact leT_sl | exact leT_sln | exact leT_nil | (refine leT_agg (by repeat (first | exact leL_refl _ | refine leL_cons (by first | exact leT_refl _ | exact leT_sl | exact leT_sln | exact leT_nil) ?_)))) ?_)))
        · refine runX_condF rfl c8 ?_
          refine runX_exit ?_
          refine endX_seqE ?_
          refine endX_q (roundQ_exit ?_)
          refine endX_blkE ?_
          refine endX_seq ?_
          refine runX_seq ?_
          refine runX_regionC fun C hC => ?_
          obtain ⟨v12, h12, h⟩ := bnd_some h
          try simp -implicitDefEqProofs (maxSteps := 4000000) (disch := first | omega | decide | (simp only [go_sem]; omega)) only [go_sem, ↓reduceIte]
          repeat (with_reducible refine And.intro (by first | assumption | omega | (simp; done) | (simp; omega)) ?_)
          refine callG_X (by first | rfl | (simp only [go_sem]; done) | (simp only [closedL, closedT, Bool.and_true]; exact closedL_map _ (fun _ => by first | rfl | (simp only [go_sem]; done)) _)) (F37_ok m1 ([x3, x4, x5, x6], x7) x2 _ h12) (by repeat (first | exact leL_refl _ | refine leL_cons (by first | exact leT_refl _ | exact leT_virt | exact leT_junk _ | exact leT_sl | exact leT_sln | exact leT_nil | (refine leT_agg (by repeat (first | exact leL_refl _ | refine leL_cons (by first | exact leT_refl _ | exact leT_sl | exact leT_sln | exact leT_nil) ?_)))) ?_)) ?_
          obtain ⟨g13, h⟩ := grd_some h
          have e14 : List.drop v12.length ([.imm (.int .u8 (0 : Int)), .imm (.int .u8 (0 : Int)), .imm (.int .u8 (0 : Int)), .imm (.int .u8 (0 : Int)), .imm (.int .u8 (0 : Int)), .imm (.int .u8 (0 : Int)), .imm (.int .u8 (0 : Int)), .imm (.int .u8 (0 : Int)), .imm (.int .u8 (0 : Int)), .imm (.int .u8 (0 : Int)), .imm (.int .u8 (0 : Int)), .imm (.int .u8 (0 : Int)), .imm (.int .u8 (0 : Int)), .imm (.int .u8 (0 : Int)), .imm (.int .u8 (0 : Int)), .imm (.int .u8 (0 : Int))] : List T) = [] := drop_all (by first | (simp only [List.length_cons, List.length_nil]; omega) | (simp; omega))
          try simp -implicitDefEqProofs (maxSteps := 4000000) (disch := first | omega | decide | (simp only [go_sem]; omega)) only [go_sem, ↓reduceIte, e14]
          repeat (with_reducible refine And.intro (by first | assumption | omega | (simp; done) | (simp; omega)) ?_)
          refine toEnd hC ?_
          refine endX_seq ?_
          refine runX_ret ?_
          refine endX_q ?_
          obtain ⟨g15, h⟩ := grd_some h
          obtain rfl := Option.some.inj h
          show RetW _ _ _ _ _
          simp only [RetW]
          (try simp -implicitDefEqProofs (maxSteps := 4000000) (disch := first | omega | decide | (simp only [go_sem]; omega)) only [go_sem, ↓reduceIte])
          repeat (with_reducible refine And.intro (by first | assumption | omega | (simp; done) | (simp; omega)) ?_)
          (try simp (disch := omega) only [if_pos, Nat.sub_zero])
          exact leT_refl _
end Go.Proofs.YtcnkndmegnfofaaX

set_option linter.unusedVariables false
set_option linter.unusedSimpArgs false
namespace Go.Proofs.YtcnkndmegnfofaaX
open Go Go.RowKit Go.Proofs
set_option maxRecDepth 100000
attribute [local go_sem ↓] stepsK_build stepsK_build0 stepsK_bs stepsK_bs0 appendS
attribute [local go_sem] String.reduceEq String.reduceNe reduceCtorEq Int.reduceEq Nat.reduceAdd Nat.reduceSub Nat.reduceMul Nat.reduceLT Nat.reduceLeDiff Nat.reduceEqDiff Nat.reduceBEq Int.reduceToNat Int.reduceLT Int.reduceLE Int.reduceGT Int.reduceGE Int.reduceAdd Int.reduceSub Int.reduceMul Int.reduceNeg Int.reduceBEq Int.reduceBNe Int.reducePow Int.reduceDiv Int.reduceMod Int.reduceTDiv Int.reduceTMod Int.reduceNatCast
/-! ### shadowboxref11.Text -/
def F43_S1 (v1 : List (Int)) (x4 : List UInt8) (x5 : Int) : St := ⟨[.junk, .junk, .junk, .ref 0 0 0 0, .imm (.string (bs x4)), .imm (.int .i64 x5), .junk, .junk, .junk, .junk, .junk, .junk, .junk, .junk, .junk, .junk, .junk, .junk, .junk, .junk, .junk, .junk, .junk, .junk, .junk, .junk, .junk, .junk, .junk, .junk, .junk, .junk, .junk, .junk, .junk, .junk], [some (.box 62 (.agg (List.map byteT v1)) false)]⟩
def F43_L1 : Nat → (List (Int)) → (List UInt8) → (Int) → Option (List UInt8)
  | 0, _, _, _ => none
  | m1 + 1, v1, x4, x5 => iteB (decide (x5 < (16 : Int))) (grd (0 ≤ x5 ∧ x5 < (16 : Int)) (grd (x5.toNat < v1.length) (grd (0 ≤ x5 ∧ x5 < (16 : Int)) (grd (x5.toNat < v1.length) (grd (0 ≤ (IntKind.wrap .u8 ((v1.getD x5.toNat default).tdiv (16 : Int))) ∧ (IntKind.wrap .u8 ((v1.getD x5.toNat default).tdiv (16 : Int))) ≤ (IntKind.wrap .u8 ((IntKind.wrap .u8 ((v1.getD x5.toNat default).tdiv (16 : Int))) + (1 : Int))) ∧ (IntKind.wrap .u8 ((IntKind.wrap .u8 ((v1.getD x5.toNat default).tdiv (16 : Int))) + (1 : Int))) ≤ (16 : Int)) (grd (x4.length + ((([48, 49, 50, 51, 52, 53, 54, 55, 56, 57, 97, 98, 99, 100, 101, 102] : List UInt8).take (IntKind.wrap .u8 ((IntKind.wrap .u8 ((v1.getD x5.toNat default).tdiv (16 : Int))) + (1 : Int))).toNat).drop (IntKind.wrap .u8 ((v1.getD x5.toNat default).tdiv (16 : Int))).toNat).length ≤ 9223372036854775807) (grd (0 ≤ x5 ∧ x5 < (16 : Int)) (grd (x5.toNat < v1.length) (grd (0 ≤ x5 ∧ x5 < (16 : Int)) (grd (x5.toNat < v1.length) (grd (0 ≤ ((v1.getD x5.toNat default).tmod (16 : Int)) ∧ ((v1.getD x5.toNat default).tmod (16 : Int)) ≤ (IntKind.wrap .u8 (((v1.getD x5.toNat default).tmod (16 : Int)) + (1 : Int))) ∧ (IntKind.wrap .u8 (((v1.getD x5.toNat default).tmod (16 : Int)) + (1 : Int))) ≤ (16 : Int)) (grd ((x4.length + ((([48, 49, 50, 51, 52, 53, 54, 55, 56, 57, 97, 98, 99, 100, 101, 102] : List UInt8).take (IntKind.wrap .u8 ((IntKind.wrap .u8 ((v1.getD x5.toNat default).tdiv (16 : Int))) + (1 : Int))).toNat).drop (IntKind.wrap .u8 ((v1.getD x5.toNat default).tdiv (16 : Int))).toNat).length) + ((([48, 49, 50, 51, 52, 53, 54, 55, 56, 57, 97, 98, 99, 100, 101, 102] : List UInt8).take (IntKind.wrap .u8 (((v1.getD x5.toNat default).tmod (16 : Int)) + (1 : Int))).toNat).drop ((v1.getD x5.toNat default).tmod (16 : Int)).toNat).length ≤ 9223372036854775807) (F43_L1 m1 v1 ((x4 ++ ((([48, 49, 50, 51, 52, 53, 54, 55, 56, 57, 97, 98, 99, 100, 101, 102] : List UInt8).take (IntKind.wrap .u8 ((IntKind.wrap .u8 ((v1.getD x5.toNat default).tdiv (16 : Int))) + (1 : Int))).toNat).drop (IntKind.wrap .u8 ((v1.getD x5.toNat default).tdiv (16 : Int))).toNat)) ++ ((([48, 49, 50, 51, 52, 53, 54, 55, 56, 57, 97, 98, 99, 100, 101, 102] : List UInt8).take (IntKind.wrap .u8 (((v1.getD x5.toNat default).tmod (16 : Int)) + (1 : Int))).toNat).drop ((v1.getD x5.toNat default).tmod (16 : Int)).toNat)) (IntKind.wrap .i64 (x5 + (1 : Int)))))))))))))))) (some x4)
def F43 (n : Nat) (a0 : List (Int)) : Option (List UInt8) := (F41 n a0).bind fun v1 => grd (v1.length = 16) (F43_L1 n v1 [] (0 : Int))
set_option maxHeartbeats 4000000 in
theorem F43_ok : ∀ (n : Nat) (a0 : List (Int)) (r : List UInt8), F43 n a0 = some r → FnC Try.prog 43 [.sl 1 false (List.map byteT a0)] (.imm (.string (bs r)))
  | n, a0, r, h => by
    unfold F43 at h
    refine FnC.goX mixed Try.func43 (by kernel_rfl) rfl ?_
    simp only [Try.ntmps43, List.length_cons, List.length_nil, List.replicate, List.cons_append, List.nil_append, Nat.reduceAdd, Nat.reduceSub]
    refine runX_seq ?_
    refine runX_regionC fun C hC => ?_
    try simp -implicitDefEqProofs (maxSteps := 4000000) (disch := first | omega | decide | (simp only [go_sem]; omega)) only [go_sem, ↓reduceIte]
    repeat (with_reducible refine And.intro (by first | assumption | omega | (simp; done) | (simp; omega)) ?_)
    refine toEnd hC ?_
    refine endX_seq ?_
    refine runX_seq ?_
    refine runX_regionC fun C hC => ?_
    obtain ⟨v1, h1, h⟩ := bnd_some h
    try simp -implicitDefEqProofs (maxSteps := 4000000) (disch := first | omega | decide | (simp only [go_sem]; omega)) only [go_sem, ↓reduceIte]
    repeat (with_reducible refine And.intro (by first | assumption | omega | (simp; done) | (simp; omega)) ?_)
    refine callG_X (by first | rfl | (simp only [go_sem]; done) | (simp only [closedL, closedT, Bool.and_true]; exact closedL_map _ (fun _ => by first | rfl | (simp only [go_sem]; done)) _)) (F41_ok n a0 _ h1) (by repeat (first | exact leL_refl _ | refine leL_cons (by first | exact leT_refl _ | exact leT_virt | exact leT_junk _ | exact leT_sl | exact leT_sln | exact leT_nil | (refine leT_agg (by repeat (first | exact leL_refl _ | refine leL_cons (by first | exact leT_refl _ | exact leT_sl | exact leT_sln | exact leT_nil) ?_)))) ?_)) ?_
    obtain ⟨g2, h⟩ := grd_some h
    have e3 : List.drop v1.length ([.imm (.int .u8 (0 : Int)), .imm (.int .u8 (0 : Int)), .imm (.int .u8 (0 : Int)), .imm (.int .u8 (0 : Int)), .imm (.int .u8 (0 : Int)), .imm (.int .u8 (0 : Int)), .imm (.int .u8 (0 : Int)), .imm (.int .u8 (0 : Int)), .imm (.int .u8 (0 : Int)), .imm (.int .u8 (0 : Int)), .imm (.int .u8 (0 : Int)), .imm (.int .u8 (0 : Int)), .imm (.int .u8 (0 : Int)), .imm (.int .u8 (0 : Int)), .imm (.int .u8 (0 : Int)), .imm (.int .u8 (0 : Int))] : List T) = [] := drop_all (by first | (simp only [List.length_cons, List.length_nil]; omega) | (simp; omega))
    try simp -implicitDefEqProofs (maxSteps := 4000000) (disch := first | omega | decide | (simp only [go_sem]; omega)) only [go_sem, ↓reduceIte, e3]
    repeat (with_reducible refine And.intro (by first | assumption | omega | (simp; done) | (simp; omega)) ?_)
    refine toEnd hC ?_
    refine endX_seq ?_
    refine runX_seq ?_
    refine runX_regionC fun C hC => ?_
    try simp -implicitDefEqProofs (maxSteps := 4000000) (disch := first | omega | decide | (simp only [go_sem]; omega)) only [go_sem, ↓reduceIte]
    repeat (with_reducible refine And.intro (by first | assumption | omega | (simp; done) | (simp; omega)) ?_)
    refine toEnd hC ?_
    refine endX_seq ?_
    refine runX_seq ?_
    refine runX_seq ?_
    refine runX_regionC fun C hC => ?_
    try simp -implicitDefEqProofs (maxSteps := 4000000) (disch := first | omega | decide | (simp only [go_sem]; omega)) only [go_sem, ↓reduceIte]
    repeat (with_reducible refine And.intro (by first | assumption | omega | (simp; done) | (simp; omega)) ?_)
    refine toEnd hC ?_
    refine endX_seq ?_
    refine runX_block ?_
    refine runX_loop [3, 4, 5] (fun m S => ∃ (x4 : List UInt8) (x5 : Int), S = F43_S1 v1 x4 x5 ∧ m ≤ n ∧ F43_L1 m v1 x4 x5 = some r) n ⟨F43_S1 v1 [] (0 : Int), ?_, [], (0 : Int), rfl, Nat.le_refl _, h⟩ ?_
    · simp only [F43_S1]
      (try simp -implicitDefEqProofs (maxSteps := 4000000) (disch := first | omega | decide | (simp only [go_sem]; omega)) only [go_sem, ↓reduceIte])
      first | exact leS_refl _ | (refine leS_le ?_ ?_ <;> first | exact leL_refl _ | exact leOs_refl _ | (simp only [List.append_assoc, List.cons_append, List.nil_append]; exact leOs_refl _) | (repeat (first | exact leL_refl _ | refine leL_cons (by first | exact leT_refl _ | exact leT_virt | exact leT_junk _ | exact leT_sl | exact leT_sln | exact leT_nil | (refine leT_agg (by repeat (first | exact leL_refl _ | refine leL_cons (by first | exact leT_refl _ | exact leT_sl | exact leT_sln | exact leT_nil) ?_)))) ?_)))
    · clear h
      rintro m1 S ⟨x4, x5, rfl, hm1, h⟩
      cases m1 with
      | zero => first | cases (show (none : Option _) = some _ from h) | (rw [F43_L1] at h; cases h)
      | succ m1 =>
        rw [F43_L1] at h
        simp only [F43_S1]
        refine runX_seq ?_
        refine runX_seq ?_
        refine runX_regionC fun C hC => ?_
        try simp -implicitDefEqProofs (maxSteps := 4000000) (disch := first | omega | decide | (simp only [go_sem]; omega)) only [go_sem, ↓reduceIte]
        repeat (with_reducible refine And.intro (by first | assumption | omega | (simp; done) | (simp; omega)) ?_)
        refine toEnd hC ?_
        refine endX_seq ?_
        rcases iteB_some h with ⟨c6, h⟩ | ⟨c6, h⟩
        · refine runX_condT rfl c6 ?_
          refine runX_skip ?_
          refine endX_seq ?_
          refine runX_seq ?_
          refine runX_block ?_
          refine runX_drawC mixed (by kernel_rfl) fun C hC => ?_
          obtain ⟨g7, h⟩ := grd_some h
          obtain ⟨g8, h⟩ := grd_some h
          obtain ⟨g9, h⟩ := grd_some h
          obtain ⟨g10, h⟩ := grd_some h
          obtain ⟨g11, h⟩ := grd_some h
          obtain ⟨g12, h⟩ := grd_some h
          obtain ⟨g13, h⟩ := grd_some h
          obtain ⟨g14, h⟩ := grd_some h
          obtain ⟨g15, h⟩ := grd_some h
          obtain ⟨g16, h⟩ := grd_some h
          obtain ⟨g17, h⟩ := grd_some h
          obtain ⟨g18, h⟩ := grd_some h
          try simp -implicitDefEqProofs (maxSteps := 4000000) (disch := first | omega | decide | (simp only [go_sem]; omega)) only [go_sem, ↓reduceIte]
          repeat (with_reducible refine And.intro (by first | assumption | omega | (simp; done) | (simp; omega)) ?_)
          refine toEnd hC ?_
          refine endX_blk ?_
          refine endX_seq ?_
          refine runX_regionC fun C hC => ?_
          try simp -implicitDefEqProofs (maxSteps := 4000000) (disch := first | omega | decide | (simp only [go_sem]; omega)) only [go_sem, ↓reduceIte]
          repeat (with_reducible refine And.intro (by first | assumption | omega | (simp; done) | (simp; omega)) ?_)
          refine toEnd hC ?_
          refine endX_q (roundQ_normal ⟨m1, by omega, F43_S1 v1 ((x4 ++ ((([48, 49, 50, 51, 52, 53, 54, 55, 56, 57, 97, 98, 99, 100, 101, 102] : List UInt8).take (IntKind.wrap .u8 ((IntKind.wrap .u8 ((v1.getD x5.toNat default).tdiv (16 : Int))) + (1 : Int))).toNat).drop (IntKind.wrap .u8 ((v1.getD x5.toNat default).tdiv (16 : Int))).toNat)) ++ ((([48, 49, 50, 51, 52, 53, 54, 55, 56, 57, 97, 98, 99, 100, 101, 102] : List UInt8).take (IntKind.wrap .u8 (((v1.getD x5.toNat default).tmod (16 : Int)) + (1 : Int))).toNat).drop ((v1.getD x5.toNat default).tmod (16 : Int)).toNat)) (IntKind.wrap .i64 (x5 + (1 : Int))), ?_, ((x4 ++ ((([48, 49, 50, 51, 52, 53, 54, 55, 56, 57, 97, 98, 99, 100, 101, 102] : List UInt8).take (IntKind.wrap .u8 ((IntKind.wrap .u8 ((v1.getD x5.toNat default).tdiv (16 : Int))) + (1 : Int))).toNat).drop (IntKind.wrap .u8 ((v1.getD x5.toNat default).tdiv (16 : Int))).toNat)) ++ ((([48, 49, 50, 51, 52, 53, 54, 55, 56, 57, 97, 98, 99, 100, 101, 102] : List UInt8).take (IntKind.wrap .u8 (((v1.getD x5.toNat default).tmod (16 : Int)) + (1 : Int))).toNat).drop ((v1.getD x5.toNat default).tmod (16 : Int)).toNat)), (IntKind.wrap .i64 (x5 + (1 : Int))), rfl, by omega, h⟩)
          simp only [F43_S1]
          (try simp -implicitDefEqProofs (maxSteps := 4000000) (disch := first | omega | decide | (simp only [go_sem]; omega)) only [go_sem, ↓reduceIte])
          first | exact leS_refl _ | (refine leS_le ?_ ?_ <;> first | exact leL_refl _ | exact leOs_refl _ | (simp only [List.append_assoc, List.cons_append, List.nil_append]; exact leOs_refl _) | (repeat (first | exact leL_refl _ | refine leL_cons (by first | exact leT_refl _ | exact leT_virt | exact leT_junk _ | exact leT_sl | exact leT_sln | exact leT_nil | (refine leT_agg (by repeat (first | exact leL_refl _ | refine leL_cons (by first | exact leT_refl _ | exact leT_sl | exact leT_sln | exact leT_nil) ?_)))) ?_)))
        · refine runX_condF rfl c6 ?_
          refine runX_exit ?_
          refine endX_seqE ?_
          refine endX_q (roundQ_exit ?_)
          refine endX_blkE ?_
          refine endX_seq ?_
          refine runX_seq ?_
          refine runX_regionC fun C hC => ?_
          try simp -implicitDefEqProofs (maxSteps := 4000000) (disch := first | omega | decide | (simp only [go_sem]; omega)) only [go_sem, ↓reduceIte]
          repeat (with_reducible refine And.intro (by first | assumption | omega | (simp; done) | (simp; omega)) ?_)
          refine toEnd hC ?_
          refine endX_seq ?_
          refine runX_ret ?_
          refine endX_q ?_
          obtain rfl := Option.some.inj h
          show RetW _ _ _ _ _
          simp only [RetW]
          (try simp -implicitDefEqProofs (maxSteps := 4000000) (disch := first | omega | decide | (simp only [go_sem]; omega)) only [go_sem, ↓reduceIte])
          (try simp (disch := omega) only [if_pos, Nat.sub_zero])
          exact leT_refl _
end Go.Proofs.YtcnkndmegnfofaaX

/- MD5: sums and digits, plainly. -/
set_option linter.unusedVariables false
set_option linter.unusedSimpArgs false
namespace Go.Proofs.YtcnkndmegnfofaaX
open Go

def s0 : Q4 := (1732584193, 4023233417, 2562383102, 271733878)
theorem R4_s0 : R4 s0 := ⟨⟨by decide, by decide⟩, ⟨by decide, by decide⟩, ⟨by decide, by decide⟩, ⟨by decide, by decide⟩⟩
/-- So many blocks, and the end. -/
def sumL : Nat → List Int → Q4 → Int → List Int
  | 0, b, s, m => endS s m b
  | k + 1, b, s, m => if 64 ≤ b.length then sumL k (b.drop 64) (blkS (b.take 64) s) (IntKind.wrap .u64 (m + 64)) else endS s m b
def sumS (b : List Int) : List Int := sumL b.length b s0 0
theorem sumL_len : ∀ (k : Nat) (b : List Int) (s : Q4) (m : Int), (sumL k b s m).length = 16
  | 0, b, s, m => end_len _ _ _
  | k + 1, b, s, m => by
    unfold sumL
    split
    · exact sumL_len k _ _ _
    · exact end_len _ _ _
theorem sumL_bytes : ∀ (k : Nat) (b : List Int) (s : Q4) (m : Int), Bytes (sumL k b s m)
  | 0, b, s, m => end_bytes _ _ _
  | k + 1, b, s, m => by
    unfold sumL
    split
    · exact sumL_bytes k _ _ _
    · exact end_bytes _ _ _
theorem ev_p1 : ∀ (k : Nat) (b : List Int) (s : Q4) (m : Int), Bytes b → R4 s → b.length ≤ k → Ev (fun n => F40_L1 n b s.1 s.2.1 s.2.2.1 s.2.2.2 m) (sumL k b s m) := by
  have fin : ∀ (b : List Int) (s : Q4) (m : Int), Bytes b → R4 s → b.length < 64 → Ev (fun n => F40_L1 n b s.1 s.2.1 s.2.2.1 s.2.2.2 m) (endS s m b) := by
    intro b s m hb hs h
    have he := ev_End hb s hs m
    rw [List.take_of_length_le (by omega)] at he
    refine Ev.step ((he.bind (g := fun n v => grd (v.length = 16) (grd (16 ≤ v.length) (some (v.take 16)))) (Ev.const ?_)).congr fun n => ?_)
    · have hl := end_len s m b
      rw [grd_t _ hl, grd_t _ (by omega), List.take_of_length_le (by omega)]
    · rw [F40_L1, decide_eq_false (by omega), iteB_f]
      rfl
  intro k
  induction k with
  | zero => intro b s m hb hs h; exact fin b s m hb hs (by omega)
  | succ k ih =>
    intro b s m hb hs h
    unfold sumL
    by_cases h64 : 64 ≤ b.length
    · rw [if_pos h64]
      have hbk : (b.take 64).length = 64 := by rw [List.length_take]; omega
      refine Ev.step (((ev_Block (hb.take 64) hbk s hs m).bind (g := fun n v => F40_L1 n (b.drop 64) (v.1.getD 0 0) (v.1.getD 1 0) (v.1.getD 2 0) (v.1.getD 3 0) v.2) (ih (b.drop 64) (blkS (b.take 64) s) (IntKind.wrap .u64 (m + 64)) (hb.drop 64) (R4.blk _ _) (by rw [List.length_drop]; omega))).congr fun n => ?_)
      rw [F40_L1, decide_eq_true (by omega), iteB_t, grd_t _ (by omega), grd_t _ (by omega), List.take_of_length_le (Nat.le_of_eq hbk)]
      show Option.bind (_) _ = Option.bind _ _
      congr 1
      funext v
      rw [grd_t _ (by omega)]
      rfl
    · rw [if_neg h64]; exact fin b s m hb hs (by omega)
theorem ev_r1 : ∀ (k : Nat) (b : List Int) (s : Q4) (m : Int), Bytes b → R4 s → b.length ≤ k → Ev (fun n => F41_L1 n b s.1 s.2.1 s.2.2.1 s.2.2.2 m) (sumL k b s m) := by
  have fin : ∀ (b : List Int) (s : Q4) (m : Int), Bytes b → R4 s → b.length < 64 → Ev (fun n => F41_L1 n b s.1 s.2.1 s.2.2.1 s.2.2.2 m) (endS s m b) := by
    intro b s m hb hs h
    have he := ev_rEnd hb s hs m
    rw [List.take_of_length_le (by omega)] at he
    refine Ev.step ((he.bind (g := fun n v => grd (v.length = 16) (grd (16 ≤ v.length) (some (v.take 16)))) (Ev.const ?_)).congr fun n => ?_)
    · have hl := end_len s m b
      rw [grd_t _ hl, grd_t _ (by omega), List.take_of_length_le (by omega)]
    · rw [F41_L1, decide_eq_false (by omega), iteB_f]
      rfl
  intro k
  induction k with
  | zero => intro b s m hb hs h; exact fin b s m hb hs (by omega)
  | succ k ih =>
    intro b s m hb hs h
    unfold sumL
    by_cases h64 : 64 ≤ b.length
    · rw [if_pos h64]
      have hbk : (b.take 64).length = 64 := by rw [List.length_take]; omega
      refine Ev.step (((ev_rBlock (hb.take 64) hbk s hs m).bind (g := fun n v => F41_L1 n (b.drop 64) (v.1.getD 0 0) (v.1.getD 1 0) (v.1.getD 2 0) (v.1.getD 3 0) v.2) (ih (b.drop 64) (blkS (b.take 64) s) (IntKind.wrap .u64 (m + 64)) (hb.drop 64) (R4.blk _ _) (by rw [List.length_drop]; omega))).congr fun n => ?_)
      rw [F41_L1, decide_eq_true (by omega), iteB_t, grd_t _ (by omega)]
      show Option.bind (_) _ = Option.bind _ _
      congr 1
      funext v
      rw [grd_t _ (by omega)]
      rfl
    · rw [if_neg h64]; exact fin b s m hb hs (by omega)
theorem ev_Sum {b : List Int} (hb : Bytes b) : Ev (fun n => F40 n b) (sumS b) := by
  refine (ev_p1 b.length b s0 0 hb R4_s0 (Nat.le_refl _)).congr fun n => ?_
  rw [F40]; rfl
theorem ev_rSum {b : List Int} (hb : Bytes b) : Ev (fun n => F41 n b) (sumS b) := by
  refine (ev_r1 b.length b s0 0 hb R4_s0 (Nat.le_refl _)).congr fun n => ?_
  rw [F41]; rfl
/-! Digits. -/
def dgt (k : Nat) : UInt8 := ([48, 49, 50, 51, 52, 53, 54, 55, 56, 57, 97, 98, 99, 100, 101, 102] : List UInt8).getD k 0
def txt2 (c : Int) : List UInt8 := [dgt (c / 16).toNat, dgt (c % 16).toNat]
def txtS (l : List Int) : List UInt8 := l.flatMap txt2
theorem txt_len : ∀ l : List Int, (txtS l).length = 2 * l.length
  | [] => rfl
  | c :: l => by
    have := txt_len l
    unfold txtS at this ⊢
    rw [List.flatMap_cons, List.length_append, this, List.length_cons]
    show 2 + _ = _
    omega
theorem txt_snoc (l : List Int) (c : Int) : txtS (l ++ [c]) = txtS l ++ txt2 c := by unfold txtS; rw [List.flatMap_append, List.flatMap_cons, List.flatMap_nil, List.append_nil]
theorem toB_nat (c : UInt8) : toB (c.toNat : Int) = c := by
  show UInt8.ofNat ((c.toNat : Int)).toNat = c
  rw [toNat_nat]; simp
theorem hi4 {c : Int} (h : 0 ≤ c ∧ c ≤ 255) : bShr .u8 c 4 = c / 16 := bShr_div .u8 c 4 16 (by decide) (by decide)
theorem lo4 {c : Int} (h : 0 ≤ c ∧ c ≤ 255) : IntKind.wrap .u8 (bAnd .u8 c 15) = c % 16 := by
  rw [bAnd_low .u8 4 c h.1 (by show c < 256; omega) (by decide) 15 (by decide), wu8 (by omega)]
  rfl
theorem take_snoc {l : List Int} {i : Nat} (h : i < l.length) : l.take (i + 1) = l.take i ++ [l.getD i 0] := by
  rw [List.take_succ_eq_append_getElem h, List.getD_eq_getElem?_getD, List.getElem?_eq_getElem h]; rfl
theorem ev_t1 {v : List Int} (hv : Bytes v) (hl : v.length = 16) : ∀ (r i : Nat) (x : List Int), i + r = 16 → x.length = 2 * i → x.map toB = txtS (v.take i) → Ev (fun n => F42_L1 n v (i : Int) x) (txtS v)
  | 0, i, x, hi, hx, he => by
    rw [List.take_of_length_le (by omega)] at he
    refine Ev.step ((Ev.const (x := some (txtS v)) rfl).congr fun n => ?_)
    rw [F42_L1, decide_eq_false (by omega), iteB_f, he]
  | r + 1, i, x, hi, hx, he => by
    have hc := hv.getD i
    refine Ev.step ((ev_t1 hv hl r (i + 1) (x ++ [((dgt (v.getD i 0 / 16).toNat).toNat : Int), ((dgt (v.getD i 0 % 16).toNat).toNat : Int)]) (by omega) (by simp [hx]; omega) ?_).congr fun n => ?_)
    · rw [take_snoc (by omega), txt_snoc, List.map_append, he]
      congr 1
      simp only [List.map_cons, List.map_nil, toB_nat]
      rfl
    · rw [F42_L1, decide_eq_true (by omega), iteB_t, toNat_nat, int_default, hi4 hc, lo4 hc, grd_t _ (by omega), grd_t _ (by omega), grd_t _ (by omega), grd_t _ (by omega), g64 i (by omega)]
      rfl
theorem cut1 (k : Nat) (h : k < 16) : (([48, 49, 50, 51, 52, 53, 54, 55, 56, 57, 97, 98, 99, 100, 101, 102] : List UInt8).take (k + 1)).drop k = [dgt k] := by
  have : ∀ k : Fin 16, (([48, 49, 50, 51, 52, 53, 54, 55, 56, 57, 97, 98, 99, 100, 101, 102] : List UInt8).take (k.val + 1)).drop k.val = [dgt k.val] := by decide
  exact this ⟨k, h⟩
theorem ev_rt1 {v : List Int} (hv : Bytes v) (hl : v.length = 16) : ∀ (r i : Nat) (x : List UInt8), i + r = 16 → x = txtS (v.take i) → Ev (fun n => F43_L1 n v x (i : Int)) (txtS v)
  | 0, i, x, hi, he => by
    rw [List.take_of_length_le (by omega)] at he
    refine Ev.step ((Ev.const (x := some (txtS v)) rfl).congr fun n => ?_)
    rw [F43_L1, decide_eq_false (by omega), iteB_f, he]
  | r + 1, i, x, hi, he => by
    have hc := hv.getD i
    have hx : x.length ≤ 32 := by rw [he, txt_len, List.length_take]; omega
    obtain ⟨a, ha⟩ : ∃ a : Nat, v.getD i 0 / 16 = (a : Int) := ⟨(v.getD i 0 / 16).toNat, by omega⟩
    obtain ⟨b, hb⟩ : ∃ b : Nat, v.getD i 0 % 16 = (b : Int) := ⟨(v.getD i 0 % 16).toNat, by omega⟩
    have hd : IntKind.wrap .u8 ((v.getD i 0).tdiv 16) = (a : Int) := by
      rw [Int.tdiv_eq_ediv_of_nonneg hc.1, ha, wu8 (by omega)]
    have hm : (v.getD i 0).tmod 16 = (b : Int) := by rw [Int.tmod_eq_emod_of_nonneg hc.1, hb]
    have hd1 : IntKind.wrap .u8 ((a : Int) + 1) = ((a + 1 : Nat) : Int) := by rw [wu8 (by omega)]; omega
    have hm1 : IntKind.wrap .u8 ((b : Int) + 1) = ((b + 1 : Nat) : Int) := by rw [wu8 (by omega)]; omega
    refine Ev.step ((ev_rt1 hv hl r (i + 1) ((x ++ [dgt a]) ++ [dgt b]) (by omega) ?_).congr fun n => ?_)
    · rw [take_snoc (by omega), txt_snoc, he]
      unfold txt2
      rw [ha, hb, toNat_nat, toNat_nat, List.append_assoc]; rfl
    · rw [F43_L1, decide_eq_true (by omega), iteB_t]
      simp only [toNat_nat, int_default, hd, hm, hd1, hm1]
      rw [cut1 a (by omega), cut1 b (by omega)]
      simp only [List.length_cons, List.length_nil]
      repeat rw [grd_t _ (by omega)]
      rw [g64 i (by omega)]
theorem ev_Text {b : List Int} (hb : Bytes b) : Ev (fun n => F42 n b) (txtS (sumS b)) := by
  refine ((ev_Sum hb).bind (g := fun n v => F42_L1 n v ((0 : Nat) : Int) []) (ev_t1 (sumL_bytes _ _ _ _) (sumL_len _ _ _ _) 16 0 [] rfl rfl rfl)).congr fun n => ?_
  rw [F42]; rfl
theorem ev_rText {b : List Int} (hb : Bytes b) : Ev (fun n => F43 n b) (txtS (sumS b)) := by
  refine ((ev_rSum hb).bind (g := fun n v => grd (v.length = 16) (F43_L1 n v [] ((0 : Nat) : Int))) ?_).congr fun n => ?_
  · exact (ev_rt1 (sumL_bytes _ _ _ _) (sumL_len _ _ _ _) 16 0 [] rfl rfl).congr fun n => grd_t _ (sumL_len _ _ _ _)
  · rw [F43]; rfl
theorem sum_abc : txtS (sumS [97, 98, 99]) = [57, 48, 48, 49, 53, 48, 57, 56, 51, 99, 100, 50, 52, 102, 98, 48, 100, 54, 57, 54, 51, 102, 55, 100, 50, 56, 101, 49, 55, 102, 55, 50] := by decide +kernel
theorem sum_nil : (sumS []).getD 0 0 = 212 := by decide +kernel
end Go.Proofs.YtcnkndmegnfofaaX

/- Md5Blocks, plainly. -/
set_option linter.unusedVariables false
set_option linter.unusedSimpArgs false
namespace Go.Proofs.YtcnkndmegnfofaaX
open Go

theorem blocks_j {s : Q4} {m : Int} {b r : List Int} (hs : R4 s) (hb : Bytes b) (hl : b.length = 64) (hr : Bytes r) : Ev (fun n => F9_J1 n (l4 s, m) b r) true := by
  have ht : b.take 64 = b := List.take_of_length_le (by omega)
  obtain ⟨N1, h1⟩ := ev_Block hb hl s hs m
  obtain ⟨N2, h2⟩ := ev_rBlock hb hl s hs m
  obtain ⟨N3, h3⟩ := ev_End hr s hs m
  obtain ⟨N4, h4⟩ := ev_rEnd hr s hs m
  refine ⟨N1 + N2 + N3 + N4, fun n hn => ?_⟩
  have q1 := h1 n (by omega)
  have q2 := h2 n (by omega)
  have q3 := h3 n (by omega)
  have q4 := h4 n (by omega)
  dsimp only at q1 q2 q3 q4
  show F9_J1 n (l4 s, m) b r = _
  rw [F9_J1, grd_t _ (by omega), ht, q1, bind_some', grd_t _ hl, q2, bind_some']
  simp only [beq_self_eq_true, Bool.and_true, iteB_t]
  rw [q3, bind_some', q4, bind_some', grd_t _ ⟨end_len _ _ _, end_len _ _ _⟩]
  simp only [beq_self_eq_true, Bool.and_true, iteB_t]
  rfl
theorem law_main (v0 : List Int × Int) (v1 v2 : List Int) (h0 : okT56 v0) (h1 : okT58 v1) (h2 : okT39 v2) : ∃ n, F9 n v0 v1 v2 = some true := by
  obtain ⟨w, m⟩ := v0
  obtain ⟨⟨hw, hwb⟩, hm⟩ := h0
  have hb : Bytes v1 := fun x hx => h1.2 x hx
  have hr : Bytes v2 := fun x hx => h2.2 x hx
  match w, hw, hwb with
  | [a, b, c, d], _, hwb =>
    have hs : R4 (a, b, c, d) := ⟨hwb a (by simp), hwb b (by simp), hwb c (by simp), hwb d (by simp)⟩
    have key : Ev (fun n => F9 n ([a, b, c, d], m) v1 v2) true := by
      by_cases h : (100 : Int) < (v2.length : Int)
      · refine (blocks_j (s := (a, b, c, d)) (m := m) hs hb h1.1 (hr.take 100)).congr fun n => ?_
        rw [F9, decide_eq_true h, iteB_t, grd_t _ (by omega)]
        rfl
      · refine (blocks_j (s := (a, b, c, d)) (m := m) hs hb h1.1 hr).congr fun n => ?_
        rw [F9, decide_eq_false h, iteB_f]
        rfl
    obtain ⟨N, h⟩ := key
    exact ⟨N, h N (Nat.le_refl _)⟩
end Go.Proofs.YtcnkndmegnfofaaX

set_option linter.unusedVariables false
namespace Go.Proofs.YtcnkndmegnfofaaX
open Go Go.RowKit Go.Proofs
set_option maxRecDepth 100000
theorem shapedRow (xs : List T) (h : ShapesW Try.prog [57, 58, 39] xs) : FnC Try.prog 9 xs (tb true) := shapedMd5Blocks law_main xs h
end Go.Proofs.YtcnkndmegnfofaaX
namespace Go.Proofs.Ytcnkndmegnfofaa.md5Blocks
open Go.ChangeShapes Go.WideShapes Go.ChangeAt Go.RowKit
set_option linter.unusedVariables false
theorem own : ownKnob Try.prog.godebug = none := by kernel_rfl
set_option maxRecDepth 100000 in
theorem lifted (os : Os) (started : os.Started) (H : Type) (enc : TypeId × Value → H) :
    ReturnsInHanded {} Try.checked os 9 .any (Rows.md5BlocksSpec.pre6 enc Try.prog Try.f9 Rows.md5BlocksRow.domain false) (Rows.md5BlocksSpec.post enc Try.prog Try.f9 false true false false) := by
  refine returnsInHanded_of_change_sized (C := Try.checked) own started (by kernel_rfl) Try.func9
    (ChangeSpec.witness6 (enc := enc) (C := Try.checked) false ⟨#[], #[.agg #[.int .u32 0, .int .u32 0, .int .u32 0, .int .u32 0, .int .u64 0], .agg #[.int .u8 0, .int .u8 0, .int .u8 0, .int .u8 0, .int .u8 0, .int .u8 0, .int .u8 0, .int .u8 0, .int .u8 0, .int .u8 0, .int .u8 0, .int .u8 0, .int .u8 0, .int .u8 0, .int .u8 0, .int .u8 0, .int .u8 0, .int .u8 0, .int .u8 0, .int .u8 0, .int .u8 0, .int .u8 0, .int .u8 0, .int .u8 0, .int .u8 0, .int .u8 0, .int .u8 0, .int .u8 0, .int .u8 0, .int .u8 0, .int .u8 0, .int .u8 0, .int .u8 0, .int .u8 0, .int .u8 0, .int .u8 0, .int .u8 0, .int .u8 0, .int .u8 0, .int .u8 0, .int .u8 0, .int .u8 0, .int .u8 0, .int .u8 0, .int .u8 0, .int .u8 0, .int .u8 0, .int .u8 0, .int .u8 0, .int .u8 0, .int .u8 0, .int .u8 0, .int .u8 0, .int .u8 0, .int .u8 0, .int .u8 0, .int .u8 0, .int .u8 0, .int .u8 0, .int .u8 0, .int .u8 0, .int .u8 0, .int .u8 0, .int .u8 0], .slice none 0 0], []⟩ 8 (by kernel_rfl) (by kernel_rfl) (by kernel_rfl) (by kernel_rfl)) ?_
  intro W base args ds gs before hval0 hW hcnd hsz0 _
  exact YtcnkndmegnfofaaX.row_contract (P := Try.prog) (fn := Try.f9) (s := Rows.md5BlocksSpec) (ts := [57, 58, 39]) (tb := 4) (L := [57, 58, 39, 56, 5, 54, 55, 53]) (by kernel_rfl) (by kernel_rfl) (by kernel_rfl) (by kernel_rfl) (by kernel_rfl) (by kernel_rfl) rfl
    (fun H ds h => by
      match ds, h with
      | [d0, d1, d2], _ => rfl) YtcnkndmegnfofaaX.shapedRow W base args ds gs before hval0 hW
theorem over : Rows.md5BlocksRow.holds Try.pinned (OpenSpec.ofChange Rows.md5BlocksSpec) :=
  OpenClaim.holds_of_wide 9 Try.f9 rfl rfl rfl rfl rfl rfl rfl ⟨rfl, rfl, rfl, rfl, rfl⟩ rfl rfl rfl rfl rfl (by kernel_rfl) Try.func9 (by kernel_rfl)
    (of_decide_eq_true (by kernel_rfl)) (by unfold Func.isWrapper; first | (rw [if_pos (by decide +kernel)]; kernel_rfl) | (rw [if_neg (by decide +kernel)]; exact ⟨rfl, rfl⟩))
    (fun os started H enc _ => lifted os started H enc)
theorem proved : Rows.Md5BlocksSaid := over
#print axioms proved
end Go.Proofs.Ytcnkndmegnfofaa.md5Blocks
namespace Go.Proofs.Ytcnkndmegnfofaa
/-- The row, under a short name, for the claim. -/
theorem md5Blocks_holds : Rows.Md5BlocksSaid := md5Blocks.proved
end Go.Proofs.Ytcnkndmegnfofaa
