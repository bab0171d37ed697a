/- Part of the proof of EtagCounts: walks and plain words, merged. -/
import Derived.Test.YtaiapalhdejngaaBEtagCountsc
import Derived.Test.YtaiapalhdejngaaBEtagCountsb
set_option linter.unusedVariables false
set_option linter.unusedSimpArgs false

set_option linter.unusedVariables false
set_option linter.unusedSimpArgs false
namespace Go.Proofs.YtaiapalhdejngaaX
open Go Go.RowKit Go.Proofs
set_option maxRecDepth 100000
attribute [local go_sem ↓] stepsK_build stepsK_bs appendS
attribute [local go_sem] String.reduceEq String.reduceNe reduceCtorEq Int.reduceEq Nat.reduceAdd Nat.reduceSub Nat.reduceMul Nat.reduceLT Nat.reduceLeDiff Nat.reduceEqDiff Nat.reduceBEq Int.reduceToNat Int.reduceLT Int.reduceLE Int.reduceGT Int.reduceGE Int.reduceAdd Int.reduceSub Int.reduceMul Int.reduceNeg Int.reduceBEq Int.reduceBNe Int.reducePow Int.reduceDiv Int.reduceMod Int.reduceTDiv Int.reduceTMod Int.reduceNatCast
/-! ### internal/stringslite.Index -/
def F114 (n : Nat) (a0 : List UInt8) (a1 : List UInt8) : Option (Int) := iteB ((a1.length : Int) == (0 : Int)) (some (0 : Int)) (iteB (a1 == a0) (some (0 : Int)) (iteB ((a1.length : Int) == (1 : Int)) (grd ((0 : Int) < (a1.length : Int)) ((F113 n a0 ((a1.getD (0 : Int).toNat 0).toNat : Int)).bind fun v5 => some v5)) (iteB (decide ((a0.length : Int) ≤ (a1.length : Int))) (some (-1 : Int)) (none))))
set_option maxHeartbeats 4000000 in
theorem F114_ok : ∀ (n : Nat) (a0 : List UInt8) (a1 : List UInt8) (r : Int), F114 n a0 a1 = some r → FnC Try.prog 114 [.imm (.string (bs a0)), .imm (.string (bs a1))] (.imm (.int .i64 r))
 | n, a0, a1, r, h => by
  unfold F114 at h
  refine FnC.goX mixed Try.func114 (by kernel_rfl) rfl ?_
  simp only [Try.ntmps114, List.length_cons, List.length_nil, List.replicate, List.cons_append, List.nil_append, Nat.reduceAdd, Nat.reduceSub]
  refine runX_seq ?_
  refine runX_regionC fun C hC => ?_
  try simp -implicitDefEqProofs (disch := omega) only [go_sem, ↓reduceIte]
  refine toEnd hC ?_
  refine endX_seq ?_
  refine runX_seq ?_
  refine runX_regionC fun C hC => ?_
  try simp -implicitDefEqProofs (disch := omega) only [go_sem, ↓reduceIte]
  refine toEnd hC ?_
  refine endX_seq ?_
  refine runX_seq ?_
  refine runX_block ?_
  refine runX_seq ?_
  refine runX_regionC fun C hC => ?_
  try simp -implicitDefEqProofs (disch := omega) only [go_sem, ↓reduceIte]
  rcases iteB_some h with ⟨c1, h⟩ | ⟨c1, h⟩
  ·refine guardK_F c1 ?_
   try simp -implicitDefEqProofs (disch := omega) only [go_sem, ↓reduceIte]
   refine toEnd hC ?_
   refine endX_seq ?_
   refine runX_condT rfl rfl ?_
   refine runX_seq ?_
   refine runX_regionC fun C hC => ?_
   try simp -implicitDefEqProofs (disch := omega) only [go_sem, ↓reduceIte]
   refine toEnd hC ?_
   refine endX_seq ?_
   refine runX_ret ?_
   refine endX_blkR ?_
   refine endX_seqR ?_
   refine endX_q ?_
   obtain rfl := Option.some.inj h
   show RetW _ _ _ _ _
   simp only [RetW]
   (try simp -implicitDefEqProofs (disch := omega) only [go_sem, ↓reduceIte])
   (try simp (disch := omega) only [if_pos, Nat.sub_zero])
   exact leT_refl _
  ·refine guardK_T c1 ?_
   try simp -implicitDefEqProofs (disch := omega) only [go_sem, ↓reduceIte]
   refine toEnd hC ?_
   refine endX_seq ?_
   rcases iteB_some h with ⟨c2, h⟩ | ⟨c2, h⟩
   ·refine runX_condT rfl c2 ?_
    refine runX_seq ?_
    refine runX_regionC fun C hC => ?_
    try simp -implicitDefEqProofs (disch := omega) only [go_sem, ↓reduceIte]
    refine toEnd hC ?_
    refine endX_seq ?_
    refine runX_ret ?_
    refine endX_blkR ?_
    refine endX_seqR ?_
    refine endX_q ?_
    obtain rfl := Option.some.inj h
    show RetW _ _ _ _ _
    simp only [RetW]
    (try simp -implicitDefEqProofs (maxSteps := 4000000) (disch := first | omega | decide | (simp only [go_sem]; omega)) only [go_sem, ↓reduceIte])
    (try simp (disch := omega) only [if_pos, Nat.sub_zero])
    exact leT_refl _
   ·refine runX_condF rfl c2 ?_
    refine runX_seq ?_
    refine runX_regionC fun C hC => ?_
    try simp -implicitDefEqProofs (maxSteps := 4000000) (disch := first | omega | decide | (simp only [go_sem]; omega)) only [go_sem, ↓reduceIte]
    repeat (with_reducible refine And.intro (by first | assumption | omega | (simp; done) | (simp; omega)) ?_)
    refine toEnd hC ?_
    refine endX_seq ?_
    rcases iteB_some h with ⟨c3, h⟩ | ⟨c3, h⟩
    ·refine runX_condT rfl c3 ?_
     refine runX_seq ?_
     refine runX_regionC fun C hC => ?_
     obtain ⟨g4, h⟩ := grd_some h
     obtain ⟨v5, h5, h⟩ := bnd_some h
     try simp -implicitDefEqProofs (maxSteps := 4000000) (disch := first | omega | decide | (simp only [go_sem]; omega)) only [go_sem, ↓reduceIte]
     repeat (with_reducible refine And.intro (by first | assumption | omega | (simp; done) | (simp; omega)) ?_)
     refine callG_X (by first | rfl | (simp only [go_sem]; done) | (simp only [closedL, closedT, Bool.and_true]; exact closedL_map _ (fun _ => by first | rfl | (simp only [go_sem]; done)) _)) (F113_ok n a0 ((a1.getD (0 : Int).toNat 0).toNat : Int) _ h5) (by repeat (first | exact leL_refl _ | refine leL_cons (by first | exact leT_refl _ | exact leT_virt | exact leT_junk _ | exact leT_sl | exact leT_sln | exact leT_nil | (refine leT_agg (by repeat (first | exact leL_refl _ | refine leL_cons (by first | exact leT_refl _ | exact leT_sl | exact leT_sln | exact leT_nil) ?_)))) ?_)) ?_
     try simp -implicitDefEqProofs (maxSteps := 4000000) (disch := first | omega | decide | (simp only [go_sem]; omega)) only [go_sem, ↓reduceIte]
     repeat (with_reducible refine And.intro (by first | assumption | omega | (simp; done) | (simp; omega)) ?_)
     refine toEnd hC ?_
     refine endX_seq ?_
     refine runX_ret ?_
     refine endX_blkR ?_
     refine endX_seqR ?_
     refine endX_q ?_
     obtain rfl := Option.some.inj h
     show RetW _ _ _ _ _
     simp only [RetW]
     (try simp -implicitDefEqProofs (disch := omega) only [go_sem, ↓reduceIte])
     (try simp (disch := omega) only [if_pos, Nat.sub_zero])
     exact leT_refl _
    ·refine runX_condF rfl c3 ?_
     refine runX_seq ?_
     refine runX_regionC fun C hC => ?_
     try simp -implicitDefEqProofs (disch := omega) only [go_sem, ↓reduceIte]
     refine toEnd hC ?_
     refine endX_seq ?_
     rcases iteB_some h with ⟨c6, h⟩ | ⟨c6, h⟩
     ·refine runX_condT rfl c6 ?_
      refine runX_seq ?_
      refine runX_regionC fun C hC => ?_
      try simp -implicitDefEqProofs (disch := omega) only [go_sem, ↓reduceIte]
      refine toEnd hC ?_
      refine endX_seq ?_
      refine runX_ret ?_
      refine endX_blkR ?_
      refine endX_seqR ?_
      refine endX_q ?_
      obtain rfl := Option.some.inj h
      show RetW _ _ _ _ _
      simp only [RetW]
      (try simp -implicitDefEqProofs (disch := omega) only [go_sem, ↓reduceIte])
      (try simp (disch := omega) only [if_pos, Nat.sub_zero])
      exact leT_refl _
     ·refine runX_condF rfl c6 ?_
      cases h
end Go.Proofs.YtaiapalhdejngaaX

set_option linter.unusedVariables false
set_option linter.unusedSimpArgs false
namespace Go.Proofs.YtaiapalhdejngaaX
open Go Go.RowKit Go.Proofs
set_option maxRecDepth 100000
attribute [local go_sem ↓] stepsK_build stepsK_bs appendS
attribute [local go_sem] String.reduceEq String.reduceNe reduceCtorEq Int.reduceEq Nat.reduceAdd Nat.reduceSub Nat.reduceMul Nat.reduceLT Nat.reduceLeDiff Nat.reduceEqDiff Nat.reduceBEq Int.reduceToNat Int.reduceLT Int.reduceLE Int.reduceGT Int.reduceGE Int.reduceAdd Int.reduceSub Int.reduceMul Int.reduceNeg Int.reduceBEq Int.reduceBNe Int.reducePow Int.reduceDiv Int.reduceMod Int.reduceTDiv Int.reduceTMod Int.reduceNatCast
/-! ### internal/stringslite.Cut -/
def F98 (n : Nat) (a0 : List UInt8) (a1 : List UInt8) : Option ((List UInt8) × (List UInt8) × (Bool)) := (F114 n a0 a1).bind fun v1 => iteB (decide ((0 : Int) ≤ v1)) (grd (0 ≤ v1 ∧ v1 ≤ (a0.length : Int)) (grd (0 ≤ (IntKind.wrap .i64 (v1 + (a1.length : Int))) ∧ (IntKind.wrap .i64 (v1 + (a1.length : Int))) ≤ (a0.length : Int)) (some ((a0.take v1.toNat), (a0.drop (IntKind.wrap .i64 (v1 + (a1.length : Int))).toNat), true)))) (some (a0, [], false))
set_option maxHeartbeats 4000000 in
theorem F98_ok : ∀ (n : Nat) (a0 : List UInt8) (a1 : List UInt8) (r : (List UInt8) × (List UInt8) × (Bool)), F98 n a0 a1 = some r → FnC Try.prog 98 [.imm (.string (bs a0)), .imm (.string (bs a1))] (.tup [.imm (.string (bs r.1)), .imm (.string (bs r.2.1)), .imm (.bool r.2.2)])
 | n, a0, a1, r, h => by
  unfold F98 at h
  refine FnC.goX mixed Try.func98 (by kernel_rfl) rfl ?_
  simp only [Try.ntmps98, List.length_cons, List.length_nil, List.replicate, List.cons_append, List.nil_append, Nat.reduceAdd, Nat.reduceSub]
  refine runX_seq ?_
  refine runX_regionC fun C hC => ?_
  try simp -implicitDefEqProofs (maxSteps := 4000000) (disch := first | omega | decide | (simp only [go_sem]; omega)) only [go_sem, ↓reduceIte]
  repeat (with_reducible refine And.intro (by first | assumption | omega | (simp; done) | (simp; omega)) ?_)
  refine toEnd hC ?_
  refine endX_seq ?_
  refine runX_seq ?_
  refine runX_seq ?_
  refine runX_regionC fun C hC => ?_
  obtain ⟨v1, h1, h⟩ := bnd_some h
  try simp -implicitDefEqProofs (maxSteps := 4000000) (disch := first | omega | decide | (simp only [go_sem]; omega)) only [go_sem, ↓reduceIte]
  repeat (with_reducible refine And.intro (by first | assumption | omega | (simp; done) | (simp; omega)) ?_)
  refine callG_X (by first | rfl | (simp only [go_sem]; done) | (simp only [closedL, closedT, Bool.and_true]; exact closedL_map _ (fun _ => by first | rfl | (simp only [go_sem]; done)) _)) (F114_ok n a0 a1 _ h1) (by repeat (first | exact leL_refl _ | refine leL_cons (by first | exact leT_refl _ | exact leT_virt | exact leT_junk _ | exact leT_sl | exact leT_sln | exact leT_nil | (refine leT_agg (by repeat (first | exact leL_refl _ | refine leL_cons (by first | exact leT_refl _ | exact leT_sl | exact leT_sln | exact leT_nil) ?_)))) ?_)) ?_
  try simp -implicitDefEqProofs (maxSteps := 4000000) (disch := first | omega | decide | (simp only [go_sem]; omega)) only [go_sem, ↓reduceIte]
  repeat (with_reducible refine And.intro (by first | assumption | omega | (simp; done) | (simp; omega)) ?_)
  refine toEnd hC ?_
  refine endX_seq ?_
  refine runX_seq ?_
  refine runX_regionC fun C hC => ?_
  try simp -implicitDefEqProofs (maxSteps := 4000000) (disch := first | omega | decide | (simp only [go_sem]; omega)) only [go_sem, ↓reduceIte]
  repeat (with_reducible refine And.intro (by first | assumption | omega | (simp; done) | (simp; omega)) ?_)
  refine toEnd hC ?_
  refine endX_seq ?_
  rcases iteB_some h with ⟨c2, h⟩ | ⟨c2, h⟩
  ·refine runX_condT rfl c2 ?_
   refine runX_seq ?_
   refine runX_drawC mixed (by kernel_rfl) fun C hC => ?_
   obtain ⟨g3, h⟩ := grd_some h
   obtain ⟨g4, h⟩ := grd_some h
   try simp -implicitDefEqProofs (maxSteps := 4000000) (disch := first | omega | decide | (simp only [go_sem]; omega)) only [go_sem, ↓reduceIte]
   repeat (with_reducible refine And.intro (by first | assumption | omega | (simp; done) | (simp; omega)) ?_)
   refine toEnd hC ?_
   refine endX_seq ?_
   refine runX_ret ?_
   refine endX_seqR ?_
   refine endX_q ?_
   obtain rfl := Option.some.inj h
   show RetW _ _ _ _ _
   simp only [RetW]
   (try simp -implicitDefEqProofs (maxSteps := 4000000) (disch := first | omega | decide | (simp only [go_sem]; omega)) only [go_sem, ↓reduceIte])
   (try simp (disch := omega) only [if_pos, Nat.sub_zero])
   exact leT_refl _
  ·refine runX_condF rfl c2 ?_
   refine runX_skip ?_
   refine endX_seq ?_
   refine runX_seq ?_
   refine runX_regionC fun C hC => ?_
   try simp -implicitDefEqProofs (maxSteps := 4000000) (disch := first | omega | decide | (simp only [go_sem]; omega)) only [go_sem, ↓reduceIte]
   repeat (with_reducible refine And.intro (by first | assumption | omega | (simp; done) | (simp; omega)) ?_)
   refine toEnd hC ?_
   refine endX_seq ?_
   refine runX_ret ?_
   refine endX_q ?_
   obtain rfl := Option.some.inj h
   show RetW _ _ _ _ _
   simp only [RetW]
   (try simp -implicitDefEqProofs (maxSteps := 4000000) (disch := first | omega | decide | (simp only [go_sem]; omega)) only [go_sem, ↓reduceIte])
   (try simp (disch := omega) only [if_pos, Nat.sub_zero])
   exact leT_refl _
end Go.Proofs.YtaiapalhdejngaaX

set_option linter.unusedVariables false
set_option linter.unusedSimpArgs false
namespace Go.Proofs.YtaiapalhdejngaaX
open Go Go.RowKit Go.Proofs
set_option maxRecDepth 100000
attribute [local go_sem ↓] stepsK_build stepsK_bs appendS
attribute [local go_sem] String.reduceEq String.reduceNe reduceCtorEq Int.reduceEq Nat.reduceAdd Nat.reduceSub Nat.reduceMul Nat.reduceLT Nat.reduceLeDiff Nat.reduceEqDiff Nat.reduceBEq Int.reduceToNat Int.reduceLT Int.reduceLE Int.reduceGT Int.reduceGE Int.reduceAdd Int.reduceSub Int.reduceMul Int.reduceNeg Int.reduceBEq Int.reduceBNe Int.reducePow Int.reduceDiv Int.reduceMod Int.reduceTDiv Int.reduceTMod Int.reduceNatCast
/-! ### strings.Cut -/
def F73 (n : Nat) (a0 : List UInt8) (a1 : List UInt8) : Option ((List UInt8) × (List UInt8) × (Bool)) := (F98 n a0 a1).bind fun v1 => some (v1.1, v1.2.1, v1.2.2)
set_option maxHeartbeats 4000000 in
theorem F73_ok : ∀ (n : Nat) (a0 : List UInt8) (a1 : List UInt8) (r : (List UInt8) × (List UInt8) × (Bool)), F73 n a0 a1 = some r → FnC Try.prog 73 [.imm (.string (bs a0)), .imm (.string (bs a1))] (.tup [.imm (.string (bs r.1)), .imm (.string (bs r.2.1)), .imm (.bool r.2.2)])
 | n, a0, a1, r, h => by
  unfold F73 at h
  refine FnC.goX mixed Try.func73 (by kernel_rfl) rfl ?_
  simp only [Try.ntmps73, List.length_cons, List.length_nil, List.replicate, List.cons_append, List.nil_append, Nat.reduceAdd, Nat.reduceSub]
  refine runX_seq ?_
  refine runX_regionC fun C hC => ?_
  try simp -implicitDefEqProofs (maxSteps := 4000000) (disch := first | omega | decide | (simp only [go_sem]; omega)) only [go_sem, ↓reduceIte]
  repeat (with_reducible refine And.intro (by first | assumption | omega | (simp; done) | (simp; omega)) ?_)
  refine toEnd hC ?_
  refine endX_seq ?_
  refine runX_seq ?_
  refine runX_regionC fun C hC => ?_
  obtain ⟨v1, h1, h⟩ := bnd_some h
  try simp -implicitDefEqProofs (maxSteps := 4000000) (disch := first | omega | decide | (simp only [go_sem]; omega)) only [go_sem, ↓reduceIte]
  repeat (with_reducible refine And.intro (by first | assumption | omega | (simp; done) | (simp; omega)) ?_)
  refine callG_X (by first | rfl | (simp only [go_sem]; done) | (simp only [closedL, closedT, Bool.and_true]; exact closedL_map _ (fun _ => by first | rfl | (simp only [go_sem]; done)) _)) (F98_ok n a0 a1 _ h1) (by repeat (first | exact leL_refl _ | refine leL_cons (by first | exact leT_refl _ | exact leT_virt | exact leT_junk _ | exact leT_sl | exact leT_sln | exact leT_nil | (refine leT_agg (by repeat (first | exact leL_refl _ | refine leL_cons (by first | exact leT_refl _ | exact leT_sl | exact leT_sln | exact leT_nil) ?_)))) ?_)) ?_
  try simp -implicitDefEqProofs (maxSteps := 4000000) (disch := first | omega | decide | (simp only [go_sem]; omega)) only [go_sem, ↓reduceIte]
  repeat (with_reducible refine And.intro (by first | assumption | omega | (simp; done) | (simp; omega)) ?_)
  refine toEnd hC ?_
  refine endX_seq ?_
  refine runX_ret ?_
  refine endX_q ?_
  obtain rfl := Option.some.inj h
  show RetW _ _ _ _ _
  simp only [RetW]
  (try simp -implicitDefEqProofs (maxSteps := 4000000) (disch := first | omega | decide | (simp only [go_sem]; omega)) only [go_sem, ↓reduceIte])
  (try simp (disch := omega) only [if_pos, Nat.sub_zero])
  exact leT_refl _
end Go.Proofs.YtaiapalhdejngaaX

set_option linter.unusedVariables false
set_option linter.unusedSimpArgs false
namespace Go.Proofs.YtaiapalhdejngaaX
open Go Go.RowKit Go.Proofs
set_option maxRecDepth 100000
attribute [local go_sem ↓] stepsK_build stepsK_bs appendS
attribute [local go_sem] String.reduceEq String.reduceNe reduceCtorEq Int.reduceEq Nat.reduceAdd Nat.reduceSub Nat.reduceMul Nat.reduceLT Nat.reduceLeDiff Nat.reduceEqDiff Nat.reduceBEq Int.reduceToNat Int.reduceLT Int.reduceLE Int.reduceGT Int.reduceGE Int.reduceAdd Int.reduceSub Int.reduceMul Int.reduceNeg Int.reduceBEq Int.reduceBNe Int.reducePow Int.reduceDiv Int.reduceMod Int.reduceTDiv Int.reduceTMod Int.reduceNatCast
/-! ### hex.ReadDecimal -/
def F78_S1 (a0 : List UInt8) (x3 : Int) (x4 : Int) : St := ⟨[.imm (.string (bs a0)), .junk, .junk, .junk, .imm (.int .i64 x3), .junk, .junk, .junk, .junk, .junk, .junk, .junk, .junk, .junk, .imm (.int .i64 (a0.length : Int)), .imm (.int .i64 x4), .junk, .junk, .junk, .junk, .junk, .junk, .junk, .junk, .junk, .junk, .junk, .junk, .junk, .junk, .junk, .junk, .junk], []⟩
def F78_L1 : Nat → (List UInt8) → (Int) → (Int) → Option ((Int) × (Bool))
 | 0, _, _, _ => none
 | m1 + 1, a0, x3, x4 => iteB (decide (x4 < (a0.length : Int))) (grd (0 ≤ x4 ∧ x4 < (a0.length : Int)) ((F70 m1 ((a0.getD x4.toNat 0).toNat : Int)).bind fun v7 => iteB (v7 != (1 : Int)) (some ((0 : Int), false)) (grd (0 ≤ x4 ∧ x4 < (a0.length : Int)) (F78_L1 m1 a0 (IntKind.wrap .i64 ((IntKind.wrap .i64 (x3 * (10 : Int))) + (IntKind.wrap .i64 ((IntKind.wrap .u8 (((a0.getD x4.toNat 0).toNat : Int) - (48 : Int))))))) (IntKind.wrap .i64 (x4 + (1 : Int))))))) (some (x3, true))
def F78 (n : Nat) (a0 : List UInt8) : Option ((Int) × (Bool)) := iteB (a0 == []) (some ((0 : Int), false)) (iteB (decide ((18 : Int) < (a0.length : Int))) (some ((0 : Int), false)) (F78_L1 n a0 (0 : Int) (0 : Int)))
set_option maxHeartbeats 4000000 in
theorem F78_ok : ∀ (n : Nat) (a0 : List UInt8) (r : (Int) × (Bool)), F78 n a0 = some r → FnC Try.prog 78 [.imm (.string (bs a0))] (.tup [.imm (.int .i64 r.1), .imm (.bool r.2)])
 | n, a0, r, h => by
  unfold F78 at h
  refine FnC.goX mixed Try.func78 (by kernel_rfl) rfl ?_
  simp only [Try.ntmps78, List.length_cons, List.length_nil, List.replicate, List.cons_append, List.nil_append, Nat.reduceAdd, Nat.reduceSub]
  refine runX_seq ?_
  refine runX_regionC fun C hC => ?_
  try simp -implicitDefEqProofs (disch := omega) only [go_sem, ↓reduceIte]
  refine toEnd hC ?_
  refine endX_seq ?_
  refine runX_seq ?_
  refine runX_seq ?_
  refine runX_regionC fun C hC => ?_
  try simp -implicitDefEqProofs (disch := omega) only [go_sem, ↓reduceIte]
  rcases iteB_some h with ⟨c1, h⟩ | ⟨c1, h⟩
  ·refine guardK_F c1 ?_
   try simp -implicitDefEqProofs (disch := omega) only [go_sem, ↓reduceIte]
   refine toEnd hC ?_
   refine endX_seq ?_
   refine runX_condT rfl rfl ?_
   refine runX_seq ?_
   refine runX_regionC fun C hC => ?_
   try simp -implicitDefEqProofs (disch := omega) only [go_sem, ↓reduceIte]
   refine toEnd hC ?_
   refine endX_seq ?_
   refine runX_ret ?_
   refine endX_seqR ?_
   refine endX_q ?_
   obtain rfl := Option.some.inj h
   show RetW _ _ _ _ _
   simp only [RetW]
   (try simp -implicitDefEqProofs (disch := omega) only [go_sem, ↓reduceIte])
   (try simp (disch := omega) only [if_pos, Nat.sub_zero])
   exact leT_refl _
  ·refine guardK_T c1 ?_
   try simp -implicitDefEqProofs (disch := omega) only [go_sem, ↓reduceIte]
   refine toEnd hC ?_
   refine endX_seq ?_
   rcases iteB_some h with ⟨c2, h⟩ | ⟨c2, h⟩
   ·refine runX_condT rfl c2 ?_
    refine runX_seq ?_
    refine runX_regionC fun C hC => ?_
    try simp -implicitDefEqProofs (disch := omega) only [go_sem, ↓reduceIte]
    refine toEnd hC ?_
    refine endX_seq ?_
    refine runX_ret ?_
    refine endX_seqR ?_
    refine endX_q ?_
    obtain rfl := Option.some.inj h
    show RetW _ _ _ _ _
    simp only [RetW]
    (try simp -implicitDefEqProofs (disch := omega) only [go_sem, ↓reduceIte])
    (try simp (disch := omega) only [if_pos, Nat.sub_zero])
    exact leT_refl _
   ·refine runX_condF rfl c2 ?_
    refine runX_skip ?_
    refine endX_seq ?_
    refine runX_seq ?_
    refine runX_regionC fun C hC => ?_
    try simp -implicitDefEqProofs (disch := omega) only [go_sem, ↓reduceIte]
    refine toEnd hC ?_
    refine endX_seq ?_
    refine runX_seq ?_
    refine runX_seq ?_
    refine runX_regionC fun C hC => ?_
    try simp -implicitDefEqProofs (disch := omega) only [go_sem, ↓reduceIte]
    refine toEnd hC ?_
    refine endX_seq ?_
    refine runX_block ?_
    refine runX_loop [0, 4, 14, 15] (fun m S => ∃ (x3 : Int) (x4 : Int), S = F78_S1 a0 x3 x4 ∧ m ≤ n ∧ F78_L1 m a0 x3 x4 = some r) n ⟨F78_S1 a0 (0 : Int) (0 : Int), ?_, (0 : Int), (0 : Int), rfl, Nat.le_refl _, h⟩ ?_
    ·simp only [F78_S1]
     (try simp -implicitDefEqProofs (disch := omega) only [go_sem, ↓reduceIte])
     exact leS_refl _
    ·clear h
     rintro m1 S ⟨x3, x4, rfl, hm1, h⟩
     cases m1 with
     | zero => first | cases (show (none : Option _) = some _ from h) | (rw [F78_L1] at h; cases h)
     | succ m1 =>
      rw [F78_L1] at h
      simp only [F78_S1]
      refine runX_seq ?_
      refine runX_regionC fun C hC => ?_
      try simp -implicitDefEqProofs (maxSteps := 4000000) (disch := first | omega | decide | (simp only [go_sem]; omega)) only [go_sem, ↓reduceIte]
      repeat (with_reducible refine And.intro (by first | assumption | omega | (simp; done) | (simp; omega)) ?_)
      refine toEnd hC ?_
      refine endX_seq ?_
      refine runX_seq ?_
      rcases iteB_some h with ⟨c5, h⟩ | ⟨c5, h⟩
      ·refine runX_condT rfl c5 ?_
       refine runX_skip ?_
       refine endX_seq ?_
       refine runX_seq ?_
       refine runX_block ?_
       refine runX_seq ?_
       refine runX_regionC fun C hC => ?_
       try simp -implicitDefEqProofs (disch := omega) only [go_sem, ↓reduceIte]
       refine toEnd hC ?_
       refine endX_seq ?_
       refine runX_seq ?_
       refine runX_seq ?_
       refine runX_regionC fun C hC => ?_
       obtain ⟨g6, h⟩ := grd_some h
       obtain ⟨v7, h7, h⟩ := bnd_some h
       try simp -implicitDefEqProofs (maxSteps := 4000000) (disch := first | omega | decide | (simp only [go_sem]; omega)) only [go_sem, ↓reduceIte]
       repeat (with_reducible refine And.intro (by first | assumption | omega | (simp; done) | (simp; omega)) ?_)
       refine callG_X (by first | rfl | (simp only [go_sem]; done) | (simp only [closedL, closedT, Bool.and_true]; exact closedL_map _ (fun _ => by first | rfl | (simp only [go_sem]; done)) _)) (F70_ok m1 ((a0.getD x4.toNat 0).toNat : Int) _ h7) (by repeat (first | exact leL_refl _ | refine leL_cons (by first | exact leT_refl _ | exact leT_virt | exact leT_junk _ | exact leT_sl | exact leT_sln | exact leT_nil | (refine leT_agg (by repeat (first | exact leL_refl _ | refine leL_cons (by first | exact leT_refl _ | exact leT_sl | exact leT_sln | exact leT_nil) ?_)))) ?_)) ?_
       try simp -implicitDefEqProofs (maxSteps := 4000000) (disch := first | omega | decide | (simp only [go_sem]; omega)) only [go_sem, ↓reduceIte]
       repeat (with_reducible refine And.intro (by first | assumption | omega | (simp; done) | (simp; omega)) ?_)
       refine toEnd hC ?_
       refine endX_seq ?_
       rcases iteB_some h with ⟨c8, h⟩ | ⟨c8, h⟩
       ·refine runX_condT rfl c8 ?_
        refine runX_seq ?_
        refine runX_regionC fun C hC => ?_
        try simp -implicitDefEqProofs (disch := omega) only [go_sem, ↓reduceIte]
        refine toEnd hC ?_
        refine endX_seq ?_
        refine runX_ret ?_
        refine endX_seqR ?_
        refine endX_blkR ?_
        refine endX_seqR ?_
        refine endX_q (roundQ_ret ?_)
        refine endX_blkR ?_
        refine endX_seqR ?_
        refine endX_q ?_
        obtain rfl := Option.some.inj h
        show RetW _ _ _ _ _
        simp only [RetW]
        (try simp -implicitDefEqProofs (maxSteps := 4000000) (disch := first | omega | decide | (simp only [go_sem]; omega)) only [go_sem, ↓reduceIte])
        (try simp (disch := omega) only [if_pos, Nat.sub_zero])
        exact leT_refl _
       ·refine runX_condF rfl c8 ?_
        refine runX_skip ?_
        refine endX_seq ?_
        refine runX_regionC fun C hC => ?_
        obtain ⟨g9, h⟩ := grd_some h
        try simp -implicitDefEqProofs (maxSteps := 4000000) (disch := first | omega | decide | (simp only [go_sem]; omega)) only [go_sem, ↓reduceIte]
        repeat (with_reducible refine And.intro (by first | assumption | omega | (simp; done) | (simp; omega)) ?_)
        refine toEnd hC ?_
        refine endX_blk ?_
        refine endX_seq ?_
        refine runX_regionC fun C hC => ?_
        try simp -implicitDefEqProofs (disch := omega) only [go_sem, ↓reduceIte]
        refine toEnd hC ?_
        refine endX_q (roundQ_normal ⟨m1, by omega, F78_S1 a0 (IntKind.wrap .i64 ((IntKind.wrap .i64 (x3 * (10 : Int))) + (IntKind.wrap .i64 ((IntKind.wrap .u8 (((a0.getD x4.toNat 0).toNat : Int) - (48 : Int))))))) (IntKind.wrap .i64 (x4 + (1 : Int))), ?_, (IntKind.wrap .i64 ((IntKind.wrap .i64 (x3 * (10 : Int))) + (IntKind.wrap .i64 ((IntKind.wrap .u8 (((a0.getD x4.toNat 0).toNat : Int) - (48 : Int))))))), (IntKind.wrap .i64 (x4 + (1 : Int))), rfl, by omega, h⟩)
        simp only [F78_S1]
        (try simp -implicitDefEqProofs (disch := omega) only [go_sem, ↓reduceIte])
        exact leS_refl _
      ·refine runX_condF rfl c5 ?_
       refine runX_exit ?_
       refine endX_seqE ?_
       refine endX_q (roundQ_exit ?_)
       refine endX_blkE ?_
       refine endX_seq ?_
       refine runX_seq ?_
       refine runX_regionC fun C hC => ?_
       try simp -implicitDefEqProofs (disch := omega) only [go_sem, ↓reduceIte]
       refine toEnd hC ?_
       refine endX_seq ?_
       refine runX_ret ?_
       refine endX_q ?_
       obtain rfl := Option.some.inj h
       show RetW _ _ _ _ _
       simp only [RetW]
       (try simp -implicitDefEqProofs (disch := omega) only [go_sem, ↓reduceIte])
       (try simp (disch := omega) only [if_pos, Nat.sub_zero])
       exact leT_refl _
end Go.Proofs.YtaiapalhdejngaaX

set_option linter.unusedVariables false
set_option linter.unusedSimpArgs false
namespace Go.Proofs.YtaiapalhdejngaaX
open Go Go.RowKit Go.Proofs
set_option maxRecDepth 100000
attribute [local go_sem ↓] stepsK_build stepsK_bs appendS
attribute [local go_sem] String.reduceEq String.reduceNe reduceCtorEq Int.reduceEq Nat.reduceAdd Nat.reduceSub Nat.reduceMul Nat.reduceLT Nat.reduceLeDiff Nat.reduceEqDiff Nat.reduceBEq Int.reduceToNat Int.reduceLT Int.reduceLE Int.reduceGT Int.reduceGE Int.reduceAdd Int.reduceSub Int.reduceMul Int.reduceNeg Int.reduceBEq Int.reduceBNe Int.reducePow Int.reduceDiv Int.reduceMod Int.reduceTDiv Int.reduceTMod Int.reduceNatCast
/-! ### etag.Count -/
def F41 (n : Nat) (a0 : List UInt8) : Option (Int) := (F73 n a0 ([45] : List UInt8)).bind fun v1 => (F37 n v1.1).bind fun v2 => iteB (!v2.2) (some (0 : Int)) (iteB (!v1.2.2) (some (1 : Int)) ((F78 n v1.2.1).bind fun v5 => iteB (!v5.2) (some (0 : Int)) (iteB (decide (v5.1 < (1 : Int))) (some (0 : Int)) (iteB (decide ((10000 : Int) < v5.1)) (some (0 : Int)) ((F55 n v5.1).bind fun v9 => iteB (!(v9 == v1.2.1)) (some (0 : Int)) (some v5.1))))))
set_option maxHeartbeats 4000000 in
theorem F41_ok : ∀ (n : Nat) (a0 : List UInt8) (r : Int), F41 n a0 = some r → FnC Try.prog 41 [.imm (.string (bs a0))] (.imm (.int .i64 r))
 | n, a0, r, h => by
  unfold F41 at h
  refine FnC.goX mixed Try.func41 (by kernel_rfl) rfl ?_
  simp only [Try.ntmps41, List.length_cons, List.length_nil, List.replicate, List.cons_append, List.nil_append, Nat.reduceAdd, Nat.reduceSub]
  refine runX_seq ?_
  refine runX_regionC fun C hC => ?_
  try simp -implicitDefEqProofs (disch := omega) only [go_sem, ↓reduceIte]
  refine toEnd hC ?_
  refine endX_seq ?_
  refine runX_seq ?_
  refine runX_regionC fun C hC => ?_
  obtain ⟨v1, h1, h⟩ := bnd_some h
  try simp -implicitDefEqProofs (maxSteps := 4000000) (disch := first | omega | decide | (simp only [go_sem]; omega)) only [go_sem, ↓reduceIte]
  repeat (with_reducible refine And.intro (by first | assumption | omega | (simp; done) | (simp; omega)) ?_)
  refine callG_X (by first | rfl | (simp only [go_sem]; done) | (simp only [closedL, closedT, Bool.and_true]; exact closedL_map _ (fun _ => by first | rfl | (simp only [go_sem]; done)) _)) (F73_ok n a0 ([45] : List UInt8) _ h1) (by repeat (first | exact leL_refl _ | refine leL_cons (by first | exact leT_refl _ | exact leT_virt | exact leT_junk _ | exact leT_sl | exact leT_sln | exact leT_nil | (refine leT_agg (by repeat (first | exact leL_refl _ | refine leL_cons (by first | exact leT_refl _ | exact leT_sl | exact leT_sln | exact leT_nil) ?_)))) ?_)) ?_
  try simp -implicitDefEqProofs (maxSteps := 4000000) (disch := first | omega | decide | (simp only [go_sem]; omega)) only [go_sem, ↓reduceIte]
  repeat (with_reducible refine And.intro (by first | assumption | omega | (simp; done) | (simp; omega)) ?_)
  refine toEnd hC ?_
  refine endX_seq ?_
  refine runX_seq ?_
  refine runX_seq ?_
  refine runX_regionC fun C hC => ?_
  obtain ⟨v2, h2, h⟩ := bnd_some h
  try simp -implicitDefEqProofs (maxSteps := 4000000) (disch := first | omega | decide | (simp only [go_sem]; omega)) only [go_sem, ↓reduceIte]
  repeat (with_reducible refine And.intro (by first | assumption | omega | (simp; done) | (simp; omega)) ?_)
  refine callG_X (by first | rfl | (simp only [go_sem]; done) | (simp only [closedL, closedT, Bool.and_true]; exact closedL_map _ (fun _ => by first | rfl | (simp only [go_sem]; done)) _)) (F37_ok n v1.1 _ h2) (by repeat (first | exact leL_refl _ | refine leL_cons (by first | exact leT_refl _ | exact leT_virt | exact leT_junk _ | exact leT_sl | exact leT_sln | exact leT_nil | (refine leT_agg (by repeat (first | exact leL_refl _ | refine leL_cons (by first | exact leT_refl _ | exact leT_sl | exact leT_sln | exact leT_nil) ?_)))) ?_)) ?_
  try simp -implicitDefEqProofs (maxSteps := 4000000) (disch := first | omega | decide | (simp only [go_sem]; omega)) only [go_sem, ↓reduceIte]
  repeat (with_reducible refine And.intro (by first | assumption | omega | (simp; done) | (simp; omega)) ?_)
  refine toEnd hC ?_
  refine endX_seq ?_
  refine runX_seq ?_
  refine runX_regionC fun C hC => ?_
  try simp -implicitDefEqProofs (disch := omega) only [go_sem, ↓reduceIte]
  refine toEnd hC ?_
  refine endX_seq ?_
  rcases iteB_some h with ⟨c3, h⟩ | ⟨c3, h⟩
  ·refine runX_condT rfl c3 ?_
   refine runX_seq ?_
   refine runX_regionC fun C hC => ?_
   try simp -implicitDefEqProofs (disch := omega) only [go_sem, ↓reduceIte]
   refine toEnd hC ?_
   refine endX_seq ?_
   refine runX_ret ?_
   refine endX_seqR ?_
   refine endX_q ?_
   obtain rfl := Option.some.inj h
   show RetW _ _ _ _ _
   simp only [RetW]
   (try simp -implicitDefEqProofs (disch := omega) only [go_sem, ↓reduceIte])
   (try simp (disch := omega) only [if_pos, Nat.sub_zero])
   exact leT_refl _
  ·refine runX_condF rfl c3 ?_
   refine runX_skip ?_
   refine endX_seq ?_
   refine runX_seq ?_
   refine runX_seq ?_
   refine runX_regionC fun C hC => ?_
   try simp -implicitDefEqProofs (disch := omega) only [go_sem, ↓reduceIte]
   refine toEnd hC ?_
   refine endX_seq ?_
   rcases iteB_some h with ⟨c4, h⟩ | ⟨c4, h⟩
   ·refine runX_condT rfl c4 ?_
    refine runX_seq ?_
    refine runX_regionC fun C hC => ?_
    try simp -implicitDefEqProofs (disch := omega) only [go_sem, ↓reduceIte]
    refine toEnd hC ?_
    refine endX_seq ?_
    refine runX_ret ?_
    refine endX_seqR ?_
    refine endX_q ?_
    obtain rfl := Option.some.inj h
    show RetW _ _ _ _ _
    simp only [RetW]
    (try simp -implicitDefEqProofs (maxSteps := 4000000) (disch := first | omega | decide | (simp only [go_sem]; omega)) only [go_sem, ↓reduceIte])
    (try simp (disch := omega) only [if_pos, Nat.sub_zero])
    exact leT_refl _
   ·refine runX_condF rfl c4 ?_
    refine runX_skip ?_
    refine endX_seq ?_
    refine runX_seq ?_
    refine runX_regionC fun C hC => ?_
    obtain ⟨v5, h5, h⟩ := bnd_some h
    try simp -implicitDefEqProofs (maxSteps := 4000000) (disch := first | omega | decide | (simp only [go_sem]; omega)) only [go_sem, ↓reduceIte]
    repeat (with_reducible refine And.intro (by first | assumption | omega | (simp; done) | (simp; omega)) ?_)
    refine callG_X (by first | rfl | (simp only [go_sem]; done) | (simp only [closedL, closedT, Bool.and_true]; exact closedL_map _ (fun _ => by first | rfl | (simp only [go_sem]; done)) _)) (F78_ok n v1.2.1 _ h5) (by repeat (first | exact leL_refl _ | refine leL_cons (by first | exact leT_refl _ | exact leT_virt | exact leT_junk _ | exact leT_sl | exact leT_sln | exact leT_nil | (refine leT_agg (by repeat (first | exact leL_refl _ | refine leL_cons (by first | exact leT_refl _ | exact leT_sl | exact leT_sln | exact leT_nil) ?_)))) ?_)) ?_
    try simp -implicitDefEqProofs (maxSteps := 4000000) (disch := first | omega | decide | (simp only [go_sem]; omega)) only [go_sem, ↓reduceIte]
    repeat (with_reducible refine And.intro (by first | assumption | omega | (simp; done) | (simp; omega)) ?_)
    refine toEnd hC ?_
    refine endX_seq ?_
    refine runX_seq ?_
    refine runX_seq ?_
    refine runX_regionC fun C hC => ?_
    try simp -implicitDefEqProofs (disch := omega) only [go_sem, ↓reduceIte]
    rcases iteB_some h with ⟨c6, h⟩ | ⟨c6, h⟩
    ·refine guardK_F c6 ?_
     try simp -implicitDefEqProofs (disch := omega) only [go_sem, ↓reduceIte]
     refine toEnd hC ?_
     refine endX_seq ?_
     refine runX_condT rfl rfl ?_
     refine runX_seq ?_
     refine runX_regionC fun C hC => ?_
     try simp -implicitDefEqProofs (disch := omega) only [go_sem, ↓reduceIte]
     refine toEnd hC ?_
     refine endX_seq ?_
     refine runX_ret ?_
     refine endX_seqR ?_
     refine endX_q ?_
     obtain rfl := Option.some.inj h
     show RetW _ _ _ _ _
     simp only [RetW]
     (try simp -implicitDefEqProofs (disch := omega) only [go_sem, ↓reduceIte])
     (try simp (disch := omega) only [if_pos, Nat.sub_zero])
     exact leT_refl _
    ·refine guardK_T c6 ?_
     try simp -implicitDefEqProofs (disch := omega) only [go_sem, ↓reduceIte]
     rcases iteB_some h with ⟨c7, h⟩ | ⟨c7, h⟩
     ·refine guardK_F c7 ?_
      try simp -implicitDefEqProofs (disch := omega) only [go_sem, ↓reduceIte]
      refine toEnd hC ?_
      refine endX_seq ?_
      refine runX_condT rfl rfl ?_
      refine runX_seq ?_
      refine runX_regionC fun C hC => ?_
      try simp -implicitDefEqProofs (disch := omega) only [go_sem, ↓reduceIte]
      refine toEnd hC ?_
      refine endX_seq ?_
      refine runX_ret ?_
      refine endX_seqR ?_
      refine endX_q ?_
      obtain rfl := Option.some.inj h
      show RetW _ _ _ _ _
      simp only [RetW]
      (try simp -implicitDefEqProofs (disch := omega) only [go_sem, ↓reduceIte])
      (try simp (disch := omega) only [if_pos, Nat.sub_zero])
      exact leT_refl _
     ·refine guardK_T c7 ?_
      try simp -implicitDefEqProofs (disch := omega) only [go_sem, ↓reduceIte]
      rcases iteB_some h with ⟨c8, h⟩ | ⟨c8, h⟩
      ·refine guardK_F c8 ?_
       try simp -implicitDefEqProofs (disch := omega) only [go_sem, ↓reduceIte]
       refine toEnd hC ?_
       refine endX_seq ?_
       refine runX_condT rfl rfl ?_
       refine runX_seq ?_
       refine runX_regionC fun C hC => ?_
       try simp -implicitDefEqProofs (disch := omega) only [go_sem, ↓reduceIte]
       refine toEnd hC ?_
       refine endX_seq ?_
       refine runX_ret ?_
       refine endX_seqR ?_
       refine endX_q ?_
       obtain rfl := Option.some.inj h
       show RetW _ _ _ _ _
       simp only [RetW]
       (try simp -implicitDefEqProofs (maxSteps := 4000000) (disch := first | omega | decide | (simp only [go_sem]; omega)) only [go_sem, ↓reduceIte])
       (try simp (disch := omega) only [if_pos, Nat.sub_zero])
       exact leT_refl _
      ·refine guardK_T c8 ?_
       obtain ⟨v9, h9, h⟩ := bnd_some h
       try simp -implicitDefEqProofs (maxSteps := 4000000) (disch := first | omega | decide | (simp only [go_sem]; omega)) only [go_sem, ↓reduceIte]
       repeat (with_reducible refine And.intro (by first | assumption | omega | (simp; done) | (simp; omega)) ?_)
       refine callG_X (by first | rfl | (simp only [go_sem]; done) | (simp only [closedL, closedT, Bool.and_true]; exact closedL_map _ (fun _ => by first | rfl | (simp only [go_sem]; done)) _)) (F55_ok n v5.1 _ h9) (by repeat (first | exact leL_refl _ | refine leL_cons (by first | exact leT_refl _ | exact leT_virt | exact leT_junk _ | exact leT_sl | exact leT_sln | exact leT_nil | (refine leT_agg (by repeat (first | exact leL_refl _ | refine leL_cons (by first | exact leT_refl _ | exact leT_sl | exact leT_sln | exact leT_nil) ?_)))) ?_)) ?_
       try simp -implicitDefEqProofs (maxSteps := 4000000) (disch := first | omega | decide | (simp only [go_sem]; omega)) only [go_sem, ↓reduceIte]
       repeat (with_reducible refine And.intro (by first | assumption | omega | (simp; done) | (simp; omega)) ?_)
       refine toEnd hC ?_
       refine endX_seq ?_
       rcases iteB_some h with ⟨c10, h⟩ | ⟨c10, h⟩
       ·refine runX_condT rfl c10 ?_
        refine runX_seq ?_
        refine runX_regionC fun C hC => ?_
        try simp -implicitDefEqProofs (disch := omega) only [go_sem, ↓reduceIte]
        refine toEnd hC ?_
        refine endX_seq ?_
        refine runX_ret ?_
        refine endX_seqR ?_
        refine endX_q ?_
        obtain rfl := Option.some.inj h
        show RetW _ _ _ _ _
        simp only [RetW]
        (try simp -implicitDefEqProofs (disch := omega) only [go_sem, ↓reduceIte])
        (try simp (disch := omega) only [if_pos, Nat.sub_zero])
        exact leT_refl _
       ·refine runX_condF rfl c10 ?_
        refine runX_skip ?_
        refine endX_seq ?_
        refine runX_seq ?_
        refine runX_regionC fun C hC => ?_
        try simp -implicitDefEqProofs (disch := omega) only [go_sem, ↓reduceIte]
        refine toEnd hC ?_
        refine endX_seq ?_
        refine runX_ret ?_
        refine endX_q ?_
        obtain rfl := Option.some.inj h
        show RetW _ _ _ _ _
        simp only [RetW]
        (try simp -implicitDefEqProofs (disch := omega) only [go_sem, ↓reduceIte])
        (try simp (disch := omega) only [if_pos, Nat.sub_zero])
        exact leT_refl _
end Go.Proofs.YtaiapalhdejngaaX

set_option linter.unusedVariables false
set_option linter.unusedSimpArgs false
namespace Go.Proofs.YtaiapalhdejngaaX
open Go Go.RowKit Go.Proofs
set_option maxRecDepth 100000
attribute [local go_sem ↓] stepsK_build stepsK_bs appendS
attribute [local go_sem] String.reduceEq String.reduceNe reduceCtorEq Int.reduceEq Nat.reduceAdd Nat.reduceSub Nat.reduceMul Nat.reduceLT Nat.reduceLeDiff Nat.reduceEqDiff Nat.reduceBEq Int.reduceToNat Int.reduceLT Int.reduceLE Int.reduceGT Int.reduceGE Int.reduceAdd Int.reduceSub Int.reduceMul Int.reduceNeg Int.reduceBEq Int.reduceBNe Int.reducePow Int.reduceDiv Int.reduceMod Int.reduceTDiv Int.reduceTMod Int.reduceNatCast
/-! ### base.Value -/
def F118 (n : Nat) (a0 : Int) : Option (Int) := iteB (decide ((65 : Int) ≤ a0)) (iteB (decide (a0 ≤ (90 : Int))) (some (IntKind.wrap .i64 ((IntKind.wrap .u8 (a0 - (65 : Int)))))) (iteB (decide ((97 : Int) ≤ a0)) (iteB (decide (a0 ≤ (122 : Int))) (some (IntKind.wrap .i64 ((IntKind.wrap .i64 ((IntKind.wrap .u8 (a0 - (97 : Int))))) + (26 : Int)))) (iteB (decide ((48 : Int) ≤ a0)) (iteB (decide (a0 ≤ (57 : Int))) (some (IntKind.wrap .i64 ((IntKind.wrap .i64 ((IntKind.wrap .u8 (a0 - (48 : Int))))) + (52 : Int)))) (iteB (a0 == (43 : Int)) (some (62 : Int)) (iteB (a0 == (47 : Int)) (some (63 : Int)) (some (-1 : Int))))) (iteB (a0 == (43 : Int)) (some (62 : Int)) (iteB (a0 == (47 : Int)) (some (63 : Int)) (some (-1 : Int)))))) (iteB (decide ((48 : Int) ≤ a0)) (iteB (decide (a0 ≤ (57 : Int))) (some (IntKind.wrap .i64 ((IntKind.wrap .i64 ((IntKind.wrap .u8 (a0 - (48 : Int))))) + (52 : Int)))) (iteB (a0 == (43 : Int)) (some (62 : Int)) (iteB (a0 == (47 : Int)) (some (63 : Int)) (some (-1 : Int))))) (iteB (a0 == (43 : Int)) (some (62 : Int)) (iteB (a0 == (47 : Int)) (some (63 : Int)) (some (-1 : Int))))))) (iteB (decide ((97 : Int) ≤ a0)) (iteB (decide (a0 ≤ (122 : Int))) (some (IntKind.wrap .i64 ((IntKind.wrap .i64 ((IntKind.wrap .u8 (a0 - (97 : Int))))) + (26 : Int)))) (iteB (decide ((48 : Int) ≤ a0)) (iteB (decide (a0 ≤ (57 : Int))) (some (IntKind.wrap .i64 ((IntKind.wrap .i64 ((IntKind.wrap .u8 (a0 - (48 : Int))))) + (52 : Int)))) (iteB (a0 == (43 : Int)) (some (62 : Int)) (iteB (a0 == (47 : Int)) (some (63 : Int)) (some (-1 : Int))))) (iteB (a0 == (43 : Int)) (some (62 : Int)) (iteB (a0 == (47 : Int)) (some (63 : Int)) (some (-1 : Int)))))) (iteB (decide ((48 : Int) ≤ a0)) (iteB (decide (a0 ≤ (57 : Int))) (some (IntKind.wrap .i64 ((IntKind.wrap .i64 ((IntKind.wrap .u8 (a0 - (48 : Int))))) + (52 : Int)))) (iteB (a0 == (43 : Int)) (some (62 : Int)) (iteB (a0 == (47 : Int)) (some (63 : Int)) (some (-1 : Int))))) (iteB (a0 == (43 : Int)) (some (62 : Int)) (iteB (a0 == (47 : Int)) (some (63 : Int)) (some (-1 : Int))))))
set_option maxHeartbeats 4000000 in
theorem F118_ok : ∀ (n : Nat) (a0 : Int) (r : Int), F118 n a0 = some r → FnC Try.prog 118 [.imm (.int .u8 a0)] (.imm (.int .i64 r))
 | n, a0, r, h => by
  unfold F118 at h
  refine FnC.goX mixed Try.func118 (by kernel_rfl) rfl ?_
  simp only [Try.ntmps118, List.length_cons, List.length_nil, List.replicate, List.cons_append, List.nil_append, Nat.reduceAdd, Nat.reduceSub]
  refine runX_seq ?_
  refine runX_regionC fun C hC => ?_
  try simp -implicitDefEqProofs (disch := omega) only [go_sem, ↓reduceIte]
  refine toEnd hC ?_
  refine endX_seq ?_
  refine runX_seq ?_
  refine runX_block ?_
  refine runX_seq ?_
  refine runX_regionC fun C hC => ?_
  try simp -implicitDefEqProofs (disch := omega) only [go_sem, ↓reduceIte]
  rcases iteB_some h with ⟨c1, h⟩ | ⟨c1, h⟩
  ·refine guardK_T c1 ?_
   try simp -implicitDefEqProofs (disch := omega) only [go_sem, ↓reduceIte]
   refine toEnd hC ?_
   refine endX_seq ?_
   rcases iteB_some h with ⟨c2, h⟩ | ⟨c2, h⟩
   ·refine runX_condT rfl c2 ?_
    refine runX_seq ?_
    refine runX_regionC fun C hC => ?_
    try simp -implicitDefEqProofs (disch := omega) only [go_sem, ↓reduceIte]
    refine toEnd hC ?_
    refine endX_seq ?_
    refine runX_ret ?_
    refine endX_blkR ?_
    refine endX_seqR ?_
    refine endX_q ?_
    obtain rfl := Option.some.inj h
    show RetW _ _ _ _ _
    simp only [RetW]
    (try simp -implicitDefEqProofs (disch := omega) only [go_sem, ↓reduceIte])
    (try simp (disch := omega) only [if_pos, Nat.sub_zero])
    exact leT_refl _
   ·refine runX_condF rfl c2 ?_
    refine runX_seq ?_
    refine runX_regionC fun C hC => ?_
    try simp -implicitDefEqProofs (disch := omega) only [go_sem, ↓reduceIte]
    rcases iteB_some h with ⟨c3, h⟩ | ⟨c3, h⟩
    ·refine guardK_T c3 ?_
     try simp -implicitDefEqProofs (disch := omega) only [go_sem, ↓reduceIte]
     refine toEnd hC ?_
     refine endX_seq ?_
     rcases iteB_some h with ⟨c4, h⟩ | ⟨c4, h⟩
     ·refine runX_condT rfl c4 ?_
      refine runX_seq ?_
      refine runX_regionC fun C hC => ?_
      try simp -implicitDefEqProofs (disch := omega) only [go_sem, ↓reduceIte]
      refine toEnd hC ?_
      refine endX_seq ?_
      refine runX_ret ?_
      refine endX_blkR ?_
      refine endX_seqR ?_
      refine endX_q ?_
      obtain rfl := Option.some.inj h
      show RetW _ _ _ _ _
      simp only [RetW]
      (try simp -implicitDefEqProofs (disch := omega) only [go_sem, ↓reduceIte])
      (try simp (disch := omega) only [if_pos, Nat.sub_zero])
      exact leT_refl _
     ·refine runX_condF rfl c4 ?_
      refine runX_seq ?_
      refine runX_regionC fun C hC => ?_
      try simp -implicitDefEqProofs (disch := omega) only [go_sem, ↓reduceIte]
      rcases iteB_some h with ⟨c5, h⟩ | ⟨c5, h⟩
      ·refine guardK_T c5 ?_
       try simp -implicitDefEqProofs (disch := omega) only [go_sem, ↓reduceIte]
       refine toEnd hC ?_
       refine endX_seq ?_
       rcases iteB_some h with ⟨c6, h⟩ | ⟨c6, h⟩
       ·refine runX_condT rfl c6 ?_
        refine runX_seq ?_
        refine runX_regionC fun C hC => ?_
        try simp -implicitDefEqProofs (disch := omega) only [go_sem, ↓reduceIte]
        refine toEnd hC ?_
        refine endX_seq ?_
        refine runX_ret ?_
        refine endX_blkR ?_
        refine endX_seqR ?_
        refine endX_q ?_
        obtain rfl := Option.some.inj h
        show RetW _ _ _ _ _
        simp only [RetW]
        (try simp -implicitDefEqProofs (disch := omega) only [go_sem, ↓reduceIte])
        (try simp (disch := omega) only [if_pos, Nat.sub_zero])
        exact leT_refl _
       ·refine runX_condF rfl c6 ?_
        refine runX_seq ?_
        refine runX_regionC fun C hC => ?_
        try simp -implicitDefEqProofs (disch := omega) only [go_sem, ↓reduceIte]
        refine toEnd hC ?_
        refine endX_seq ?_
        rcases iteB_some h with ⟨c7, h⟩ | ⟨c7, h⟩
        ·refine runX_condT rfl c7 ?_
         refine runX_seq ?_
         refine runX_regionC fun C hC => ?_
         try simp -implicitDefEqProofs (disch := omega) only [go_sem, ↓reduceIte]
         refine toEnd hC ?_
         refine endX_seq ?_
         refine runX_ret ?_
         refine endX_blkR ?_
         refine endX_seqR ?_
         refine endX_q ?_
         obtain rfl := Option.some.inj h
         show RetW _ _ _ _ _
         simp only [RetW]
         (try simp -implicitDefEqProofs (disch := omega) only [go_sem, ↓reduceIte])
         (try simp (disch := omega) only [if_pos, Nat.sub_zero])
         exact leT_refl _
        ·refine runX_condF rfl c7 ?_
         refine runX_seq ?_
         refine runX_regionC fun C hC => ?_
         try simp -implicitDefEqProofs (disch := omega) only [go_sem, ↓reduceIte]
         refine toEnd hC ?_
         refine endX_seq ?_
         rcases iteB_some h with ⟨c8, h⟩ | ⟨c8, h⟩
         ·refine runX_condT rfl c8 ?_
          refine runX_seq ?_
          refine runX_regionC fun C hC => ?_
          try simp -implicitDefEqProofs (disch := omega) only [go_sem, ↓reduceIte]
          refine toEnd hC ?_
          refine endX_seq ?_
          refine runX_ret ?_
          refine endX_blkR ?_
          refine endX_seqR ?_
          refine endX_q ?_
          obtain rfl := Option.some.inj h
          show RetW _ _ _ _ _
          simp only [RetW]
          (try simp -implicitDefEqProofs (disch := omega) only [go_sem, ↓reduceIte])
          (try simp (disch := omega) only [if_pos, Nat.sub_zero])
          exact leT_refl _
         ·refine runX_condF rfl c8 ?_
          refine runX_skip ?_
          refine endX_blk ?_
          refine endX_seq ?_
          refine runX_seq ?_
          refine runX_regionC fun C hC => ?_
          try simp -implicitDefEqProofs (disch := omega) only [go_sem, ↓reduceIte]
          refine toEnd hC ?_
          refine endX_seq ?_
          refine runX_ret ?_
          refine endX_q ?_
          obtain rfl := Option.some.inj h
          show RetW _ _ _ _ _
          simp only [RetW]
          (try simp -implicitDefEqProofs (disch := omega) only [go_sem, ↓reduceIte])
          (try simp (disch := omega) only [if_pos, Nat.sub_zero])
          exact leT_refl _
      ·refine guardK_F c5 ?_
       try simp -implicitDefEqProofs (disch := omega) only [go_sem, ↓reduceIte]
       refine toEnd hC ?_
       refine endX_seq ?_
       refine runX_condF rfl rfl ?_
       refine runX_seq ?_
       refine runX_regionC fun C hC => ?_
       try simp -implicitDefEqProofs (disch := omega) only [go_sem, ↓reduceIte]
       refine toEnd hC ?_
       refine endX_seq ?_
       rcases iteB_some h with ⟨c9, h⟩ | ⟨c9, h⟩
       ·refine runX_condT rfl c9 ?_
        refine runX_seq ?_
        refine runX_regionC fun C hC => ?_
        try simp -implicitDefEqProofs (disch := omega) only [go_sem, ↓reduceIte]
        refine toEnd hC ?_
        refine endX_seq ?_
        refine runX_ret ?_
        refine endX_blkR ?_
        refine endX_seqR ?_
        refine endX_q ?_
        obtain rfl := Option.some.inj h
        show RetW _ _ _ _ _
        simp only [RetW]
        (try simp -implicitDefEqProofs (disch := omega) only [go_sem, ↓reduceIte])
        (try simp (disch := omega) only [if_pos, Nat.sub_zero])
        exact leT_refl _
       ·refine runX_condF rfl c9 ?_
        refine runX_seq ?_
        refine runX_regionC fun C hC => ?_
        try simp -implicitDefEqProofs (disch := omega) only [go_sem, ↓reduceIte]
        refine toEnd hC ?_
        refine endX_seq ?_
        rcases iteB_some h with ⟨c10, h⟩ | ⟨c10, h⟩
        ·refine runX_condT rfl c10 ?_
         refine runX_seq ?_
         refine runX_regionC fun C hC => ?_
         try simp -implicitDefEqProofs (disch := omega) only [go_sem, ↓reduceIte]
         refine toEnd hC ?_
         refine endX_seq ?_
         refine runX_ret ?_
         refine endX_blkR ?_
         refine endX_seqR ?_
         refine endX_q ?_
         obtain rfl := Option.some.inj h
         show RetW _ _ _ _ _
         simp only [RetW]
         (try simp -implicitDefEqProofs (disch := omega) only [go_sem, ↓reduceIte])
         (try simp (disch := omega) only [if_pos, Nat.sub_zero])
         exact leT_refl _
        ·refine runX_condF rfl c10 ?_
         refine runX_skip ?_
         refine endX_blk ?_
         refine endX_seq ?_
         refine runX_seq ?_
         refine runX_regionC fun C hC => ?_
         try simp -implicitDefEqProofs (disch := omega) only [go_sem, ↓reduceIte]
         refine toEnd hC ?_
         refine endX_seq ?_
         refine runX_ret ?_
         refine endX_q ?_
         obtain rfl := Option.some.inj h
         show RetW _ _ _ _ _
         simp only [RetW]
         (try simp -implicitDefEqProofs (disch := omega) only [go_sem, ↓reduceIte])
         (try simp (disch := omega) only [if_pos, Nat.sub_zero])
         exact leT_refl _
    ·refine guardK_F c3 ?_
     try simp -implicitDefEqProofs (disch := omega) only [go_sem, ↓reduceIte]
     refine toEnd hC ?_
     refine endX_seq ?_
     refine runX_condF rfl rfl ?_
     refine runX_seq ?_
     refine runX_regionC fun C hC => ?_
     try simp -implicitDefEqProofs (disch := omega) only [go_sem, ↓reduceIte]
     rcases iteB_some h with ⟨c11, h⟩ | ⟨c11, h⟩
     ·refine guardK_T c11 ?_
      try simp -implicitDefEqProofs (disch := omega) only [go_sem, ↓reduceIte]
      refine toEnd hC ?_
      refine endX_seq ?_
      rcases iteB_some h with ⟨c12, h⟩ | ⟨c12, h⟩
      ·refine runX_condT rfl c12 ?_
       refine runX_seq ?_
       refine runX_regionC fun C hC => ?_
       try simp -implicitDefEqProofs (disch := omega) only [go_sem, ↓reduceIte]
       refine toEnd hC ?_
       refine endX_seq ?_
       refine runX_ret ?_
       refine endX_blkR ?_
       refine endX_seqR ?_
       refine endX_q ?_
       obtain rfl := Option.some.inj h
       show RetW _ _ _ _ _
       simp only [RetW]
       (try simp -implicitDefEqProofs (disch := omega) only [go_sem, ↓reduceIte])
       (try simp (disch := omega) only [if_pos, Nat.sub_zero])
       exact leT_refl _
      ·refine runX_condF rfl c12 ?_
       refine runX_seq ?_
       refine runX_regionC fun C hC => ?_
       try simp -implicitDefEqProofs (disch := omega) only [go_sem, ↓reduceIte]
       refine toEnd hC ?_
       refine endX_seq ?_
       rcases iteB_some h with ⟨c13, h⟩ | ⟨c13, h⟩
       ·refine runX_condT rfl c13 ?_
        refine runX_seq ?_
        refine runX_regionC fun C hC => ?_
        try simp -implicitDefEqProofs (disch := omega) only [go_sem, ↓reduceIte]
        refine toEnd hC ?_
        refine endX_seq ?_
        refine runX_ret ?_
        refine endX_blkR ?_
        refine endX_seqR ?_
        refine endX_q ?_
        obtain rfl := Option.some.inj h
        show RetW _ _ _ _ _
        simp only [RetW]
        (try simp -implicitDefEqProofs (disch := omega) only [go_sem, ↓reduceIte])
        (try simp (disch := omega) only [if_pos, Nat.sub_zero])
        exact leT_refl _
       ·refine runX_condF rfl c13 ?_
        refine runX_seq ?_
        refine runX_regionC fun C hC => ?_
        try simp -implicitDefEqProofs (disch := omega) only [go_sem, ↓reduceIte]
        refine toEnd hC ?_
        refine endX_seq ?_
        rcases iteB_some h with ⟨c14, h⟩ | ⟨c14, h⟩
        ·refine runX_condT rfl c14 ?_
         refine runX_seq ?_
         refine runX_regionC fun C hC => ?_
         try simp -implicitDefEqProofs (disch := omega) only [go_sem, ↓reduceIte]
         refine toEnd hC ?_
         refine endX_seq ?_
         refine runX_ret ?_
         refine endX_blkR ?_
         refine endX_seqR ?_
         refine endX_q ?_
         obtain rfl := Option.some.inj h
         show RetW _ _ _ _ _
         simp only [RetW]
         (try simp -implicitDefEqProofs (disch := omega) only [go_sem, ↓reduceIte])
         (try simp (disch := omega) only [if_pos, Nat.sub_zero])
         exact leT_refl _
        ·refine runX_condF rfl c14 ?_
         refine runX_skip ?_
         refine endX_blk ?_
         refine endX_seq ?_
         refine runX_seq ?_
         refine runX_regionC fun C hC => ?_
         try simp -implicitDefEqProofs (disch := omega) only [go_sem, ↓reduceIte]
         refine toEnd hC ?_
         refine endX_seq ?_
         refine runX_ret ?_
         refine endX_q ?_
         obtain rfl := Option.some.inj h
         show RetW _ _ _ _ _
         simp only [RetW]
         (try simp -implicitDefEqProofs (disch := omega) only [go_sem, ↓reduceIte])
         (try simp (disch := omega) only [if_pos, Nat.sub_zero])
         exact leT_refl _
     ·refine guardK_F c11 ?_
      try simp -implicitDefEqProofs (disch := omega) only [go_sem, ↓reduceIte]
      refine toEnd hC ?_
      refine endX_seq ?_
      refine runX_condF rfl rfl ?_
      refine runX_seq ?_
      refine runX_regionC fun C hC => ?_
      try simp -implicitDefEqProofs (disch := omega) only [go_sem, ↓reduceIte]
      refine toEnd hC ?_
      refine endX_seq ?_
      rcases iteB_some h with ⟨c15, h⟩ | ⟨c15, h⟩
      ·refine runX_condT rfl c15 ?_
       refine runX_seq ?_
       refine runX_regionC fun C hC => ?_
       try simp -implicitDefEqProofs (disch := omega) only [go_sem, ↓reduceIte]
       refine toEnd hC ?_
       refine endX_seq ?_
       refine runX_ret ?_
       refine endX_blkR ?_
       refine endX_seqR ?_
       refine endX_q ?_
       obtain rfl := Option.some.inj h
       show RetW _ _ _ _ _
       simp only [RetW]
       (try simp -implicitDefEqProofs (disch := omega) only [go_sem, ↓reduceIte])
       (try simp (disch := omega) only [if_pos, Nat.sub_zero])
       exact leT_refl _
      ·refine runX_condF rfl c15 ?_
       refine runX_seq ?_
       refine runX_regionC fun C hC => ?_
       try simp -implicitDefEqProofs (disch := omega) only [go_sem, ↓reduceIte]
       refine toEnd hC ?_
       refine endX_seq ?_
       rcases iteB_some h with ⟨c16, h⟩ | ⟨c16, h⟩
       ·refine runX_condT rfl c16 ?_
        refine runX_seq ?_
        refine runX_regionC fun C hC => ?_
        try simp -implicitDefEqProofs (disch := omega) only [go_sem, ↓reduceIte]
        refine toEnd hC ?_
        refine endX_seq ?_
        refine runX_ret ?_
        refine endX_blkR ?_
        refine endX_seqR ?_
        refine endX_q ?_
        obtain rfl := Option.some.inj h
        show RetW _ _ _ _ _
        simp only [RetW]
        (try simp -implicitDefEqProofs (disch := omega) only [go_sem, ↓reduceIte])
        (try simp (disch := omega) only [if_pos, Nat.sub_zero])
        exact leT_refl _
       ·refine runX_condF rfl c16 ?_
        refine runX_skip ?_
        refine endX_blk ?_
        refine endX_seq ?_
        refine runX_seq ?_
        refine runX_regionC fun C hC => ?_
        try simp -implicitDefEqProofs (disch := omega) only [go_sem, ↓reduceIte]
        refine toEnd hC ?_
        refine endX_seq ?_
        refine runX_ret ?_
        refine endX_q ?_
        obtain rfl := Option.some.inj h
        show RetW _ _ _ _ _
        simp only [RetW]
        (try simp -implicitDefEqProofs (disch := omega) only [go_sem, ↓reduceIte])
        (try simp (disch := omega) only [if_pos, Nat.sub_zero])
        exact leT_refl _
  ·refine guardK_F c1 ?_
   try simp -implicitDefEqProofs (disch := omega) only [go_sem, ↓reduceIte]
   refine toEnd hC ?_
   refine endX_seq ?_
   refine runX_condF rfl rfl ?_
   refine runX_seq ?_
   refine runX_regionC fun C hC => ?_
   try simp -implicitDefEqProofs (disch := omega) only [go_sem, ↓reduceIte]
   rcases iteB_some h with ⟨c17, h⟩ | ⟨c17, h⟩
   ·refine guardK_T c17 ?_
    try simp -implicitDefEqProofs (disch := omega) only [go_sem, ↓reduceIte]
    refine toEnd hC ?_
    refine endX_seq ?_
    rcases iteB_some h with ⟨c18, h⟩ | ⟨c18, h⟩
    ·refine runX_condT rfl c18 ?_
     refine runX_seq ?_
     refine runX_regionC fun C hC => ?_
     try simp -implicitDefEqProofs (disch := omega) only [go_sem, ↓reduceIte]
     refine toEnd hC ?_
     refine endX_seq ?_
     refine runX_ret ?_
     refine endX_blkR ?_
     refine endX_seqR ?_
     refine endX_q ?_
     obtain rfl := Option.some.inj h
     show RetW _ _ _ _ _
     simp only [RetW]
     (try simp -implicitDefEqProofs (disch := omega) only [go_sem, ↓reduceIte])
     (try simp (disch := omega) only [if_pos, Nat.sub_zero])
     exact leT_refl _
    ·refine runX_condF rfl c18 ?_
     refine runX_seq ?_
     refine runX_regionC fun C hC => ?_
     try simp -implicitDefEqProofs (disch := omega) only [go_sem, ↓reduceIte]
     rcases iteB_some h with ⟨c19, h⟩ | ⟨c19, h⟩
     ·refine guardK_T c19 ?_
      try simp -implicitDefEqProofs (disch := omega) only [go_sem, ↓reduceIte]
      refine toEnd hC ?_
      refine endX_seq ?_
      rcases iteB_some h with ⟨c20, h⟩ | ⟨c20, h⟩
      ·refine runX_condT rfl c20 ?_
       refine runX_seq ?_
       refine runX_regionC fun C hC => ?_
       try simp -implicitDefEqProofs (disch := omega) only [go_sem, ↓reduceIte]
       refine toEnd hC ?_
       refine endX_seq ?_
       refine runX_ret ?_
       refine endX_blkR ?_
       refine endX_seqR ?_
       refine endX_q ?_
       obtain rfl := Option.some.inj h
       show RetW _ _ _ _ _
       simp only [RetW]
       (try simp -implicitDefEqProofs (disch := omega) only [go_sem, ↓reduceIte])
       (try simp (disch := omega) only [if_pos, Nat.sub_zero])
       exact leT_refl _
      ·refine runX_condF rfl c20 ?_
       refine runX_seq ?_
       refine runX_regionC fun C hC => ?_
       try simp -implicitDefEqProofs (disch := omega) only [go_sem, ↓reduceIte]
       refine toEnd hC ?_
       refine endX_seq ?_
       rcases iteB_some h with ⟨c21, h⟩ | ⟨c21, h⟩
       ·refine runX_condT rfl c21 ?_
        refine runX_seq ?_
        refine runX_regionC fun C hC => ?_
        try simp -implicitDefEqProofs (disch := omega) only [go_sem, ↓reduceIte]
        refine toEnd hC ?_
        refine endX_seq ?_
        refine runX_ret ?_
        refine endX_blkR ?_
        refine endX_seqR ?_
        refine endX_q ?_
        obtain rfl := Option.some.inj h
        show RetW _ _ _ _ _
        simp only [RetW]
        (try simp -implicitDefEqProofs (disch := omega) only [go_sem, ↓reduceIte])
        (try simp (disch := omega) only [if_pos, Nat.sub_zero])
        exact leT_refl _
       ·refine runX_condF rfl c21 ?_
        refine runX_seq ?_
        refine runX_regionC fun C hC => ?_
        try simp -implicitDefEqProofs (disch := omega) only [go_sem, ↓reduceIte]
        refine toEnd hC ?_
        refine endX_seq ?_
        rcases iteB_some h with ⟨c22, h⟩ | ⟨c22, h⟩
        ·refine runX_condT rfl c22 ?_
         refine runX_seq ?_
         refine runX_regionC fun C hC => ?_
         try simp -implicitDefEqProofs (disch := omega) only [go_sem, ↓reduceIte]
         refine toEnd hC ?_
         refine endX_seq ?_
         refine runX_ret ?_
         refine endX_blkR ?_
         refine endX_seqR ?_
         refine endX_q ?_
         obtain rfl := Option.some.inj h
         show RetW _ _ _ _ _
         simp only [RetW]
         (try simp -implicitDefEqProofs (disch := omega) only [go_sem, ↓reduceIte])
         (try simp (disch := omega) only [if_pos, Nat.sub_zero])
         exact leT_refl _
        ·refine runX_condF rfl c22 ?_
         refine runX_skip ?_
         refine endX_blk ?_
         refine endX_seq ?_
         refine runX_seq ?_
         refine runX_regionC fun C hC => ?_
         try simp -implicitDefEqProofs (disch := omega) only [go_sem, ↓reduceIte]
         refine toEnd hC ?_
         refine endX_seq ?_
         refine runX_ret ?_
         refine endX_q ?_
         obtain rfl := Option.some.inj h
         show RetW _ _ _ _ _
         simp only [RetW]
         (try simp -implicitDefEqProofs (disch := omega) only [go_sem, ↓reduceIte])
         (try simp (disch := omega) only [if_pos, Nat.sub_zero])
         exact leT_refl _
     ·refine guardK_F c19 ?_
      try simp -implicitDefEqProofs (disch := omega) only [go_sem, ↓reduceIte]
      refine toEnd hC ?_
      refine endX_seq ?_
      refine runX_condF rfl rfl ?_
      refine runX_seq ?_
      refine runX_regionC fun C hC => ?_
      try simp -implicitDefEqProofs (disch := omega) only [go_sem, ↓reduceIte]
      refine toEnd hC ?_
      refine endX_seq ?_
      rcases iteB_some h with ⟨c23, h⟩ | ⟨c23, h⟩
      ·refine runX_condT rfl c23 ?_
       refine runX_seq ?_
       refine runX_regionC fun C hC => ?_
       try simp -implicitDefEqProofs (disch := omega) only [go_sem, ↓reduceIte]
       refine toEnd hC ?_
       refine endX_seq ?_
       refine runX_ret ?_
       refine endX_blkR ?_
       refine endX_seqR ?_
       refine endX_q ?_
       obtain rfl := Option.some.inj h
       show RetW _ _ _ _ _
       simp only [RetW]
       (try simp -implicitDefEqProofs (disch := omega) only [go_sem, ↓reduceIte])
       (try simp (disch := omega) only [if_pos, Nat.sub_zero])
       exact leT_refl _
      ·refine runX_condF rfl c23 ?_
       refine runX_seq ?_
       refine runX_regionC fun C hC => ?_
       try simp -implicitDefEqProofs (disch := omega) only [go_sem, ↓reduceIte]
       refine toEnd hC ?_
       refine endX_seq ?_
       rcases iteB_some h with ⟨c24, h⟩ | ⟨c24, h⟩
       ·refine runX_condT rfl c24 ?_
        refine runX_seq ?_
        refine runX_regionC fun C hC => ?_
        try simp -implicitDefEqProofs (disch := omega) only [go_sem, ↓reduceIte]
        refine toEnd hC ?_
        refine endX_seq ?_
        refine runX_ret ?_
        refine endX_blkR ?_
        refine endX_seqR ?_
        refine endX_q ?_
        obtain rfl := Option.some.inj h
        show RetW _ _ _ _ _
        simp only [RetW]
        (try simp -implicitDefEqProofs (disch := omega) only [go_sem, ↓reduceIte])
        (try simp (disch := omega) only [if_pos, Nat.sub_zero])
        exact leT_refl _
       ·refine runX_condF rfl c24 ?_
        refine runX_skip ?_
        refine endX_blk ?_
        refine endX_seq ?_
        refine runX_seq ?_
        refine runX_regionC fun C hC => ?_
        try simp -implicitDefEqProofs (disch := omega) only [go_sem, ↓reduceIte]
        refine toEnd hC ?_
        refine endX_seq ?_
        refine runX_ret ?_
        refine endX_q ?_
        obtain rfl := Option.some.inj h
        show RetW _ _ _ _ _
        simp only [RetW]
        (try simp -implicitDefEqProofs (disch := omega) only [go_sem, ↓reduceIte])
        (try simp (disch := omega) only [if_pos, Nat.sub_zero])
        exact leT_refl _
   ·refine guardK_F c17 ?_
    try simp -implicitDefEqProofs (disch := omega) only [go_sem, ↓reduceIte]
    refine toEnd hC ?_
    refine endX_seq ?_
    refine runX_condF rfl rfl ?_
    refine runX_seq ?_
    refine runX_regionC fun C hC => ?_
    try simp -implicitDefEqProofs (disch := omega) only [go_sem, ↓reduceIte]
    rcases iteB_some h with ⟨c25, h⟩ | ⟨c25, h⟩
    ·refine guardK_T c25 ?_
     try simp -implicitDefEqProofs (disch := omega) only [go_sem, ↓reduceIte]
     refine toEnd hC ?_
     refine endX_seq ?_
     rcases iteB_some h with ⟨c26, h⟩ | ⟨c26, h⟩
     ·refine runX_condT rfl c26 ?_
      refine runX_seq ?_
      refine runX_regionC fun C hC => ?_
      try simp -implicitDefEqProofs (disch := omega) only [go_sem, ↓reduceIte]
      refine toEnd hC ?_
      refine endX_seq ?_
      refine runX_ret ?_
      refine endX_blkR ?_
      refine endX_seqR ?_
      refine endX_q ?_
      obtain rfl := Option.some.inj h
      show RetW _ _ _ _ _
      simp only [RetW]
      (try simp -implicitDefEqProofs (disch := omega) only [go_sem, ↓reduceIte])
      (try simp (disch := omega) only [if_pos, Nat.sub_zero])
      exact leT_refl _
     ·refine runX_condF rfl c26 ?_
      refine runX_seq ?_
      refine runX_regionC fun C hC => ?_
      try simp -implicitDefEqProofs (disch := omega) only [go_sem, ↓reduceIte]
      refine toEnd hC ?_
      refine endX_seq ?_
      rcases iteB_some h with ⟨c27, h⟩ | ⟨c27, h⟩
      ·refine runX_condT rfl c27 ?_
       refine runX_seq ?_
       refine runX_regionC fun C hC => ?_
       try simp -implicitDefEqProofs (disch := omega) only [go_sem, ↓reduceIte]
       refine toEnd hC ?_
       refine endX_seq ?_
       refine runX_ret ?_
       refine endX_blkR ?_
       refine endX_seqR ?_
       refine endX_q ?_
       obtain rfl := Option.some.inj h
       show RetW _ _ _ _ _
       simp only [RetW]
       (try simp -implicitDefEqProofs (disch := omega) only [go_sem, ↓reduceIte])
       (try simp (disch := omega) only [if_pos, Nat.sub_zero])
       exact leT_refl _
      ·refine runX_condF rfl c27 ?_
       refine runX_seq ?_
       refine runX_regionC fun C hC => ?_
       try simp -implicitDefEqProofs (disch := omega) only [go_sem, ↓reduceIte]
       refine toEnd hC ?_
       refine endX_seq ?_
       rcases iteB_some h with ⟨c28, h⟩ | ⟨c28, h⟩
       ·refine runX_condT rfl c28 ?_
        refine runX_seq ?_
        refine runX_regionC fun C hC => ?_
        try simp -implicitDefEqProofs (disch := omega) only [go_sem, ↓reduceIte]
        refine toEnd hC ?_
        refine endX_seq ?_
        refine runX_ret ?_
        refine endX_blkR ?_
        refine endX_seqR ?_
        refine endX_q ?_
        obtain rfl := Option.some.inj h
        show RetW _ _ _ _ _
        simp only [RetW]
        (try simp -implicitDefEqProofs (disch := omega) only [go_sem, ↓reduceIte])
        (try simp (disch := omega) only [if_pos, Nat.sub_zero])
        exact leT_refl _
       ·refine runX_condF rfl c28 ?_
        refine runX_skip ?_
        refine endX_blk ?_
        refine endX_seq ?_
        refine runX_seq ?_
        refine runX_regionC fun C hC => ?_
        try simp -implicitDefEqProofs (disch := omega) only [go_sem, ↓reduceIte]
        refine toEnd hC ?_
        refine endX_seq ?_
        refine runX_ret ?_
        refine endX_q ?_
        obtain rfl := Option.some.inj h
        show RetW _ _ _ _ _
        simp only [RetW]
        (try simp -implicitDefEqProofs (disch := omega) only [go_sem, ↓reduceIte])
        (try simp (disch := omega) only [if_pos, Nat.sub_zero])
        exact leT_refl _
    ·refine guardK_F c25 ?_
     try simp -implicitDefEqProofs (disch := omega) only [go_sem, ↓reduceIte]
     refine toEnd hC ?_
     refine endX_seq ?_
     refine runX_condF rfl rfl ?_
     refine runX_seq ?_
     refine runX_regionC fun C hC => ?_
     try simp -implicitDefEqProofs (disch := omega) only [go_sem, ↓reduceIte]
     refine toEnd hC ?_
     refine endX_seq ?_
     rcases iteB_some h with ⟨c29, h⟩ | ⟨c29, h⟩
     ·refine runX_condT rfl c29 ?_
      refine runX_seq ?_
      refine runX_regionC fun C hC => ?_
      try simp -implicitDefEqProofs (disch := omega) only [go_sem, ↓reduceIte]
      refine toEnd hC ?_
      refine endX_seq ?_
      refine runX_ret ?_
      refine endX_blkR ?_
      refine endX_seqR ?_
      refine endX_q ?_
      obtain rfl := Option.some.inj h
      show RetW _ _ _ _ _
      simp only [RetW]
      (try simp -implicitDefEqProofs (disch := omega) only [go_sem, ↓reduceIte])
      (try simp (disch := omega) only [if_pos, Nat.sub_zero])
      exact leT_refl _
     ·refine runX_condF rfl c29 ?_
      refine runX_seq ?_
      refine runX_regionC fun C hC => ?_
      try simp -implicitDefEqProofs (disch := omega) only [go_sem, ↓reduceIte]
      refine toEnd hC ?_
      refine endX_seq ?_
      rcases iteB_some h with ⟨c30, h⟩ | ⟨c30, h⟩
      ·refine runX_condT rfl c30 ?_
       refine runX_seq ?_
       refine runX_regionC fun C hC => ?_
       try simp -implicitDefEqProofs (disch := omega) only [go_sem, ↓reduceIte]
       refine toEnd hC ?_
       refine endX_seq ?_
       refine runX_ret ?_
       refine endX_blkR ?_
       refine endX_seqR ?_
       refine endX_q ?_
       obtain rfl := Option.some.inj h
       show RetW _ _ _ _ _
       simp only [RetW]
       (try simp -implicitDefEqProofs (disch := omega) only [go_sem, ↓reduceIte])
       (try simp (disch := omega) only [if_pos, Nat.sub_zero])
       exact leT_refl _
      ·refine runX_condF rfl c30 ?_
       refine runX_skip ?_
       refine endX_blk ?_
       refine endX_seq ?_
       refine runX_seq ?_
       refine runX_regionC fun C hC => ?_
       try simp -implicitDefEqProofs (disch := omega) only [go_sem, ↓reduceIte]
       refine toEnd hC ?_
       refine endX_seq ?_
       refine runX_ret ?_
       refine endX_q ?_
       obtain rfl := Option.some.inj h
       show RetW _ _ _ _ _
       simp only [RetW]
       (try simp -implicitDefEqProofs (disch := omega) only [go_sem, ↓reduceIte])
       (try simp (disch := omega) only [if_pos, Nat.sub_zero])
       exact leT_refl _
end Go.Proofs.YtaiapalhdejngaaX

set_option linter.unusedVariables false
set_option linter.unusedSimpArgs false
namespace Go.Proofs.YtaiapalhdejngaaX
open Go Go.RowKit Go.Proofs
set_option maxRecDepth 100000
attribute [local go_sem ↓] stepsK_build stepsK_bs appendS
attribute [local go_sem] String.reduceEq String.reduceNe reduceCtorEq Int.reduceEq Nat.reduceAdd Nat.reduceSub Nat.reduceMul Nat.reduceLT Nat.reduceLeDiff Nat.reduceEqDiff Nat.reduceBEq Int.reduceToNat Int.reduceLT Int.reduceLE Int.reduceGT Int.reduceGE Int.reduceAdd Int.reduceSub Int.reduceMul Int.reduceNeg Int.reduceBEq Int.reduceBNe Int.reducePow Int.reduceDiv Int.reduceMod Int.reduceTDiv Int.reduceTMod Int.reduceNatCast
/-! ### base.trio -/
def F103_S2 (a0 : List UInt8) (v2 : Int) : St := ⟨[.imm (.string (bs a0)), .junk, .junk, .junk, .imm (.int .i64 (0 : Int)), .imm (.int .i64 (3 : Int)), .imm (.int .i64 (0 : Int)), .imm (.int .i64 v2), .junk, .junk, .junk, .imm (.int .i64 (0 : Int)), .junk, .junk, .junk, .junk, .junk, .junk, .junk, .junk, .junk, .junk, .junk, .junk, .junk, .junk, .junk, .junk, .junk, .junk, .junk, .junk, .junk, .junk, .junk, .junk, .junk, .junk, .junk, .junk, .junk, .junk, .junk, .junk, .junk, .junk, .junk, .junk, .junk, .junk, .junk, .junk, .junk, .junk, .junk, .junk, .junk, .junk, .junk, .junk, .junk, .junk, .junk, .junk, .junk, .junk, .junk, .junk, .junk, .junk, .junk, .junk, .junk, .junk, .junk], []⟩
def F103_S4 (a0 : List UInt8) (x6 : Int) (v8 : Int) : St := ⟨[.imm (.string (bs a0)), .junk, .junk, .junk, .imm (.int .i64 x6), .imm (.int .i64 (3 : Int)), .imm (.int .i64 (1 : Int)), .imm (.int .i64 v8), .junk, .junk, .junk, .imm (.int .i64 (1 : Int)), .junk, .junk, .junk, .junk, .junk, .junk, .junk, .junk, .junk, .junk, .junk, .junk, .junk, .junk, .junk, .junk, .junk, .junk, .junk, .junk, .junk, .junk, .junk, .junk, .junk, .junk, .junk, .junk, .junk, .junk, .junk, .junk, .junk, .junk, .junk, .junk, .junk, .junk, .junk, .junk, .junk, .junk, .junk, .junk, .junk, .junk, .junk, .junk, .junk, .junk, .junk, .junk, .junk, .junk, .junk, .junk, .junk, .junk, .junk, .junk, .junk, .junk, .junk], []⟩
def F103_S6 (a0 : List UInt8) (x12 : Int) (x19 : Int) (x20 : Int) : St := ⟨[.imm (.string (bs a0)), .junk, .junk, .junk, .imm (.int .i64 x12), .imm (.int .i64 x19), .imm (.int .i64 (2 : Int)), .imm (.int .i64 x20), .junk, .junk, .junk, .imm (.int .i64 (2 : Int)), .junk, .junk, .junk, .junk, .junk, .junk, .junk, .junk, .junk, .junk, .junk, .junk, .junk, .junk, .junk, .junk, .junk, .junk, .junk, .junk, .junk, .junk, .junk, .junk, .junk, .junk, .junk, .junk, .junk, .junk, .junk, .junk, .junk, .junk, .junk, .junk, .junk, .junk, .junk, .junk, .junk, .junk, .junk, .junk, .junk, .junk, .junk, .junk, .junk, .junk, .junk, .junk, .junk, .junk, .junk, .junk, .junk, .junk, .junk, .junk, .junk, .junk, .junk], []⟩
def F103_S8 (a0 : List UInt8) (x25 : Int) (x33 : Int) (x34 : Int) : St := ⟨[.imm (.string (bs a0)), .junk, .junk, .junk, .imm (.int .i64 x25), .imm (.int .i64 x33), .imm (.int .i64 (3 : Int)), .imm (.int .i64 x34), .junk, .junk, .junk, .imm (.int .i64 (3 : Int)), .junk, .junk, .junk, .junk, .junk, .junk, .junk, .junk, .junk, .junk, .junk, .junk, .junk, .junk, .junk, .junk, .junk, .junk, .junk, .junk, .junk, .junk, .junk, .junk, .junk, .junk, .junk, .junk, .junk, .junk, .junk, .junk, .junk, .junk, .junk, .junk, .junk, .junk, .junk, .junk, .junk, .junk, .junk, .junk, .junk, .junk, .junk, .junk, .junk, .junk, .junk, .junk, .junk, .junk, .junk, .junk, .junk, .junk, .junk, .junk, .junk, .junk, .junk], []⟩
def F103_S9 (x40 : Int) (x39 : Int) (x43 : Int) : St := ⟨[.junk, .junk, .junk, .junk, .junk, .imm (.int .i64 x40), .junk, .junk, .sl 1 true (List.map byteT [(IntKind.wrap .u8 ((bShr .i64 x39 16))), (IntKind.wrap .u8 ((bShr .i64 x39 8))), (IntKind.wrap .u8 (x39))]), .junk, .junk, .junk, .junk, .junk, .junk, .junk, .junk, .junk, .junk, .junk, .junk, .junk, .junk, .junk, .junk, .junk, .junk, .junk, .junk, .junk, .junk, .junk, .junk, .junk, .junk, .junk, .junk, .junk, .junk, .junk, .junk, .junk, .junk, .junk, .junk, .junk, .junk, .junk, .junk, .junk, .junk, .junk, .junk, .junk, .junk, .junk, .junk, .junk, .junk, .junk, .junk, .junk, .junk, .sl 1 true (List.map byteT ([(IntKind.wrap .u8 ((bShr .i64 x39 16))), (IntKind.wrap .u8 ((bShr .i64 x39 8))), (IntKind.wrap .u8 (x39))].drop x40.toNat)), .imm (.int .i64 (([(IntKind.wrap .u8 ((bShr .i64 x39 16))), (IntKind.wrap .u8 ((bShr .i64 x39 8))), (IntKind.wrap .u8 (x39))].drop x40.toNat).length : Int)), .imm (.int .i64 x43), .junk, .junk, .junk, .junk, .junk, .junk, .junk, .junk, .junk], []⟩
def F103_S7 (a0 : List UInt8) (x39 : Int) (x40 : Int) : St := ⟨[.imm (.string (bs a0)), .junk, .junk, .junk, .imm (.int .i64 x39), .imm (.int .i64 x40), .junk, .junk, .junk, .junk, .junk, .imm (.int .i64 (3 : Int)), .junk, .junk, .junk, .junk, .junk, .junk, .junk, .junk, .junk, .junk, .junk, .junk, .junk, .junk, .junk, .junk, .junk, .junk, .junk, .junk, .junk, .junk, .junk, .junk, .junk, .junk, .junk, .junk, .junk, .junk, .junk, .junk, .junk, .junk, .junk, .junk, .junk, .junk, .junk, .junk, .junk, .junk, .junk, .junk, .junk, .junk, .junk, .junk, .junk, .junk, .junk, .junk, .junk, .junk, .junk, .junk, .junk, .junk, .junk, .junk, .junk, .junk, .junk], []⟩
def F103_S5 (a0 : List UInt8) (x25 : Int) (x26 : Int) : St := ⟨[.imm (.string (bs a0)), .junk, .junk, .junk, .imm (.int .i64 x25), .imm (.int .i64 x26), .junk, .junk, .junk, .junk, .junk, .imm (.int .i64 (2 : Int)), .junk, .junk, .junk, .junk, .junk, .junk, .junk, .junk, .junk, .junk, .junk, .junk, .junk, .junk, .junk, .junk, .junk, .junk, .junk, .junk, .junk, .junk, .junk, .junk, .junk, .junk, .junk, .junk, .junk, .junk, .junk, .junk, .junk, .junk, .junk, .junk, .junk, .junk, .junk, .junk, .junk, .junk, .junk, .junk, .junk, .junk, .junk, .junk, .junk, .junk, .junk, .junk, .junk, .junk, .junk, .junk, .junk, .junk, .junk, .junk, .junk, .junk, .junk], []⟩
def F103_S3 (a0 : List UInt8) (x12 : Int) : St := ⟨[.imm (.string (bs a0)), .junk, .junk, .junk, .imm (.int .i64 x12), .imm (.int .i64 (3 : Int)), .junk, .junk, .junk, .junk, .junk, .imm (.int .i64 (1 : Int)), .junk, .junk, .junk, .junk, .junk, .junk, .junk, .junk, .junk, .junk, .junk, .junk, .junk, .junk, .junk, .junk, .junk, .junk, .junk, .junk, .junk, .junk, .junk, .junk, .junk, .junk, .junk, .junk, .junk, .junk, .junk, .junk, .junk, .junk, .junk, .junk, .junk, .junk, .junk, .junk, .junk, .junk, .junk, .junk, .junk, .junk, .junk, .junk, .junk, .junk, .junk, .junk, .junk, .junk, .junk, .junk, .junk, .junk, .junk, .junk, .junk, .junk, .junk], []⟩
def F103_S1 (a0 : List UInt8) (x6 : Int) : St := ⟨[.imm (.string (bs a0)), .junk, .junk, .junk, .imm (.int .i64 x6), .imm (.int .i64 (3 : Int)), .junk, .junk, .junk, .junk, .junk, .imm (.int .i64 (0 : Int)), .junk, .junk, .junk, .junk, .junk, .junk, .junk, .junk, .junk, .junk, .junk, .junk, .junk, .junk, .junk, .junk, .junk, .junk, .junk, .junk, .junk, .junk, .junk, .junk, .junk, .junk, .junk, .junk, .junk, .junk, .junk, .junk, .junk, .junk, .junk, .junk, .junk, .junk, .junk, .junk, .junk, .junk, .junk, .junk, .junk, .junk, .junk, .junk, .junk, .junk, .junk, .junk, .junk, .junk, .junk, .junk, .junk, .junk, .junk, .junk, .junk, .junk, .junk], []⟩
mutual
def F103_J2 (n : Nat) (a0 : List UInt8) (v2 : Int) : Option ((List (Int)) × (Bool)) := iteB (decide (v2 < (0 : Int))) (some ([], false)) (F103_J1 n a0 (IntKind.wrap .i64 (bOr .i64 (IntKind.wrap .i64 (bShl .i64 (0 : Int) 6)) v2)))
def F103_J4 (n : Nat) (a0 : List UInt8) (x6 : Int) (v8 : Int) : Option ((List (Int)) × (Bool)) := iteB (decide (v8 < (0 : Int))) (some ([], false)) (F103_J3 n a0 (IntKind.wrap .i64 (bOr .i64 (IntKind.wrap .i64 (bShl .i64 x6 6)) v8)))
def F103_J6 (n : Nat) (a0 : List UInt8) (x12 : Int) (x19 : Int) (x20 : Int) : Option ((List (Int)) × (Bool)) := iteB (decide (x20 < (0 : Int))) (some ([], false)) (iteB (decide (x19 < (3 : Int))) (grd ((2 : Int) < (a0.length : Int)) (iteB (((a0.getD (2 : Int).toNat 0).toNat : Int) != (61 : Int)) (some ([], false)) (F103_J5 n a0 (IntKind.wrap .i64 (bOr .i64 (IntKind.wrap .i64 (bShl .i64 x12 6)) x20)) x19))) (F103_J5 n a0 (IntKind.wrap .i64 (bOr .i64 (IntKind.wrap .i64 (bShl .i64 x12 6)) x20)) x19))
def F103_J8 (n : Nat) (a0 : List UInt8) (x25 : Int) (x33 : Int) (x34 : Int) : Option ((List (Int)) × (Bool)) := iteB (decide (x34 < (0 : Int))) (some ([], false)) (iteB (decide (x33 < (3 : Int))) (grd ((3 : Int) < (a0.length : Int)) (iteB (((a0.getD (3 : Int).toNat 0).toNat : Int) != (61 : Int)) (some ([], false)) (F103_J7 n a0 (IntKind.wrap .i64 (bOr .i64 (IntKind.wrap .i64 (bShl .i64 x25 6)) x34)) x33))) (F103_J7 n a0 (IntKind.wrap .i64 (bOr .i64 (IntKind.wrap .i64 (bShl .i64 x25 6)) x34)) x33))
def F103_L9 : Nat → (Int) → (Int) → (Int) → Option ((List (Int)) × (Bool))
 | 0, _, _, _ => none
 | m9 + 1, x40, x39, x43 => iteB (decide (x43 < (([(IntKind.wrap .u8 ((bShr .i64 x39 16))), (IntKind.wrap .u8 ((bShr .i64 x39 8))), (IntKind.wrap .u8 (x39))].drop x40.toNat).length : Int))) (grd (0 ≤ x43 ∧ x43 < (([(IntKind.wrap .u8 ((bShr .i64 x39 16))), (IntKind.wrap .u8 ((bShr .i64 x39 8))), (IntKind.wrap .u8 (x39))].drop x40.toNat).length : Int)) (iteB ((([(IntKind.wrap .u8 ((bShr .i64 x39 16))), (IntKind.wrap .u8 ((bShr .i64 x39 8))), (IntKind.wrap .u8 (x39))].drop x40.toNat).getD x43.toNat default) != (0 : Int)) (some ([], false)) (F103_L9 m9 x40 x39 (IntKind.wrap .i64 (x43 + (1 : Int)))))) (grd (0 ≤ x40 ∧ x40 ≤ (3 : Int)) (some (([(IntKind.wrap .u8 ((bShr .i64 x39 16))), (IntKind.wrap .u8 ((bShr .i64 x39 8))), (IntKind.wrap .u8 (x39))].take x40.toNat), true)))
def F103_J7 (n : Nat) (a0 : List UInt8) (x39 : Int) (x40 : Int) : Option ((List (Int)) × (Bool)) := grd (0 ≤ x40 ∧ x40 ≤ (3 : Int)) (F103_L9 n x40 x39 (0 : Int))
def F103_J5 (n : Nat) (a0 : List UInt8) (x25 : Int) (x26 : Int) : Option ((List (Int)) × (Bool)) := grd ((3 : Int) < (a0.length : Int)) ((F118 n ((a0.getD (3 : Int).toNat 0).toNat : Int)).bind fun v28 => grd ((3 : Int) < (a0.length : Int)) (iteB (((a0.getD (3 : Int).toNat 0).toNat : Int) == (61 : Int)) (grd ((3 : Int) < (a0.length : Int)) (iteB (((a0.getD (3 : Int).toNat 0).toNat : Int) == (61 : Int)) (F103_J8 n a0 x25 (if (2 : Int) < x26 then (2 : Int) else x26) (0 : Int)) (F103_J8 n a0 x25 x26 v28))) (F103_J8 n a0 x25 x26 v28)))
def F103_J3 (n : Nat) (a0 : List UInt8) (x12 : Int) : Option ((List (Int)) × (Bool)) := grd ((2 : Int) < (a0.length : Int)) ((F118 n ((a0.getD (2 : Int).toNat 0).toNat : Int)).bind fun v14 => grd ((2 : Int) < (a0.length : Int)) (iteB (((a0.getD (2 : Int).toNat 0).toNat : Int) == (61 : Int)) (grd ((3 : Int) < (a0.length : Int)) (iteB (((a0.getD (3 : Int).toNat 0).toNat : Int) == (61 : Int)) (F103_J6 n a0 x12 (if (1 : Int) < (3 : Int) then (1 : Int) else (3 : Int)) (0 : Int)) (F103_J6 n a0 x12 (3 : Int) v14))) (F103_J6 n a0 x12 (3 : Int) v14)))
def F103_J1 (n : Nat) (a0 : List UInt8) (x6 : Int) : Option ((List (Int)) × (Bool)) := grd ((1 : Int) < (a0.length : Int)) ((F118 n ((a0.getD (1 : Int).toNat 0).toNat : Int)).bind fun v8 => grd ((1 : Int) < (a0.length : Int)) (iteB (((a0.getD (1 : Int).toNat 0).toNat : Int) == (61 : Int)) (F103_J4 n a0 x6 v8) (F103_J4 n a0 x6 v8)))
end
def F103 (n : Nat) (a0 : List UInt8) : Option ((List (Int)) × (Bool)) := grd ((0 : Int) < (a0.length : Int)) ((F118 n ((a0.getD (0 : Int).toNat 0).toNat : Int)).bind fun v2 => grd ((0 : Int) < (a0.length : Int)) (iteB (((a0.getD (0 : Int).toNat 0).toNat : Int) == (61 : Int)) (F103_J2 n a0 v2) (F103_J2 n a0 v2)))
set_option maxHeartbeats 4000000 in
theorem F103_ok : ∀ (n : Nat) (a0 : List UInt8) (r : (List (Int)) × (Bool)), F103 n a0 = some r → FnC Try.prog 103 [.imm (.string (bs a0))] (.tup [.sl 1 false (List.map byteT r.1), .imm (.bool r.2)])
 | n, a0, r, h => by
  unfold F103 at h
  refine FnC.goX mixed Try.func103 (by kernel_rfl) rfl ?_
  simp only [Try.ntmps103, List.length_cons, List.length_nil, List.replicate, List.cons_append, List.nil_append, Nat.reduceAdd, Nat.reduceSub]
  refine runX_seq ?_
  refine runX_regionC fun C hC => ?_
  try simp -implicitDefEqProofs (maxSteps := 4000000) (disch := first | omega | decide | (simp only [go_sem]; omega)) only [go_sem, ↓reduceIte]
  repeat (with_reducible refine And.intro (by first | assumption | omega | (simp; done) | (simp; omega)) ?_)
  refine toEnd hC ?_
  refine endX_seq ?_
  refine runX_seq ?_
  refine runX_regionC fun C hC => ?_
  try simp -implicitDefEqProofs (disch := omega) only [go_sem, ↓reduceIte]
  refine toEnd hC ?_
  refine endX_seq ?_
  refine runX_seq ?_
  refine runX_seq ?_
  refine runX_regionC fun C hC => ?_
  try simp -implicitDefEqProofs (disch := omega) only [go_sem, ↓reduceIte]
  refine toEnd hC ?_
  refine endX_seq ?_
  refine runX_block ?_
  refine runX_unroll 4 ?_
  refine runX_seq ?_
  refine runX_regionC fun C hC => ?_
  try simp -implicitDefEqProofs (disch := omega) only [go_sem, ↓reduceIte]
  refine toEnd hC ?_
  refine endX_seq ?_
  refine runX_seq ?_
  refine runX_condT rfl rfl ?_
  refine runX_skip ?_
  refine endX_seq ?_
  refine runX_meet [0, 4, 5, 11] (fun S => ∃ (x6 : Int), S = F103_S1 a0 x6 ∧ F103_J1 n a0 x6 = some r) ?_ ?_
  ·refine runX_block ?_
   refine runX_seq ?_
   refine runX_regionC fun C hC => ?_
   try simp -implicitDefEqProofs (disch := omega) only [go_sem, ↓reduceIte]
   refine toEnd hC ?_
   refine endX_seq ?_
   refine runX_seq ?_
   refine runX_regionC fun C hC => ?_
   obtain ⟨g1, h⟩ := grd_some h
   obtain ⟨v2, h2, h⟩ := bnd_some h
   try simp -implicitDefEqProofs (maxSteps := 4000000) (disch := first | omega | decide | (simp only [go_sem]; omega)) only [go_sem, ↓reduceIte]
   repeat (with_reducible refine And.intro (by first | assumption | omega | (simp; done) | (simp; omega)) ?_)
   refine callG_X (by first | rfl | (simp only [go_sem]; done) | (simp only [closedL, closedT, Bool.and_true]; exact closedL_map _ (fun _ => by first | rfl | (simp only [go_sem]; done)) _)) (F118_ok n ((a0.getD (0 : Int).toNat 0).toNat : Int) _ h2) (by repeat (first | exact leL_refl _ | refine leL_cons (by first | exact leT_refl _ | exact leT_virt | exact leT_junk _ | exact leT_sl | exact leT_sln | exact leT_nil | (refine leT_agg (by repeat (first | exact leL_refl _ | refine leL_cons (by first | exact leT_refl _ | exact leT_sl | exact leT_sln | exact leT_nil) ?_)))) ?_)) ?_
   try simp -implicitDefEqProofs (maxSteps := 4000000) (disch := first | omega | decide | (simp only [go_sem]; omega)) only [go_sem, ↓reduceIte]
   repeat (with_reducible refine And.intro (by first | assumption | omega | (simp; done) | (simp; omega)) ?_)
   refine toEnd hC ?_
   refine endX_seq ?_
   refine runX_meet [0, 4, 5, 6, 7, 11] (fun S => S = F103_S2 a0 v2 ∧ F103_J2 n a0 v2 = some r) ?_ ?_
   ·refine runX_seq ?_
    refine runX_regionC fun C hC => ?_
    obtain ⟨g3, h⟩ := grd_some h
    try simp -implicitDefEqProofs (maxSteps := 4000000) (disch := first | omega | decide | (simp only [go_sem]; omega)) only [go_sem, ↓reduceIte]
    repeat (with_reducible refine And.intro (by first | assumption | omega | (simp; done) | (simp; omega)) ?_)
    rcases iteB_some h with ⟨c4, h⟩ | ⟨c4, h⟩
    ·refine guardK_T c4 ?_
     try simp -implicitDefEqProofs (maxSteps := 4000000) (disch := first | omega | decide | (simp only [go_sem]; omega)) only [go_sem, ↓reduceIte]
     repeat (with_reducible refine And.intro (by first | assumption | omega | (simp; done) | (simp; omega)) ?_)
     refine toEnd hC ?_
     refine endX_seq ?_
     refine runX_condF rfl rfl ?_
     refine runX_skip ?_
     refine endX_q (meetQ_normal ⟨F103_S2 a0 v2, ?_, rfl, h⟩)
     simp only [F103_S2]
     (try simp -implicitDefEqProofs (maxSteps := 4000000) (disch := first | omega | decide | (simp only [go_sem]; omega)) only [go_sem, ↓reduceIte])
     exact leS_le (leL_refl _) (leOs_refl _)
    ·refine guardK_F c4 ?_
     try simp -implicitDefEqProofs (maxSteps := 4000000) (disch := first | omega | decide | (simp only [go_sem]; omega)) only [go_sem, ↓reduceIte]
     repeat (with_reducible refine And.intro (by first | assumption | omega | (simp; done) | (simp; omega)) ?_)
     refine toEnd hC ?_
     refine endX_seq ?_
     refine runX_condF rfl rfl ?_
     refine runX_skip ?_
     refine endX_q (meetQ_normal ⟨F103_S2 a0 v2, ?_, rfl, h⟩)
     simp only [F103_S2]
     (try simp -implicitDefEqProofs (disch := omega) only [go_sem, ↓reduceIte])
     exact leS_refl _
   ·clear h
    rintro S ⟨rfl, h⟩
    rw [F103_J2] at h
    simp only [F103_S2]
    refine runX_seq ?_
    refine runX_seq ?_
    refine runX_regionC fun C hC => ?_
    try simp -implicitDefEqProofs (disch := omega) only [go_sem, ↓reduceIte]
    rcases iteB_some h with ⟨c5, h⟩ | ⟨c5, h⟩
    ·refine guardK_F c5 ?_
     try simp -implicitDefEqProofs (disch := omega) only [go_sem, ↓reduceIte]
     refine toEnd hC ?_
     refine endX_seq ?_
     refine runX_condT rfl rfl ?_
     refine runX_seq ?_
     refine runX_regionC fun C hC => ?_
     try simp -implicitDefEqProofs (disch := omega) only [go_sem, ↓reduceIte]
     refine toEnd hC ?_
     refine endX_seq ?_
     refine runX_ret ?_
     refine endX_seqR ?_
     refine endX_blkR ?_
     refine endX_q (meetQ_ret ?_)
     refine endX_seqR ?_
     refine endX_lpR ?_
     refine endX_blkR ?_
     refine endX_seqR ?_
     refine endX_q ?_
     obtain rfl := Option.some.inj h
     show RetW _ _ _ _ _
     simp only [RetW]
     (try simp -implicitDefEqProofs (disch := omega) only [go_sem, ↓reduceIte])
     (try simp (disch := omega) only [if_pos, Nat.sub_zero])
     first | exact leT_refl _ | (refine ⟨rfl, ?_⟩; first | exact leT_refl _ | exact leT_sl | exact leT_sln | exact leT_nil | (refine leT_tup (by repeat (first | exact leL_refl _ | refine leL_cons (by first | exact leT_refl _ | exact leT_virt | exact leT_junk _ | exact leT_sl | exact leT_sln | exact leT_nil | (refine leT_agg (by repeat (first | exact leL_refl _ | refine leL_cons (by first | exact leT_refl _ | exact leT_sl | exact leT_sln | exact leT_nil) ?_)))) ?_))) | (refine leT_agg (by repeat (first | exact leL_refl _ | refine leL_cons (by first | exact leT_refl _ | exact leT_virt | exact leT_junk _ | exact leT_sl | exact leT_sln | exact leT_nil | (refine leT_agg (by repeat (first | exact leL_refl _ | refine leL_cons (by first | exact leT_refl _ | exact leT_sl | exact leT_sln | exact leT_nil) ?_)))) ?_)))) | (first | exact leT_refl _ | exact leT_sl | exact leT_sln | exact leT_nil | (refine leT_tup (by repeat (first | exact leL_refl _ | refine leL_cons (by first | exact leT_refl _ | exact leT_virt | exact leT_junk _ | exact leT_sl | exact leT_sln | exact leT_nil | (refine leT_agg (by repeat (first | exact leL_refl _ | refine leL_cons (by first | exact leT_refl _ | exact leT_sl | exact leT_sln | exact leT_nil) ?_)))) ?_))) | (refine leT_agg (by repeat (first | exact leL_refl _ | refine leL_cons (by first | exact leT_refl _ | exact leT_virt | exact leT_junk _ | exact leT_sl | exact leT_sln | exact leT_nil | (refine leT_agg (by repeat (first | exact leL_refl _ | refine leL_cons (by first | exact leT_refl _ | exact leT_sl | exact leT_sln | exact leT_nil) ?_)))) ?_)))) | (simp only [List.append_assoc, List.cons_append, List.nil_append]; exact leT_refl _) | (rw [List.take_of_length_le (by simp)]; (try simp only [List.append_assoc, List.cons_append, List.nil_append]); exact leT_refl _)
    ·refine guardK_T c5 ?_
     try simp -implicitDefEqProofs (disch := omega) only [go_sem, ↓reduceIte]
     refine toEnd hC ?_
     refine endX_seq ?_
     refine runX_condF rfl rfl ?_
     refine runX_skip ?_
     refine endX_seq ?_
     refine runX_regionC fun C hC => ?_
     try simp -implicitDefEqProofs (disch := omega) only [go_sem, ↓reduceIte]
     refine toEnd hC ?_
     refine endX_blk ?_
     refine endX_q (meetQ_normal ⟨F103_S1 a0 (IntKind.wrap .i64 (bOr .i64 (IntKind.wrap .i64 (bShl .i64 (0 : Int) 6)) v2)), ?_, (IntKind.wrap .i64 (bOr .i64 (IntKind.wrap .i64 (bShl .i64 (0 : Int) 6)) v2)), rfl, h⟩)
     simp only [F103_S1]
     (try simp -implicitDefEqProofs (maxSteps := 4000000) (disch := first | omega | decide | (simp only [go_sem]; omega)) only [go_sem, ↓reduceIte])
     first | exact leS_refl _ | (refine leS_le ?_ ?_ <;> first | exact leL_refl _ | exact leOs_refl _ | (simp only [List.append_assoc, List.cons_append, List.nil_append]; exact leOs_refl _) | (repeat (first | exact leL_refl _ | refine leL_cons (by first | exact leT_refl _ | exact leT_virt | exact leT_junk _ | exact leT_sl | exact leT_sln | exact leT_nil | (refine leT_agg (by repeat (first | exact leL_refl _ | refine leL_cons (by first | exact leT_refl _ | exact leT_sl | exact leT_sln | exact leT_nil) ?_)))) ?_)))
  ·clear h
   rintro S ⟨x6, rfl, h⟩
   rw [F103_J1] at h
   simp only [F103_S1]
   refine runX_regionC fun C hC => ?_
   try simp -implicitDefEqProofs (maxSteps := 4000000) (disch := first | omega | decide | (simp only [go_sem]; omega)) only [go_sem, ↓reduceIte]
   repeat (with_reducible refine And.intro (by first | assumption | omega | (simp; done) | (simp; omega)) ?_)
   refine toEnd hC ?_
   refine endX_lp ?_
   refine runX_seq ?_
   refine runX_regionC fun C hC => ?_
   try simp -implicitDefEqProofs (disch := omega) only [go_sem, ↓reduceIte]
   refine toEnd hC ?_
   refine endX_seq ?_
   refine runX_seq ?_
   refine runX_condT rfl rfl ?_
   refine runX_skip ?_
   refine endX_seq ?_
   refine runX_meet [0, 4, 5, 11] (fun S => ∃ (x12 : Int), S = F103_S3 a0 x12 ∧ F103_J3 n a0 x12 = some r) ?_ ?_
   ·refine runX_block ?_
    refine runX_seq ?_
    refine runX_regionC fun C hC => ?_
    try simp -implicitDefEqProofs (disch := omega) only [go_sem, ↓reduceIte]
    refine toEnd hC ?_
    refine endX_seq ?_
    refine runX_seq ?_
    refine runX_regionC fun C hC => ?_
    obtain ⟨g7, h⟩ := grd_some h
    obtain ⟨v8, h8, h⟩ := bnd_some h
    try simp -implicitDefEqProofs (maxSteps := 4000000) (disch := first | omega | decide | (simp only [go_sem]; omega)) only [go_sem, ↓reduceIte]
    repeat (with_reducible refine And.intro (by first | assumption | omega | (simp; done) | (simp; omega)) ?_)
    refine callG_X (by first | rfl | (simp only [go_sem]; done) | (simp only [closedL, closedT, Bool.and_true]; exact closedL_map _ (fun _ => by first | rfl | (simp only [go_sem]; done)) _)) (F118_ok n ((a0.getD (1 : Int).toNat 0).toNat : Int) _ h8) (by repeat (first | exact leL_refl _ | refine leL_cons (by first | exact leT_refl _ | exact leT_virt | exact leT_junk _ | exact leT_sl | exact leT_sln | exact leT_nil | (refine leT_agg (by repeat (first | exact leL_refl _ | refine leL_cons (by first | exact leT_refl _ | exact leT_sl | exact leT_sln | exact leT_nil) ?_)))) ?_)) ?_
    try simp -implicitDefEqProofs (maxSteps := 4000000) (disch := first | omega | decide | (simp only [go_sem]; omega)) only [go_sem, ↓reduceIte]
    repeat (with_reducible refine And.intro (by first | assumption | omega | (simp; done) | (simp; omega)) ?_)
    refine toEnd hC ?_
    refine endX_seq ?_
    refine runX_meet [0, 4, 5, 6, 7, 11] (fun S => S = F103_S4 a0 x6 v8 ∧ F103_J4 n a0 x6 v8 = some r) ?_ ?_
    ·refine runX_seq ?_
     refine runX_regionC fun C hC => ?_
     obtain ⟨g9, h⟩ := grd_some h
     try simp -implicitDefEqProofs (maxSteps := 4000000) (disch := first | omega | decide | (simp only [go_sem]; omega)) only [go_sem, ↓reduceIte]
     repeat (with_reducible refine And.intro (by first | assumption | omega | (simp; done) | (simp; omega)) ?_)
     rcases iteB_some h with ⟨c10, h⟩ | ⟨c10, h⟩
     ·refine guardK_T c10 ?_
      try simp -implicitDefEqProofs (maxSteps := 4000000) (disch := first | omega | decide | (simp only [go_sem]; omega)) only [go_sem, ↓reduceIte]
      repeat (with_reducible refine And.intro (by first | assumption | omega | (simp; done) | (simp; omega)) ?_)
      refine toEnd hC ?_
      refine endX_seq ?_
      refine runX_condF rfl rfl ?_
      refine runX_skip ?_
      refine endX_q (meetQ_normal ⟨F103_S4 a0 x6 v8, ?_, rfl, h⟩)
      simp only [F103_S4]
      (try simp -implicitDefEqProofs (maxSteps := 4000000) (disch := first | omega | decide | (simp only [go_sem]; omega)) only [go_sem, ↓reduceIte])
      exact leS_le (leL_refl _) (leOs_refl _)
     ·refine guardK_F c10 ?_
      try simp -implicitDefEqProofs (maxSteps := 4000000) (disch := first | omega | decide | (simp only [go_sem]; omega)) only [go_sem, ↓reduceIte]
      repeat (with_reducible refine And.intro (by first | assumption | omega | (simp; done) | (simp; omega)) ?_)
      refine toEnd hC ?_
      refine endX_seq ?_
      refine runX_condF rfl rfl ?_
      refine runX_skip ?_
      refine endX_q (meetQ_normal ⟨F103_S4 a0 x6 v8, ?_, rfl, h⟩)
      simp only [F103_S4]
      (try simp -implicitDefEqProofs (disch := omega) only [go_sem, ↓reduceIte])
      exact leS_refl _
    ·clear h
     rintro S ⟨rfl, h⟩
     rw [F103_J4] at h
     simp only [F103_S4]
     refine runX_seq ?_
     refine runX_seq ?_
     refine runX_regionC fun C hC => ?_
     try simp -implicitDefEqProofs (disch := omega) only [go_sem, ↓reduceIte]
     rcases iteB_some h with ⟨c11, h⟩ | ⟨c11, h⟩
     ·refine guardK_F c11 ?_
      try simp -implicitDefEqProofs (disch := omega) only [go_sem, ↓reduceIte]
      refine toEnd hC ?_
      refine endX_seq ?_
      refine runX_condT rfl rfl ?_
      refine runX_seq ?_
      refine runX_regionC fun C hC => ?_
      try simp -implicitDefEqProofs (disch := omega) only [go_sem, ↓reduceIte]
      refine toEnd hC ?_
      refine endX_seq ?_
      refine runX_ret ?_
      refine endX_seqR ?_
      refine endX_blkR ?_
      refine endX_q (meetQ_ret ?_)
      refine endX_seqR ?_
      refine endX_lpR ?_
      refine endX_blkR ?_
      refine endX_seqR ?_
      refine endX_q ?_
      obtain rfl := Option.some.inj h
      show RetW _ _ _ _ _
      simp only [RetW]
      (try simp -implicitDefEqProofs (disch := omega) only [go_sem, ↓reduceIte])
      (try simp (disch := omega) only [if_pos, Nat.sub_zero])
      first | exact leT_refl _ | (refine ⟨rfl, ?_⟩; first | exact leT_refl _ | exact leT_sl | exact leT_sln | exact leT_nil | (refine leT_tup (by repeat (first | exact leL_refl _ | refine leL_cons (by first | exact leT_refl _ | exact leT_virt | exact leT_junk _ | exact leT_sl | exact leT_sln | exact leT_nil | (refine leT_agg (by repeat (first | exact leL_refl _ | refine leL_cons (by first | exact leT_refl _ | exact leT_sl | exact leT_sln | exact leT_nil) ?_)))) ?_))) | (refine leT_agg (by repeat (first | exact leL_refl _ | refine leL_cons (by first | exact leT_refl _ | exact leT_virt | exact leT_junk _ | exact leT_sl | exact leT_sln | exact leT_nil | (refine leT_agg (by repeat (first | exact leL_refl _ | refine leL_cons (by first | exact leT_refl _ | exact leT_sl | exact leT_sln | exact leT_nil) ?_)))) ?_)))) | (first | exact leT_refl _ | exact leT_sl | exact leT_sln | exact leT_nil | (refine leT_tup (by repeat (first | exact leL_refl _ | refine leL_cons (by first | exact leT_refl _ | exact leT_virt | exact leT_junk _ | exact leT_sl | exact leT_sln | exact leT_nil | (refine leT_agg (by repeat (first | exact leL_refl _ | refine leL_cons (by first | exact leT_refl _ | exact leT_sl | exact leT_sln | exact leT_nil) ?_)))) ?_))) | (refine leT_agg (by repeat (first | exact leL_refl _ | refine leL_cons (by first | exact leT_refl _ | exact leT_virt | exact leT_junk _ | exact leT_sl | exact leT_sln | exact leT_nil | (refine leT_agg (by repeat (first | exact leL_refl _ | refine leL_cons (by first | exact leT_refl _ | exact leT_sl | exact leT_sln | exact leT_nil) ?_)))) ?_)))) | (simp only [List.append_assoc, List.cons_append, List.nil_append]; exact leT_refl _) | (rw [List.take_of_length_le (by simp)]; (try simp only [List.append_assoc, List.cons_append, List.nil_append]); exact leT_refl _)
     ·refine guardK_T c11 ?_
      try simp -implicitDefEqProofs (disch := omega) only [go_sem, ↓reduceIte]
      refine toEnd hC ?_
      refine endX_seq ?_
      refine runX_condF rfl rfl ?_
      refine runX_skip ?_
      refine endX_seq ?_
      refine runX_regionC fun C hC => ?_
      try simp -implicitDefEqProofs (disch := omega) only [go_sem, ↓reduceIte]
      refine toEnd hC ?_
      refine endX_blk ?_
      refine endX_q (meetQ_normal ⟨F103_S3 a0 (IntKind.wrap .i64 (bOr .i64 (IntKind.wrap .i64 (bShl .i64 x6 6)) v8)), ?_, (IntKind.wrap .i64 (bOr .i64 (IntKind.wrap .i64 (bShl .i64 x6 6)) v8)), rfl, h⟩)
      simp only [F103_S3]
      (try simp -implicitDefEqProofs (maxSteps := 4000000) (disch := first | omega | decide | (simp only [go_sem]; omega)) only [go_sem, ↓reduceIte])
      first | exact leS_refl _ | (refine leS_le ?_ ?_ <;> first | exact leL_refl _ | exact leOs_refl _ | (simp only [List.append_assoc, List.cons_append, List.nil_append]; exact leOs_refl _) | (repeat (first | exact leL_refl _ | refine leL_cons (by first | exact leT_refl _ | exact leT_virt | exact leT_junk _ | exact leT_sl | exact leT_sln | exact leT_nil | (refine leT_agg (by repeat (first | exact leL_refl _ | refine leL_cons (by first | exact leT_refl _ | exact leT_sl | exact leT_sln | exact leT_nil) ?_)))) ?_)))
   ·clear h
    rintro S ⟨x12, rfl, h⟩
    rw [F103_J3] at h
    simp only [F103_S3]
    refine runX_regionC fun C hC => ?_
    try simp -implicitDefEqProofs (maxSteps := 4000000) (disch := first | omega | decide | (simp only [go_sem]; omega)) only [go_sem, ↓reduceIte]
    repeat (with_reducible refine And.intro (by first | assumption | omega | (simp; done) | (simp; omega)) ?_)
    refine toEnd hC ?_
    refine endX_lp ?_
    refine runX_seq ?_
    refine runX_regionC fun C hC => ?_
    try simp -implicitDefEqProofs (disch := omega) only [go_sem, ↓reduceIte]
    refine toEnd hC ?_
    refine endX_seq ?_
    refine runX_seq ?_
    refine runX_condT rfl rfl ?_
    refine runX_skip ?_
    refine endX_seq ?_
    refine runX_meet [0, 4, 5, 11] (fun S => ∃ (x25 : Int) (x26 : Int), S = F103_S5 a0 x25 x26 ∧ F103_J5 n a0 x25 x26 = some r) ?_ ?_
    ·refine runX_block ?_
     refine runX_seq ?_
     refine runX_regionC fun C hC => ?_
     try simp -implicitDefEqProofs (disch := omega) only [go_sem, ↓reduceIte]
     refine toEnd hC ?_
     refine endX_seq ?_
     refine runX_seq ?_
     refine runX_regionC fun C hC => ?_
     obtain ⟨g13, h⟩ := grd_some h
     obtain ⟨v14, h14, h⟩ := bnd_some h
     try simp -implicitDefEqProofs (maxSteps := 4000000) (disch := first | omega | decide | (simp only [go_sem]; omega)) only [go_sem, ↓reduceIte]
     repeat (with_reducible refine And.intro (by first | assumption | omega | (simp; done) | (simp; omega)) ?_)
     refine callG_X (by first | rfl | (simp only [go_sem]; done) | (simp only [closedL, closedT, Bool.and_true]; exact closedL_map _ (fun _ => by first | rfl | (simp only [go_sem]; done)) _)) (F118_ok n ((a0.getD (2 : Int).toNat 0).toNat : Int) _ h14) (by repeat (first | exact leL_refl _ | refine leL_cons (by first | exact leT_refl _ | exact leT_virt | exact leT_junk _ | exact leT_sl | exact leT_sln | exact leT_nil | (refine leT_agg (by repeat (first | exact leL_refl _ | refine leL_cons (by first | exact leT_refl _ | exact leT_sl | exact leT_sln | exact leT_nil) ?_)))) ?_)) ?_
     try simp -implicitDefEqProofs (maxSteps := 4000000) (disch := first | omega | decide | (simp only [go_sem]; omega)) only [go_sem, ↓reduceIte]
     repeat (with_reducible refine And.intro (by first | assumption | omega | (simp; done) | (simp; omega)) ?_)
     refine toEnd hC ?_
     refine endX_seq ?_
     refine runX_meet [0, 4, 5, 6, 7, 11] (fun S => ∃ (x19 : Int) (x20 : Int), S = F103_S6 a0 x12 x19 x20 ∧ F103_J6 n a0 x12 x19 x20 = some r) ?_ ?_
     ·refine runX_seq ?_
      refine runX_regionC fun C hC => ?_
      obtain ⟨g15, h⟩ := grd_some h
      try simp -implicitDefEqProofs (maxSteps := 4000000) (disch := first | omega | decide | (simp only [go_sem]; omega)) only [go_sem, ↓reduceIte]
      repeat (with_reducible refine And.intro (by first | assumption | omega | (simp; done) | (simp; omega)) ?_)
      rcases iteB_some h with ⟨c16, h⟩ | ⟨c16, h⟩
      ·refine guardK_T c16 ?_
       obtain ⟨g17, h⟩ := grd_some h
       try simp -implicitDefEqProofs (maxSteps := 4000000) (disch := first | omega | decide | (simp only [go_sem]; omega)) only [go_sem, ↓reduceIte]
       repeat (with_reducible refine And.intro (by first | assumption | omega | (simp; done) | (simp; omega)) ?_)
       refine toEnd hC ?_
       refine endX_seq ?_
       rcases iteB_some h with ⟨c18, h⟩ | ⟨c18, h⟩
       ·refine runX_condT rfl c18 ?_
        refine runX_regionC fun C hC => ?_
        try simp -implicitDefEqProofs (disch := omega) only [go_sem, ↓reduceIte]
        refine toEnd hC ?_
        refine endX_q (meetQ_normal ⟨F103_S6 a0 x12 (if (1 : Int) < (3 : Int) then (1 : Int) else (3 : Int)) (0 : Int), ?_, (if (1 : Int) < (3 : Int) then (1 : Int) else (3 : Int)), (0 : Int), rfl, h⟩)
        simp only [F103_S6]
        (try simp -implicitDefEqProofs (maxSteps := 4000000) (disch := first | omega | decide | (simp only [go_sem]; omega)) only [go_sem, ↓reduceIte])
        first | exact leS_refl _ | (refine leS_le ?_ ?_ <;> first | exact leL_refl _ | exact leOs_refl _ | (simp only [List.append_assoc, List.cons_append, List.nil_append]; exact leOs_refl _) | (repeat (first | exact leL_refl _ | refine leL_cons (by first | exact leT_refl _ | exact leT_virt | exact leT_junk _ | exact leT_sl | exact leT_sln | exact leT_nil | (refine leT_agg (by repeat (first | exact leL_refl _ | refine leL_cons (by first | exact leT_refl _ | exact leT_sl | exact leT_sln | exact leT_nil) ?_)))) ?_)))
       ·refine runX_condF rfl c18 ?_
        refine runX_skip ?_
        refine endX_q (meetQ_normal ⟨F103_S6 a0 x12 (3 : Int) v14, ?_, (3 : Int), v14, rfl, h⟩)
        simp only [F103_S6]
        (try simp -implicitDefEqProofs (maxSteps := 4000000) (disch := first | omega | decide | (simp only [go_sem]; omega)) only [go_sem, ↓reduceIte])
        first | exact leS_refl _ | (refine leS_le ?_ ?_ <;> first | exact leL_refl _ | exact leOs_refl _ | (simp only [List.append_assoc, List.cons_append, List.nil_append]; exact leOs_refl _) | (repeat (first | exact leL_refl _ | refine leL_cons (by first | exact leT_refl _ | exact leT_virt | exact leT_junk _ | exact leT_sl | exact leT_sln | exact leT_nil | (refine leT_agg (by repeat (first | exact leL_refl _ | refine leL_cons (by first | exact leT_refl _ | exact leT_sl | exact leT_sln | exact leT_nil) ?_)))) ?_)))
      ·refine guardK_F c16 ?_
       try simp -implicitDefEqProofs (maxSteps := 4000000) (disch := first | omega | decide | (simp only [go_sem]; omega)) only [go_sem, ↓reduceIte]
       repeat (with_reducible refine And.intro (by first | assumption | omega | (simp; done) | (simp; omega)) ?_)
       refine toEnd hC ?_
       refine endX_seq ?_
       refine runX_condF rfl rfl ?_
       refine runX_skip ?_
       refine endX_q (meetQ_normal ⟨F103_S6 a0 x12 (3 : Int) v14, ?_, (3 : Int), v14, rfl, h⟩)
       simp only [F103_S6]
       (try simp -implicitDefEqProofs (disch := omega) only [go_sem, ↓reduceIte])
       exact leS_refl _
     ·clear h
      rintro S ⟨x19, x20, rfl, h⟩
      rw [F103_J6] at h
      simp only [F103_S6]
      refine runX_seq ?_
      refine runX_seq ?_
      refine runX_regionC fun C hC => ?_
      try simp -implicitDefEqProofs (disch := omega) only [go_sem, ↓reduceIte]
      rcases iteB_some h with ⟨c21, h⟩ | ⟨c21, h⟩
      ·refine guardK_F c21 ?_
       try simp -implicitDefEqProofs (disch := omega) only [go_sem, ↓reduceIte]
       refine toEnd hC ?_
       refine endX_seq ?_
       refine runX_condT rfl rfl ?_
       refine runX_seq ?_
       refine runX_regionC fun C hC => ?_
       try simp -implicitDefEqProofs (disch := omega) only [go_sem, ↓reduceIte]
       refine toEnd hC ?_
       refine endX_seq ?_
       refine runX_ret ?_
       refine endX_seqR ?_
       refine endX_blkR ?_
       refine endX_q (meetQ_ret ?_)
       refine endX_seqR ?_
       refine endX_lpR ?_
       refine endX_blkR ?_
       refine endX_seqR ?_
       refine endX_q ?_
       obtain rfl := Option.some.inj h
       show RetW _ _ _ _ _
       simp only [RetW]
       (try simp -implicitDefEqProofs (maxSteps := 4000000) (disch := first | omega | decide | (simp only [go_sem]; omega)) only [go_sem, ↓reduceIte])
       (try simp (disch := omega) only [if_pos, Nat.sub_zero])
       first | exact leT_refl _ | (refine ⟨rfl, ?_⟩; first | exact leT_refl _ | exact leT_sl | exact leT_sln | exact leT_nil | (refine leT_tup (by repeat (first | exact leL_refl _ | refine leL_cons (by first | exact leT_refl _ | exact leT_virt | exact leT_junk _ | exact leT_sl | exact leT_sln | exact leT_nil | (refine leT_agg (by repeat (first | exact leL_refl _ | refine leL_cons (by first | exact leT_refl _ | exact leT_sl | exact leT_sln | exact leT_nil) ?_)))) ?_))) | (refine leT_agg (by repeat (first | exact leL_refl _ | refine leL_cons (by first | exact leT_refl _ | exact leT_virt | exact leT_junk _ | exact leT_sl | exact leT_sln | exact leT_nil | (refine leT_agg (by repeat (first | exact leL_refl _ | refine leL_cons (by first | exact leT_refl _ | exact leT_sl | exact leT_sln | exact leT_nil) ?_)))) ?_)))) | (first | exact leT_refl _ | exact leT_sl | exact leT_sln | exact leT_nil | (refine leT_tup (by repeat (first | exact leL_refl _ | refine leL_cons (by first | exact leT_refl _ | exact leT_virt | exact leT_junk _ | exact leT_sl | exact leT_sln | exact leT_nil | (refine leT_agg (by repeat (first | exact leL_refl _ | refine leL_cons (by first | exact leT_refl _ | exact leT_sl | exact leT_sln | exact leT_nil) ?_)))) ?_))) | (refine leT_agg (by repeat (first | exact leL_refl _ | refine leL_cons (by first | exact leT_refl _ | exact leT_virt | exact leT_junk _ | exact leT_sl | exact leT_sln | exact leT_nil | (refine leT_agg (by repeat (first | exact leL_refl _ | refine leL_cons (by first | exact leT_refl _ | exact leT_sl | exact leT_sln | exact leT_nil) ?_)))) ?_)))) | (simp only [List.append_assoc, List.cons_append, List.nil_append]; exact leT_refl _) | (rw [List.take_of_length_le (by simp)]; (try simp only [List.append_assoc, List.cons_append, List.nil_append]); exact leT_refl _)
      ·refine guardK_T c21 ?_
       try simp -implicitDefEqProofs (maxSteps := 4000000) (disch := first | omega | decide | (simp only [go_sem]; omega)) only [go_sem, ↓reduceIte]
       repeat (with_reducible refine And.intro (by first | assumption | omega | (simp; done) | (simp; omega)) ?_)
       rcases iteB_some h with ⟨c22, h⟩ | ⟨c22, h⟩
       ·refine guardK_T c22 ?_
        obtain ⟨g23, h⟩ := grd_some h
        try simp -implicitDefEqProofs (maxSteps := 4000000) (disch := first | omega | decide | (simp only [go_sem]; omega)) only [go_sem, ↓reduceIte]
        repeat (with_reducible refine And.intro (by first | assumption | omega | (simp; done) | (simp; omega)) ?_)
        refine toEnd hC ?_
        refine endX_seq ?_
        rcases iteB_some h with ⟨c24, h⟩ | ⟨c24, h⟩
        ·refine runX_condT rfl c24 ?_
         refine runX_seq ?_
         refine runX_regionC fun C hC => ?_
         try simp -implicitDefEqProofs (disch := omega) only [go_sem, ↓reduceIte]
         refine toEnd hC ?_
         refine endX_seq ?_
         refine runX_ret ?_
         refine endX_seqR ?_
         refine endX_blkR ?_
         refine endX_q (meetQ_ret ?_)
         refine endX_seqR ?_
         refine endX_lpR ?_
         refine endX_blkR ?_
         refine endX_seqR ?_
         refine endX_q ?_
         obtain rfl := Option.some.inj h
         show RetW _ _ _ _ _
         simp only [RetW]
         (try simp -implicitDefEqProofs (disch := omega) only [go_sem, ↓reduceIte])
         (try simp (disch := omega) only [if_pos, Nat.sub_zero])
         first | exact leT_refl _ | (refine ⟨rfl, ?_⟩; first | exact leT_refl _ | exact leT_sl | exact leT_sln | exact leT_nil | (refine leT_tup (by repeat (first | exact leL_refl _ | refine leL_cons (by first | exact leT_refl _ | exact leT_virt | exact leT_junk _ | exact leT_sl | exact leT_sln | exact leT_nil | (refine leT_agg (by repeat (first | exact leL_refl _ | refine leL_cons (by first | exact leT_refl _ | exact leT_sl | exact leT_sln | exact leT_nil) ?_)))) ?_))) | (refine leT_agg (by repeat (first | exact leL_refl _ | refine leL_cons (by first | exact leT_refl _ | exact leT_virt | exact leT_junk _ | exact leT_sl | exact leT_sln | exact leT_nil | (refine leT_agg (by repeat (first | exact leL_refl _ | refine leL_cons (by first | exact leT_refl _ | exact leT_sl | exact leT_sln | exact leT_nil) ?_)))) ?_)))) | (first | exact leT_refl _ | exact leT_sl | exact leT_sln | exact leT_nil | (refine leT_tup (by repeat (first | exact leL_refl _ | refine leL_cons (by first | exact leT_refl _ | exact leT_virt | exact leT_junk _ | exact leT_sl | exact leT_sln | exact leT_nil | (refine leT_agg (by repeat (first | exact leL_refl _ | refine leL_cons (by first | exact leT_refl _ | exact leT_sl | exact leT_sln | exact leT_nil) ?_)))) ?_))) | (refine leT_agg (by repeat (first | exact leL_refl _ | refine leL_cons (by first | exact leT_refl _ | exact leT_virt | exact leT_junk _ | exact leT_sl | exact leT_sln | exact leT_nil | (refine leT_agg (by repeat (first | exact leL_refl _ | refine leL_cons (by first | exact leT_refl _ | exact leT_sl | exact leT_sln | exact leT_nil) ?_)))) ?_)))) | (simp only [List.append_assoc, List.cons_append, List.nil_append]; exact leT_refl _) | (rw [List.take_of_length_le (by simp)]; (try simp only [List.append_assoc, List.cons_append, List.nil_append]); exact leT_refl _)
        ·refine runX_condF rfl c24 ?_
         refine runX_skip ?_
         refine endX_seq ?_
         refine runX_regionC fun C hC => ?_
         try simp -implicitDefEqProofs (disch := omega) only [go_sem, ↓reduceIte]
         refine toEnd hC ?_
         refine endX_blk ?_
         refine endX_q (meetQ_normal ⟨F103_S5 a0 (IntKind.wrap .i64 (bOr .i64 (IntKind.wrap .i64 (bShl .i64 x12 6)) x20)) x19, ?_, (IntKind.wrap .i64 (bOr .i64 (IntKind.wrap .i64 (bShl .i64 x12 6)) x20)), x19, rfl, h⟩)
         simp only [F103_S5]
         (try simp -implicitDefEqProofs (disch := omega) only [go_sem, ↓reduceIte])
         exact leS_refl _
       ·refine guardK_F c22 ?_
        try simp -implicitDefEqProofs (disch := omega) only [go_sem, ↓reduceIte]
        refine toEnd hC ?_
        refine endX_seq ?_
        refine runX_condF rfl rfl ?_
        refine runX_skip ?_
        refine endX_seq ?_
        refine runX_regionC fun C hC => ?_
        try simp -implicitDefEqProofs (disch := omega) only [go_sem, ↓reduceIte]
        refine toEnd hC ?_
        refine endX_blk ?_
        refine endX_q (meetQ_normal ⟨F103_S5 a0 (IntKind.wrap .i64 (bOr .i64 (IntKind.wrap .i64 (bShl .i64 x12 6)) x20)) x19, ?_, (IntKind.wrap .i64 (bOr .i64 (IntKind.wrap .i64 (bShl .i64 x12 6)) x20)), x19, rfl, h⟩)
        simp only [F103_S5]
        (try simp -implicitDefEqProofs (maxSteps := 4000000) (disch := first | omega | decide | (simp only [go_sem]; omega)) only [go_sem, ↓reduceIte])
        first | exact leS_refl _ | (refine leS_le ?_ ?_ <;> first | exact leL_refl _ | exact leOs_refl _ | (simp only [List.append_assoc, List.cons_append, List.nil_append]; exact leOs_refl _) | (repeat (first | exact leL_refl _ | refine leL_cons (by first | exact leT_refl _ | exact leT_virt | exact leT_junk _ | exact leT_sl | exact leT_sln | exact leT_nil | (refine leT_agg (by repeat (first | exact leL_refl _ | refine leL_cons (by first | exact leT_refl _ | exact leT_sl | exact leT_sln | exact leT_nil) ?_)))) ?_)))
    ·clear h
     rintro S ⟨x25, x26, rfl, h⟩
     rw [F103_J5] at h
     simp only [F103_S5]
     refine runX_regionC fun C hC => ?_
     try simp -implicitDefEqProofs (maxSteps := 4000000) (disch := first | omega | decide | (simp only [go_sem]; omega)) only [go_sem, ↓reduceIte]
     repeat (with_reducible refine And.intro (by first | assumption | omega | (simp; done) | (simp; omega)) ?_)
     refine toEnd hC ?_
     refine endX_lp ?_
     refine runX_seq ?_
     refine runX_regionC fun C hC => ?_
     try simp -implicitDefEqProofs (disch := omega) only [go_sem, ↓reduceIte]
     refine toEnd hC ?_
     refine endX_seq ?_
     refine runX_seq ?_
     refine runX_condT rfl rfl ?_
     refine runX_skip ?_
     refine endX_seq ?_
     refine runX_meet [0, 4, 5, 11] (fun S => ∃ (x39 : Int) (x40 : Int), S = F103_S7 a0 x39 x40 ∧ F103_J7 n a0 x39 x40 = some r) ?_ ?_
     ·refine runX_block ?_
      refine runX_seq ?_
      refine runX_regionC fun C hC => ?_
      try simp -implicitDefEqProofs (disch := omega) only [go_sem, ↓reduceIte]
      refine toEnd hC ?_
      refine endX_seq ?_
      refine runX_seq ?_
      refine runX_regionC fun C hC => ?_
      obtain ⟨g27, h⟩ := grd_some h
      obtain ⟨v28, h28, h⟩ := bnd_some h
      try simp -implicitDefEqProofs (maxSteps := 4000000) (disch := first | omega | decide | (simp only [go_sem]; omega)) only [go_sem, ↓reduceIte]
      repeat (with_reducible refine And.intro (by first | assumption | omega | (simp; done) | (simp; omega)) ?_)
      refine callG_X (by first | rfl | (simp only [go_sem]; done) | (simp only [closedL, closedT, Bool.and_true]; exact closedL_map _ (fun _ => by first | rfl | (simp only [go_sem]; done)) _)) (F118_ok n ((a0.getD (3 : Int).toNat 0).toNat : Int) _ h28) (by repeat (first | exact leL_refl _ | refine leL_cons (by first | exact leT_refl _ | exact leT_virt | exact leT_junk _ | exact leT_sl | exact leT_sln | exact leT_nil | (refine leT_agg (by repeat (first | exact leL_refl _ | refine leL_cons (by first | exact leT_refl _ | exact leT_sl | exact leT_sln | exact leT_nil) ?_)))) ?_)) ?_
      try simp -implicitDefEqProofs (maxSteps := 4000000) (disch := first | omega | decide | (simp only [go_sem]; omega)) only [go_sem, ↓reduceIte]
      repeat (with_reducible refine And.intro (by first | assumption | omega | (simp; done) | (simp; omega)) ?_)
      refine toEnd hC ?_
      refine endX_seq ?_
      refine runX_meet [0, 4, 5, 6, 7, 11] (fun S => ∃ (x33 : Int) (x34 : Int), S = F103_S8 a0 x25 x33 x34 ∧ F103_J8 n a0 x25 x33 x34 = some r) ?_ ?_
      ·refine runX_seq ?_
       refine runX_regionC fun C hC => ?_
       obtain ⟨g29, h⟩ := grd_some h
       try simp -implicitDefEqProofs (maxSteps := 4000000) (disch := first | omega | decide | (simp only [go_sem]; omega)) only [go_sem, ↓reduceIte]
       repeat (with_reducible refine And.intro (by first | assumption | omega | (simp; done) | (simp; omega)) ?_)
       rcases iteB_some h with ⟨c30, h⟩ | ⟨c30, h⟩
       ·refine guardK_T c30 ?_
        obtain ⟨g31, h⟩ := grd_some h
        try simp -implicitDefEqProofs (maxSteps := 4000000) (disch := first | omega | decide | (simp only [go_sem]; omega)) only [go_sem, ↓reduceIte]
        repeat (with_reducible refine And.intro (by first | assumption | omega | (simp; done) | (simp; omega)) ?_)
        refine toEnd hC ?_
        refine endX_seq ?_
        rcases iteB_some h with ⟨c32, h⟩ | ⟨c32, h⟩
        ·refine runX_condT rfl c32 ?_
         refine runX_regionC fun C hC => ?_
         try simp -implicitDefEqProofs (disch := omega) only [go_sem, ↓reduceIte]
         refine toEnd hC ?_
         refine endX_q (meetQ_normal ⟨F103_S8 a0 x25 (if (2 : Int) < x26 then (2 : Int) else x26) (0 : Int), ?_, (if (2 : Int) < x26 then (2 : Int) else x26), (0 : Int), rfl, h⟩)
         simp only [F103_S8]
         (try simp -implicitDefEqProofs (maxSteps := 4000000) (disch := first | omega | decide | (simp only [go_sem]; omega)) only [go_sem, ↓reduceIte])
         first | exact leS_refl _ | (refine leS_le ?_ ?_ <;> first | exact leL_refl _ | exact leOs_refl _ | (simp only [List.append_assoc, List.cons_append, List.nil_append]; exact leOs_refl _) | (repeat (first | exact leL_refl _ | refine leL_cons (by first | exact leT_refl _ | exact leT_virt | exact leT_junk _ | exact leT_sl | exact leT_sln | exact leT_nil | (refine leT_agg (by repeat (first | exact leL_refl _ | refine leL_cons (by first | exact leT_refl _ | exact leT_sl | exact leT_sln | exact leT_nil) ?_)))) ?_)))
        ·refine runX_condF rfl c32 ?_
         refine runX_skip ?_
         refine endX_q (meetQ_normal ⟨F103_S8 a0 x25 x26 v28, ?_, x26, v28, rfl, h⟩)
         simp only [F103_S8]
         (try simp -implicitDefEqProofs (maxSteps := 4000000) (disch := first | omega | decide | (simp only [go_sem]; omega)) only [go_sem, ↓reduceIte])
         first | exact leS_refl _ | (refine leS_le ?_ ?_ <;> first | exact leL_refl _ | exact leOs_refl _ | (simp only [List.append_assoc, List.cons_append, List.nil_append]; exact leOs_refl _) | (repeat (first | exact leL_refl _ | refine leL_cons (by first | exact leT_refl _ | exact leT_virt | exact leT_junk _ | exact leT_sl | exact leT_sln | exact leT_nil | (refine leT_agg (by repeat (first | exact leL_refl _ | refine leL_cons (by first | exact leT_refl _ | exact leT_sl | exact leT_sln | exact leT_nil) ?_)))) ?_)))
       ·refine guardK_F c30 ?_
        try simp -implicitDefEqProofs (maxSteps := 4000000) (disch := first | omega | decide | (simp only [go_sem]; omega)) only [go_sem, ↓reduceIte]
        repeat (with_reducible refine And.intro (by first | assumption | omega | (simp; done) | (simp; omega)) ?_)
        refine toEnd hC ?_
        refine endX_seq ?_
        refine runX_condF rfl rfl ?_
        refine runX_skip ?_
        refine endX_q (meetQ_normal ⟨F103_S8 a0 x25 x26 v28, ?_, x26, v28, rfl, h⟩)
        simp only [F103_S8]
        (try simp -implicitDefEqProofs (disch := omega) only [go_sem, ↓reduceIte])
        exact leS_refl _
      ·clear h
       rintro S ⟨x33, x34, rfl, h⟩
       rw [F103_J8] at h
       simp only [F103_S8]
       refine runX_seq ?_
       refine runX_seq ?_
       refine runX_regionC fun C hC => ?_
       try simp -implicitDefEqProofs (disch := omega) only [go_sem, ↓reduceIte]
       rcases iteB_some h with ⟨c35, h⟩ | ⟨c35, h⟩
       ·refine guardK_F c35 ?_
        try simp -implicitDefEqProofs (disch := omega) only [go_sem, ↓reduceIte]
        refine toEnd hC ?_
        refine endX_seq ?_
        refine runX_condT rfl rfl ?_
        refine runX_seq ?_
        refine runX_regionC fun C hC => ?_
        try simp -implicitDefEqProofs (disch := omega) only [go_sem, ↓reduceIte]
        refine toEnd hC ?_
        refine endX_seq ?_
        refine runX_ret ?_
        refine endX_seqR ?_
        refine endX_blkR ?_
        refine endX_q (meetQ_ret ?_)
        refine endX_seqR ?_
        refine endX_lpR ?_
        refine endX_blkR ?_
        refine endX_seqR ?_
        refine endX_q ?_
        obtain rfl := Option.some.inj h
        show RetW _ _ _ _ _
        simp only [RetW]
        (try simp -implicitDefEqProofs (maxSteps := 4000000) (disch := first | omega | decide | (simp only [go_sem]; omega)) only [go_sem, ↓reduceIte])
        (try simp (disch := omega) only [if_pos, Nat.sub_zero])
        first | exact leT_refl _ | (refine ⟨rfl, ?_⟩; first | exact leT_refl _ | exact leT_sl | exact leT_sln | exact leT_nil | (refine leT_tup (by repeat (first | exact leL_refl _ | refine leL_cons (by first | exact leT_refl _ | exact leT_virt | exact leT_junk _ | exact leT_sl | exact leT_sln | exact leT_nil | (refine leT_agg (by repeat (first | exact leL_refl _ | refine leL_cons (by first | exact leT_refl _ | exact leT_sl | exact leT_sln | exact leT_nil) ?_)))) ?_))) | (refine leT_agg (by repeat (first | exact leL_refl _ | refine leL_cons (by first | exact leT_refl _ | exact leT_virt | exact leT_junk _ | exact leT_sl | exact leT_sln | exact leT_nil | (refine leT_agg (by repeat (first | exact leL_refl _ | refine leL_cons (by first | exact leT_refl _ | exact leT_sl | exact leT_sln | exact leT_nil) ?_)))) ?_)))) | (first | exact leT_refl _ | exact leT_sl | exact leT_sln | exact leT_nil | (refine leT_tup (by repeat (first | exact leL_refl _ | refine leL_cons (by first | exact leT_refl _ | exact leT_virt | exact leT_junk _ | exact leT_sl | exact leT_sln | exact leT_nil | (refine leT_agg (by repeat (first | exact leL_refl _ | refine leL_cons (by first | exact leT_refl _ | exact leT_sl | exact leT_sln | exact leT_nil) ?_)))) ?_))) | (refine leT_agg (by repeat (first | exact leL_refl _ | refine leL_cons (by first | exact leT_refl _ | exact leT_virt | exact leT_junk _ | exact leT_sl | exact leT_sln | exact leT_nil | (refine leT_agg (by repeat (first | exact leL_refl _ | refine leL_cons (by first | exact leT_refl _ | exact leT_sl | exact leT_sln | exact leT_nil) ?_)))) ?_)))) | (simp only [List.append_assoc, List.cons_append, List.nil_append]; exact leT_refl _) | (rw [List.take_of_length_le (by simp)]; (try simp only [List.append_assoc, List.cons_append, List.nil_append]); exact leT_refl _)
       ·refine guardK_T c35 ?_
        try simp -implicitDefEqProofs (maxSteps := 4000000) (disch := first | omega | decide | (simp only [go_sem]; omega)) only [go_sem, ↓reduceIte]
        repeat (with_reducible refine And.intro (by first | assumption | omega | (simp; done) | (simp; omega)) ?_)
        rcases iteB_some h with ⟨c36, h⟩ | ⟨c36, h⟩
        ·refine guardK_T c36 ?_
         obtain ⟨g37, h⟩ := grd_some h
         try simp -implicitDefEqProofs (maxSteps := 4000000) (disch := first | omega | decide | (simp only [go_sem]; omega)) only [go_sem, ↓reduceIte]
         repeat (with_reducible refine And.intro (by first | assumption | omega | (simp; done) | (simp; omega)) ?_)
         refine toEnd hC ?_
         refine endX_seq ?_
         rcases iteB_some h with ⟨c38, h⟩ | ⟨c38, h⟩
         ·refine runX_condT rfl c38 ?_
          refine runX_seq ?_
          refine runX_regionC fun C hC => ?_
          try simp -implicitDefEqProofs (disch := omega) only [go_sem, ↓reduceIte]
          refine toEnd hC ?_
          refine endX_seq ?_
          refine runX_ret ?_
          refine endX_seqR ?_
          refine endX_blkR ?_
          refine endX_q (meetQ_ret ?_)
          refine endX_seqR ?_
          refine endX_lpR ?_
          refine endX_blkR ?_
          refine endX_seqR ?_
          refine endX_q ?_
          obtain rfl := Option.some.inj h
          show RetW _ _ _ _ _
          simp only [RetW]
          (try simp -implicitDefEqProofs (disch := omega) only [go_sem, ↓reduceIte])
          (try simp (disch := omega) only [if_pos, Nat.sub_zero])
          first | exact leT_refl _ | (refine ⟨rfl, ?_⟩; first | exact leT_refl _ | exact leT_sl | exact leT_sln | exact leT_nil | (refine leT_tup (by repeat (first | exact leL_refl _ | refine leL_cons (by first | exact leT_refl _ | exact leT_virt | exact leT_junk _ | exact leT_sl | exact leT_sln | exact leT_nil | (refine leT_agg (by repeat (first | exact leL_refl _ | refine leL_cons (by first | exact leT_refl _ | exact leT_sl | exact leT_sln | exact leT_nil) ?_)))) ?_))) | (refine leT_agg (by repeat (first | exact leL_refl _ | refine leL_cons (by first | exact leT_refl _ | exact leT_virt | exact leT_junk _ | exact leT_sl | exact leT_sln | exact leT_nil | (refine leT_agg (by repeat (first | exact leL_refl _ | refine leL_cons (by first | exact leT_refl _ | exact leT_sl | exact leT_sln | exact leT_nil) ?_)))) ?_)))) | (first | exact leT_refl _ | exact leT_sl | exact leT_sln | exact leT_nil | (refine leT_tup (by repeat (first | exact leL_refl _ | refine leL_cons (by first | exact leT_refl _ | exact leT_virt | exact leT_junk _ | exact leT_sl | exact leT_sln | exact leT_nil | (refine leT_agg (by repeat (first | exact leL_refl _ | refine leL_cons (by first | exact leT_refl _ | exact leT_sl | exact leT_sln | exact leT_nil) ?_)))) ?_))) | (refine leT_agg (by repeat (first | exact leL_refl _ | refine leL_cons (by first | exact leT_refl _ | exact leT_virt | exact leT_junk _ | exact leT_sl | exact leT_sln | exact leT_nil | (refine leT_agg (by repeat (first | exact leL_refl _ | refine leL_cons (by first | exact leT_refl _ | exact leT_sl | exact leT_sln | exact leT_nil) ?_)))) ?_)))) | (simp only [List.append_assoc, List.cons_append, List.nil_append]; exact leT_refl _) | (rw [List.take_of_length_le (by simp)]; (try simp only [List.append_assoc, List.cons_append, List.nil_append]); exact leT_refl _)
         ·refine runX_condF rfl c38 ?_
          refine runX_skip ?_
          refine endX_seq ?_
          refine runX_regionC fun C hC => ?_
          try simp -implicitDefEqProofs (disch := omega) only [go_sem, ↓reduceIte]
          refine toEnd hC ?_
          refine endX_blk ?_
          refine endX_q (meetQ_normal ⟨F103_S7 a0 (IntKind.wrap .i64 (bOr .i64 (IntKind.wrap .i64 (bShl .i64 x25 6)) x34)) x33, ?_, (IntKind.wrap .i64 (bOr .i64 (IntKind.wrap .i64 (bShl .i64 x25 6)) x34)), x33, rfl, h⟩)
          simp only [F103_S7]
          (try simp -implicitDefEqProofs (disch := omega) only [go_sem, ↓reduceIte])
          exact leS_refl _
        ·refine guardK_F c36 ?_
         try simp -implicitDefEqProofs (disch := omega) only [go_sem, ↓reduceIte]
         refine toEnd hC ?_
         refine endX_seq ?_
         refine runX_condF rfl rfl ?_
         refine runX_skip ?_
         refine endX_seq ?_
         refine runX_regionC fun C hC => ?_
         try simp -implicitDefEqProofs (disch := omega) only [go_sem, ↓reduceIte]
         refine toEnd hC ?_
         refine endX_blk ?_
         refine endX_q (meetQ_normal ⟨F103_S7 a0 (IntKind.wrap .i64 (bOr .i64 (IntKind.wrap .i64 (bShl .i64 x25 6)) x34)) x33, ?_, (IntKind.wrap .i64 (bOr .i64 (IntKind.wrap .i64 (bShl .i64 x25 6)) x34)), x33, rfl, h⟩)
         simp only [F103_S7]
         (try simp -implicitDefEqProofs (disch := omega) only [go_sem, ↓reduceIte])
         exact leS_refl _
     ·clear h
      rintro S ⟨x39, x40, rfl, h⟩
      rw [F103_J7] at h
      simp only [F103_S7]
      refine runX_regionC fun C hC => ?_
      try simp -implicitDefEqProofs (disch := omega) only [go_sem, ↓reduceIte]
      refine toEnd hC ?_
      refine endX_lp ?_
      refine runX_seq ?_
      refine runX_regionC fun C hC => ?_
      try simp -implicitDefEqProofs (disch := omega) only [go_sem, ↓reduceIte]
      refine toEnd hC ?_
      refine endX_seq ?_
      refine runX_seq ?_
      refine runX_condF rfl rfl ?_
      refine runX_exit ?_
      refine endX_seqE ?_
      refine endX_lpE ?_
      refine endX_blkE ?_
      refine endX_seq ?_
      refine runX_seq ?_
      refine runX_regionC fun C hC => ?_
      try simp -implicitDefEqProofs (disch := omega) only [go_sem, ↓reduceIte]
      refine bs_go <| buildX_val ?_
      try simp -implicitDefEqProofs (disch := omega) only [go_sem, ↓reduceIte]
      refine toEnd hC ?_
      refine endX_seq ?_
      refine runX_seq ?_
      refine runX_seq ?_
      refine runX_regionC fun C hC => ?_
      obtain ⟨g41, h⟩ := grd_some h
      have e42 : List.drop x40.toNat ([.imm (.int .u8 (IntKind.wrap .u8 ((bShr .i64 x39 16)))), .imm (.int .u8 (IntKind.wrap .u8 ((bShr .i64 x39 8)))), .imm (.int .u8 (IntKind.wrap .u8 (x39)))] : List T) = List.map byteT (List.drop x40.toNat [(IntKind.wrap .u8 ((bShr .i64 x39 16))), (IntKind.wrap .u8 ((bShr .i64 x39 8))), (IntKind.wrap .u8 (x39))]) := (List.map_drop (f := byteT) (l := [(IntKind.wrap .u8 ((bShr .i64 x39 16))), (IntKind.wrap .u8 ((bShr .i64 x39 8))), (IntKind.wrap .u8 (x39))]) (i := x40.toNat)).symm
      try simp -implicitDefEqProofs (maxSteps := 4000000) (disch := first | omega | decide | (simp only [go_sem]; omega)) only [go_sem, ↓reduceIte, e42]
      repeat (with_reducible refine And.intro (by first | assumption | omega | (simp; done) | (simp; omega)) ?_)
      refine toEnd hC ?_
      refine endX_seq ?_
      refine runX_block ?_
      refine runX_loop [5, 8, 63, 64, 65] (fun m S => ∃ (x43 : Int), S = F103_S9 x40 x39 x43 ∧ m ≤ n ∧ F103_L9 m x40 x39 x43 = some r) n ⟨F103_S9 x40 x39 (0 : Int), ?_, (0 : Int), rfl, Nat.le_refl _, h⟩ ?_
      ·simp only [F103_S9]
       (try simp -implicitDefEqProofs (disch := omega) only [go_sem, ↓reduceIte])
       exact leS_refl _
      ·clear h
       rintro m9 S ⟨x43, rfl, hm9, h⟩
       cases m9 with
       | zero => first | cases (show (none : Option _) = some _ from h) | (rw [F103_L9] at h; cases h)
       | succ m9 =>
        rw [F103_L9] at h
        simp only [F103_S9]
        refine runX_seq ?_
        refine runX_regionC fun C hC => ?_
        try simp -implicitDefEqProofs (disch := omega) only [go_sem, ↓reduceIte]
        refine toEnd hC ?_
        refine endX_seq ?_
        refine runX_seq ?_
        rcases iteB_some h with ⟨c44, h⟩ | ⟨c44, h⟩
        ·refine runX_condT rfl c44 ?_
         refine runX_skip ?_
         refine endX_seq ?_
         refine runX_seq ?_
         refine runX_block ?_
         refine runX_seq ?_
         refine runX_regionC fun C hC => ?_
         obtain ⟨g45, h⟩ := grd_some h
         try simp -implicitDefEqProofs (maxSteps := 4000000) (disch := first | omega | decide | (simp only [go_sem]; omega)) only [go_sem, ↓reduceIte]
         repeat (with_reducible refine And.intro (by first | assumption | omega | (simp; done) | (simp; omega)) ?_)
         refine toEnd hC ?_
         refine endX_seq ?_
         refine runX_seq ?_
         refine runX_regionC fun C hC => ?_
         try simp -implicitDefEqProofs (disch := omega) only [go_sem, ↓reduceIte]
         refine toEnd hC ?_
         refine endX_seq ?_
         rcases iteB_some h with ⟨c46, h⟩ | ⟨c46, h⟩
         ·refine runX_condT rfl c46 ?_
          refine runX_seq ?_
          refine runX_regionC fun C hC => ?_
          try simp -implicitDefEqProofs (disch := omega) only [go_sem, ↓reduceIte]
          refine toEnd hC ?_
          refine endX_seq ?_
          refine runX_ret ?_
          refine endX_blkR ?_
          refine endX_seqR ?_
          refine endX_q (roundQ_ret ?_)
          refine endX_blkR ?_
          refine endX_seqR ?_
          refine endX_q ?_
          obtain rfl := Option.some.inj h
          show RetW _ _ _ _ _
          simp only [RetW]
          (try simp -implicitDefEqProofs (disch := omega) only [go_sem, ↓reduceIte])
          (try simp (disch := omega) only [if_pos, Nat.sub_zero])
          first | exact leT_refl _ | (refine ⟨rfl, ?_⟩; first | exact leT_refl _ | exact leT_sl | exact leT_sln | exact leT_nil | (refine leT_tup (by repeat (first | exact leL_refl _ | refine leL_cons (by first | exact leT_refl _ | exact leT_virt | exact leT_junk _ | exact leT_sl | exact leT_sln | exact leT_nil | (refine leT_agg (by repeat (first | exact leL_refl _ | refine leL_cons (by first | exact leT_refl _ | exact leT_sl | exact leT_sln | exact leT_nil) ?_)))) ?_))) | (refine leT_agg (by repeat (first | exact leL_refl _ | refine leL_cons (by first | exact leT_refl _ | exact leT_virt | exact leT_junk _ | exact leT_sl | exact leT_sln | exact leT_nil | (refine leT_agg (by repeat (first | exact leL_refl _ | refine leL_cons (by first | exact leT_refl _ | exact leT_sl | exact leT_sln | exact leT_nil) ?_)))) ?_)))) | (first | exact leT_refl _ | exact leT_sl | exact leT_sln | exact leT_nil | (refine leT_tup (by repeat (first | exact leL_refl _ | refine leL_cons (by first | exact leT_refl _ | exact leT_virt | exact leT_junk _ | exact leT_sl | exact leT_sln | exact leT_nil | (refine leT_agg (by repeat (first | exact leL_refl _ | refine leL_cons (by first | exact leT_refl _ | exact leT_sl | exact leT_sln | exact leT_nil) ?_)))) ?_))) | (refine leT_agg (by repeat (first | exact leL_refl _ | refine leL_cons (by first | exact leT_refl _ | exact leT_virt | exact leT_junk _ | exact leT_sl | exact leT_sln | exact leT_nil | (refine leT_agg (by repeat (first | exact leL_refl _ | refine leL_cons (by first | exact leT_refl _ | exact leT_sl | exact leT_sln | exact leT_nil) ?_)))) ?_)))) | (simp only [List.append_assoc, List.cons_append, List.nil_append]; exact leT_refl _) | (rw [List.take_of_length_le (by simp)]; (try simp only [List.append_assoc, List.cons_append, List.nil_append]); exact leT_refl _)
         ·refine runX_condF rfl c46 ?_
          refine runX_skip ?_
          refine endX_blk ?_
          refine endX_seq ?_
          refine runX_regionC fun C hC => ?_
          try simp -implicitDefEqProofs (disch := omega) only [go_sem, ↓reduceIte]
          refine toEnd hC ?_
          refine endX_q (roundQ_normal ⟨m9, by omega, F103_S9 x40 x39 (IntKind.wrap .i64 (x43 + (1 : Int))), ?_, (IntKind.wrap .i64 (x43 + (1 : Int))), rfl, by omega, h⟩)
          simp only [F103_S9]
          (try simp -implicitDefEqProofs (maxSteps := 4000000) (disch := first | omega | decide | (simp only [go_sem]; omega)) only [go_sem, ↓reduceIte])
          first | exact leS_refl _ | (refine leS_le ?_ ?_ <;> first | exact leL_refl _ | exact leOs_refl _ | (simp only [List.append_assoc, List.cons_append, List.nil_append]; exact leOs_refl _) | (repeat (first | exact leL_refl _ | refine leL_cons (by first | exact leT_refl _ | exact leT_virt | exact leT_junk _ | exact leT_sl | exact leT_sln | exact leT_nil | (refine leT_agg (by repeat (first | exact leL_refl _ | refine leL_cons (by first | exact leT_refl _ | exact leT_sl | exact leT_sln | exact leT_nil) ?_)))) ?_)))
        ·refine runX_condF rfl c44 ?_
         refine runX_exit ?_
         refine endX_seqE ?_
         refine endX_q (roundQ_exit ?_)
         refine endX_blkE ?_
         refine endX_seq ?_
         refine runX_seq ?_
         refine runX_regionC fun C hC => ?_
         obtain ⟨g47, h⟩ := grd_some h
         have e48 : List.take x40.toNat ([.imm (.int .u8 (IntKind.wrap .u8 ((bShr .i64 x39 16)))), .imm (.int .u8 (IntKind.wrap .u8 ((bShr .i64 x39 8)))), .imm (.int .u8 (IntKind.wrap .u8 (x39)))] : List T) = List.map byteT (List.take x40.toNat [(IntKind.wrap .u8 ((bShr .i64 x39 16))), (IntKind.wrap .u8 ((bShr .i64 x39 8))), (IntKind.wrap .u8 (x39))]) := (List.map_take (f := byteT) (l := [(IntKind.wrap .u8 ((bShr .i64 x39 16))), (IntKind.wrap .u8 ((bShr .i64 x39 8))), (IntKind.wrap .u8 (x39))]) (i := x40.toNat)).symm
         try simp -implicitDefEqProofs (maxSteps := 4000000) (disch := first | omega | decide | (simp only [go_sem]; omega)) only [go_sem, ↓reduceIte, e48]
         repeat (with_reducible refine And.intro (by first | assumption | omega | (simp; done) | (simp; omega)) ?_)
         refine toEnd hC ?_
         refine endX_seq ?_
         refine runX_ret ?_
         refine endX_q ?_
         obtain rfl := Option.some.inj h
         show RetW _ _ _ _ _
         simp only [RetW]
         (try simp -implicitDefEqProofs (disch := omega) only [go_sem, ↓reduceIte])
         (try simp (disch := omega) only [if_pos, Nat.sub_zero])
         first | exact leT_refl _ | (refine ⟨rfl, ?_⟩; first | exact leT_refl _ | exact leT_sl | exact leT_sln | exact leT_nil | (refine leT_tup (by repeat (first | exact leL_refl _ | refine leL_cons (by first | exact leT_refl _ | exact leT_virt | exact leT_junk _ | exact leT_sl | exact leT_sln | exact leT_nil | (refine leT_agg (by repeat (first | exact leL_refl _ | refine leL_cons (by first | exact leT_refl _ | exact leT_sl | exact leT_sln | exact leT_nil) ?_)))) ?_))) | (refine leT_agg (by repeat (first | exact leL_refl _ | refine leL_cons (by first | exact leT_refl _ | exact leT_virt | exact leT_junk _ | exact leT_sl | exact leT_sln | exact leT_nil | (refine leT_agg (by repeat (first | exact leL_refl _ | refine leL_cons (by first | exact leT_refl _ | exact leT_sl | exact leT_sln | exact leT_nil) ?_)))) ?_)))) | (first | exact leT_refl _ | exact leT_sl | exact leT_sln | exact leT_nil | (refine leT_tup (by repeat (first | exact leL_refl _ | refine leL_cons (by first | exact leT_refl _ | exact leT_virt | exact leT_junk _ | exact leT_sl | exact leT_sln | exact leT_nil | (refine leT_agg (by repeat (first | exact leL_refl _ | refine leL_cons (by first | exact leT_refl _ | exact leT_sl | exact leT_sln | exact leT_nil) ?_)))) ?_))) | (refine leT_agg (by repeat (first | exact leL_refl _ | refine leL_cons (by first | exact leT_refl _ | exact leT_virt | exact leT_junk _ | exact leT_sl | exact leT_sln | exact leT_nil | (refine leT_agg (by repeat (first | exact leL_refl _ | refine leL_cons (by first | exact leT_refl _ | exact leT_sl | exact leT_sln | exact leT_nil) ?_)))) ?_)))) | (simp only [List.append_assoc, List.cons_append, List.nil_append]; exact leT_refl _) | (rw [List.take_of_length_le (by simp)]; (try simp only [List.append_assoc, List.cons_append, List.nil_append]); exact leT_refl _)
end Go.Proofs.YtaiapalhdejngaaX

set_option linter.unusedVariables false
set_option linter.unusedSimpArgs false
namespace Go.Proofs.YtaiapalhdejngaaX
open Go Go.RowKit Go.Proofs
set_option maxRecDepth 100000
attribute [local go_sem ↓] stepsK_build stepsK_bs appendS
attribute [local go_sem] String.reduceEq String.reduceNe reduceCtorEq Int.reduceEq Nat.reduceAdd Nat.reduceSub Nat.reduceMul Nat.reduceLT Nat.reduceLeDiff Nat.reduceEqDiff Nat.reduceBEq Int.reduceToNat Int.reduceLT Int.reduceLE Int.reduceGT Int.reduceGE Int.reduceAdd Int.reduceSub Int.reduceMul Int.reduceNeg Int.reduceBEq Int.reduceBNe Int.reducePow Int.reduceDiv Int.reduceMod Int.reduceTDiv Int.reduceTMod Int.reduceNatCast
/-! ### base.Decode -/
def F79_S1 (x2 : List UInt8) (x3 : List (Int)) : St := ⟨[.imm (.string (bs x2)), .junk, .junk, .junk, .rsl 0 1 0 x3.length, .junk, .junk, .junk, .junk, .junk, .junk, .junk, .junk, .junk, .junk, .junk, .junk, .junk, .junk, .junk, .junk, .junk, .junk, .junk, .junk, .junk, .junk, .junk, .junk, .junk, .junk, .junk, .junk, .junk, .junk, .junk, .junk], [some (.buf 5 1 (List.map byteT x3) 0)]⟩
def F79_L1 : Nat → (List UInt8) → (List (Int)) → Option ((List (Int)) × (Bool))
 | 0, _, _ => none
 | m1 + 1, x2, x3 => iteB (!(x2 == [])) (grd ((4 : Int) ≤ (x2.length : Int)) ((F103 m1 (x2.take 4)).bind fun v6 => iteB (!v6.2) (some ([], false)) (iteB (decide ((v6.1.length : Int) < (3 : Int))) (iteB (decide ((4 : Int) < (x2.length : Int))) (some ([], false)) (grd ((x3.length + v6.1.length) ≤ 549755813888) (grd ((4 : Int) ≤ (x2.length : Int)) (F79_L1 m1 (x2.drop 4) (x3 ++ v6.1))))) (grd ((x3.length + v6.1.length) ≤ 549755813888) (grd ((4 : Int) ≤ (x2.length : Int)) (F79_L1 m1 (x2.drop 4) (x3 ++ v6.1))))))) (some (x3, true))
def F79 (n : Nat) (a0 : List UInt8) : Option ((List (Int)) × (Bool)) := iteB (((a0.length : Int).tmod (4 : Int)) != (0 : Int)) (some ([], false)) (F79_L1 n a0 [])
set_option maxHeartbeats 4000000 in
theorem F79_ok : ∀ (n : Nat) (a0 : List UInt8) (r : (List (Int)) × (Bool)), F79 n a0 = some r → FnC Try.prog 79 [.imm (.string (bs a0))] (.tup [.sl 1 false (List.map byteT r.1), .imm (.bool r.2)])
 | n, a0, r, h => by
  unfold F79 at h
  refine FnC.goX mixed Try.func79 (by kernel_rfl) rfl ?_
  simp only [Try.ntmps79, List.length_cons, List.length_nil, List.replicate, List.cons_append, List.nil_append, Nat.reduceAdd, Nat.reduceSub]
  refine runX_seq ?_
  refine runX_regionC fun C hC => ?_
  try simp -implicitDefEqProofs (disch := omega) only [go_sem, ↓reduceIte]
  refine toEnd hC ?_
  refine endX_seq ?_
  refine runX_seq ?_
  refine runX_seq ?_
  refine runX_regionC fun C hC => ?_
  try simp -implicitDefEqProofs (disch := omega) only [go_sem, ↓reduceIte]
  refine toEnd hC ?_
  refine endX_seq ?_
  rcases iteB_some h with ⟨c1, h⟩ | ⟨c1, h⟩
  ·refine runX_condT rfl c1 ?_
   refine runX_seq ?_
   refine runX_regionC fun C hC => ?_
   try simp -implicitDefEqProofs (disch := omega) only [go_sem, ↓reduceIte]
   refine toEnd hC ?_
   refine endX_seq ?_
   refine runX_ret ?_
   refine endX_seqR ?_
   refine endX_q ?_
   obtain rfl := Option.some.inj h
   show RetW _ _ _ _ _
   simp only [RetW]
   (try simp -implicitDefEqProofs (disch := omega) only [go_sem, ↓reduceIte])
   (try simp (disch := omega) only [if_pos, Nat.sub_zero])
   first | exact leT_refl _ | (refine ⟨rfl, ?_⟩; first | exact leT_refl _ | exact leT_sl | exact leT_sln | exact leT_nil | (refine leT_tup (by repeat (first | exact leL_refl _ | refine leL_cons (by first | exact leT_refl _ | exact leT_virt | exact leT_junk _ | exact leT_sl | exact leT_sln | exact leT_nil | (refine leT_agg (by repeat (first | exact leL_refl _ | refine leL_cons (by first | exact leT_refl _ | exact leT_sl | exact leT_sln | exact leT_nil) ?_)))) ?_))) | (refine leT_agg (by repeat (first | exact leL_refl _ | refine leL_cons (by first | exact leT_refl _ | exact leT_virt | exact leT_junk _ | exact leT_sl | exact leT_sln | exact leT_nil | (refine leT_agg (by repeat (first | exact leL_refl _ | refine leL_cons (by first | exact leT_refl _ | exact leT_sl | exact leT_sln | exact leT_nil) ?_)))) ?_)))) | (first | exact leT_refl _ | exact leT_sl | exact leT_sln | exact leT_nil | (refine leT_tup (by repeat (first | exact leL_refl _ | refine leL_cons (by first | exact leT_refl _ | exact leT_virt | exact leT_junk _ | exact leT_sl | exact leT_sln | exact leT_nil | (refine leT_agg (by repeat (first | exact leL_refl _ | refine leL_cons (by first | exact leT_refl _ | exact leT_sl | exact leT_sln | exact leT_nil) ?_)))) ?_))) | (refine leT_agg (by repeat (first | exact leL_refl _ | refine leL_cons (by first | exact leT_refl _ | exact leT_virt | exact leT_junk _ | exact leT_sl | exact leT_sln | exact leT_nil | (refine leT_agg (by repeat (first | exact leL_refl _ | refine leL_cons (by first | exact leT_refl _ | exact leT_sl | exact leT_sln | exact leT_nil) ?_)))) ?_)))) | (simp only [List.append_assoc, List.cons_append, List.nil_append]; exact leT_refl _) | (rw [List.take_of_length_le (by simp)]; (try simp only [List.append_assoc, List.cons_append, List.nil_append]); exact leT_refl _)
  ·refine runX_condF rfl c1 ?_
   refine runX_skip ?_
   refine endX_seq ?_
   refine runX_seq ?_
   refine runX_regionC fun C hC => ?_
   try simp -implicitDefEqProofs (disch := omega) only [go_sem, ↓reduceIte]
   refine toEnd hC ?_
   refine endX_seq ?_
   refine runX_seq ?_
   refine runX_block ?_
   refine runX_loop [0, 4] (fun m S => ∃ (x2 : List UInt8) (x3 : List (Int)), S = F79_S1 x2 x3 ∧ m ≤ n ∧ F79_L1 m x2 x3 = some r) n ⟨F79_S1 a0 [], ?_, a0, [], rfl, Nat.le_refl _, h⟩ ?_
   ·(try simp -implicitDefEqProofs (disch := omega) only [go_sem, ↓reduceIte])
    simp only [F79_S1]
    refine leS_trans (leS_pad _ _ 1) ?_
    simp only [List.replicate, List.cons_append, List.nil_append]
    refine leS_virt 0 5 1 rfl ?_ ?_ rfl
    ·repeat (first | exact leL_refl _ | refine leL_cons (by first | exact leT_refl _ | exact leT_virt | exact leT_junk _ | exact leT_sl | exact leT_sln | exact leT_nil | (refine leT_agg (by repeat (first | exact leL_refl _ | refine leL_cons (by first | exact leT_refl _ | exact leT_sl | exact leT_sln | exact leT_nil) ?_)))) ?_)
    ·repeat (first | exact leOs_refl _ | refine leOs.cons (by first | exact leO.same _ | (refine leO.box (leT_agg (by repeat (first | exact leL_refl _ | refine leL_cons (by first | exact leT_refl _ | exact leT_virt | exact leT_junk _ | exact leT_sl | exact leT_sln | exact leT_nil | (refine leT_agg (by repeat (first | exact leL_refl _ | refine leL_cons (by first | exact leT_refl _ | exact leT_sl | exact leT_sln | exact leT_nil) ?_)))) ?_))) rfl) | (refine leO.box (by first | exact leT_virt | exact leT_sl | exact leT_sln) rfl)) ?_)
   ·clear h
    rintro m1 S ⟨x2, x3, rfl, hm1, h⟩
    cases m1 with
    | zero => first | cases (show (none : Option _) = some _ from h) | (rw [F79_L1] at h; cases h)
    | succ m1 =>
     rw [F79_L1] at h
     simp only [F79_S1]
     refine runX_seq ?_
     refine runX_seq ?_
     refine runX_regionC fun C hC => ?_
     try simp -implicitDefEqProofs (maxSteps := 4000000) (disch := first | omega | decide | (simp only [go_sem]; omega)) only [go_sem, ↓reduceIte]
     repeat (with_reducible refine And.intro (by first | assumption | omega | (simp; done) | (simp; omega)) ?_)
     refine toEnd hC ?_
     refine endX_seq ?_
     rcases iteB_some h with ⟨c4, h⟩ | ⟨c4, h⟩
     ·refine runX_condT rfl c4 ?_
      refine runX_skip ?_
      refine endX_seq ?_
      refine runX_seq ?_
      refine runX_block ?_
      refine runX_seq ?_
      refine runX_regionC fun C hC => ?_
      obtain ⟨g5, h⟩ := grd_some h
      obtain ⟨v6, h6, h⟩ := bnd_some h
      try simp -implicitDefEqProofs (maxSteps := 4000000) (disch := first | omega | decide | (simp only [go_sem]; omega)) only [go_sem, ↓reduceIte]
      repeat (with_reducible refine And.intro (by first | assumption | omega | (simp; done) | (simp; omega)) ?_)
      refine callG_X (by first | rfl | (simp only [go_sem]; done) | (simp only [closedL, closedT, Bool.and_true]; exact closedL_map _ (fun _ => by first | rfl | (simp only [go_sem]; done)) _)) (F103_ok m1 (x2.take 4) _ h6) (by repeat (first | exact leL_refl _ | refine leL_cons (by first | exact leT_refl _ | exact leT_virt | exact leT_junk _ | exact leT_sl | exact leT_sln | exact leT_nil | (refine leT_agg (by repeat (first | exact leL_refl _ | refine leL_cons (by first | exact leT_refl _ | exact leT_sl | exact leT_sln | exact leT_nil) ?_)))) ?_)) ?_
      try simp -implicitDefEqProofs (maxSteps := 4000000) (disch := first | omega | decide | (simp only [go_sem]; omega)) only [go_sem, ↓reduceIte]
      repeat (with_reducible refine And.intro (by first | assumption | omega | (simp; done) | (simp; omega)) ?_)
      refine toEnd hC ?_
      refine endX_seq ?_
      refine runX_seq ?_
      refine runX_seq ?_
      refine runX_regionC fun C hC => ?_
      try simp -implicitDefEqProofs (disch := omega) only [go_sem, ↓reduceIte]
      rcases iteB_some h with ⟨c7, h⟩ | ⟨c7, h⟩
      ·refine guardK_F c7 ?_
       try simp -implicitDefEqProofs (disch := omega) only [go_sem, ↓reduceIte]
       refine toEnd hC ?_
       refine endX_seq ?_
       refine runX_condT rfl rfl ?_
       refine runX_seq ?_
       refine runX_regionC fun C hC => ?_
       try simp -implicitDefEqProofs (disch := omega) only [go_sem, ↓reduceIte]
       refine toEnd hC ?_
       refine endX_seq ?_
       refine runX_ret ?_
       refine endX_seqR ?_
       refine endX_blkR ?_
       refine endX_seqR ?_
       refine endX_q (roundQ_ret ?_)
       refine endX_blkR ?_
       refine endX_seqR ?_
       refine endX_q ?_
       obtain rfl := Option.some.inj h
       show RetW _ _ _ _ _
       simp only [RetW]
       (try simp -implicitDefEqProofs (disch := omega) only [go_sem, ↓reduceIte])
       (try simp (disch := omega) only [if_pos, Nat.sub_zero])
       first | exact leT_refl _ | (refine ⟨rfl, ?_⟩; first | exact leT_refl _ | exact leT_sl | exact leT_sln | exact leT_nil | (refine leT_tup (by repeat (first | exact leL_refl _ | refine leL_cons (by first | exact leT_refl _ | exact leT_virt | exact leT_junk _ | exact leT_sl | exact leT_sln | exact leT_nil | (refine leT_agg (by repeat (first | exact leL_refl _ | refine leL_cons (by first | exact leT_refl _ | exact leT_sl | exact leT_sln | exact leT_nil) ?_)))) ?_))) | (refine leT_agg (by repeat (first | exact leL_refl _ | refine leL_cons (by first | exact leT_refl _ | exact leT_virt | exact leT_junk _ | exact leT_sl | exact leT_sln | exact leT_nil | (refine leT_agg (by repeat (first | exact leL_refl _ | refine leL_cons (by first | exact leT_refl _ | exact leT_sl | exact leT_sln | exact leT_nil) ?_)))) ?_)))) | (first | exact leT_refl _ | exact leT_sl | exact leT_sln | exact leT_nil | (refine leT_tup (by repeat (first | exact leL_refl _ | refine leL_cons (by first | exact leT_refl _ | exact leT_virt | exact leT_junk _ | exact leT_sl | exact leT_sln | exact leT_nil | (refine leT_agg (by repeat (first | exact leL_refl _ | refine leL_cons (by first | exact leT_refl _ | exact leT_sl | exact leT_sln | exact leT_nil) ?_)))) ?_))) | (refine leT_agg (by repeat (first | exact leL_refl _ | refine leL_cons (by first | exact leT_refl _ | exact leT_virt | exact leT_junk _ | exact leT_sl | exact leT_sln | exact leT_nil | (refine leT_agg (by repeat (first | exact leL_refl _ | refine leL_cons (by first | exact leT_refl _ | exact leT_sl | exact leT_sln | exact leT_nil) ?_)))) ?_)))) | (simp only [List.append_assoc, List.cons_append, List.nil_append]; exact leT_refl _) | (rw [List.take_of_length_le (by simp)]; (try simp only [List.append_assoc, List.cons_append, List.nil_append]); exact leT_refl _)
      ·refine guardK_T c7 ?_
       try simp -implicitDefEqProofs (disch := omega) only [go_sem, ↓reduceIte]
       rcases iteB_some h with ⟨c8, h⟩ | ⟨c8, h⟩
       ·refine guardK_T c8 ?_
        try simp -implicitDefEqProofs (disch := omega) only [go_sem, ↓reduceIte]
        refine toEnd hC ?_
        refine endX_seq ?_
        rcases iteB_some h with ⟨c9, h⟩ | ⟨c9, h⟩
        ·refine runX_condT rfl c9 ?_
         refine runX_seq ?_
         refine runX_regionC fun C hC => ?_
         try simp -implicitDefEqProofs (disch := omega) only [go_sem, ↓reduceIte]
         refine toEnd hC ?_
         refine endX_seq ?_
         refine runX_ret ?_
         refine endX_seqR ?_
         refine endX_blkR ?_
         refine endX_seqR ?_
         refine endX_q (roundQ_ret ?_)
         refine endX_blkR ?_
         refine endX_seqR ?_
         refine endX_q ?_
         obtain rfl := Option.some.inj h
         show RetW _ _ _ _ _
         simp only [RetW]
         (try simp -implicitDefEqProofs (maxSteps := 4000000) (disch := first | omega | decide | (simp only [go_sem]; omega)) only [go_sem, ↓reduceIte])
         (try simp (disch := omega) only [if_pos, Nat.sub_zero])
         first | exact leT_refl _ | (refine ⟨rfl, ?_⟩; first | exact leT_refl _ | exact leT_sl | exact leT_sln | exact leT_nil | (refine leT_tup (by repeat (first | exact leL_refl _ | refine leL_cons (by first | exact leT_refl _ | exact leT_virt | exact leT_junk _ | exact leT_sl | exact leT_sln | exact leT_nil | (refine leT_agg (by repeat (first | exact leL_refl _ | refine leL_cons (by first | exact leT_refl _ | exact leT_sl | exact leT_sln | exact leT_nil) ?_)))) ?_))) | (refine leT_agg (by repeat (first | exact leL_refl _ | refine leL_cons (by first | exact leT_refl _ | exact leT_virt | exact leT_junk _ | exact leT_sl | exact leT_sln | exact leT_nil | (refine leT_agg (by repeat (first | exact leL_refl _ | refine leL_cons (by first | exact leT_refl _ | exact leT_sl | exact leT_sln | exact leT_nil) ?_)))) ?_)))) | (first | exact leT_refl _ | exact leT_sl | exact leT_sln | exact leT_nil | (refine leT_tup (by repeat (first | exact leL_refl _ | refine leL_cons (by first | exact leT_refl _ | exact leT_virt | exact leT_junk _ | exact leT_sl | exact leT_sln | exact leT_nil | (refine leT_agg (by repeat (first | exact leL_refl _ | refine leL_cons (by first | exact leT_refl _ | exact leT_sl | exact leT_sln | exact leT_nil) ?_)))) ?_))) | (refine leT_agg (by repeat (first | exact leL_refl _ | refine leL_cons (by first | exact leT_refl _ | exact leT_virt | exact leT_junk _ | exact leT_sl | exact leT_sln | exact leT_nil | (refine leT_agg (by repeat (first | exact leL_refl _ | refine leL_cons (by first | exact leT_refl _ | exact leT_sl | exact leT_sln | exact leT_nil) ?_)))) ?_)))) | (simp only [List.append_assoc, List.cons_append, List.nil_append]; exact leT_refl _) | (rw [List.take_of_length_le (by simp)]; (try simp only [List.append_assoc, List.cons_append, List.nil_append]); exact leT_refl _)
        ·refine runX_condF rfl c9 ?_
         refine runX_skip ?_
         refine endX_seq ?_
         refine runX_regionC fun C hC => ?_
         obtain ⟨g10, h⟩ := grd_some h
         try simp -implicitDefEqProofs (maxSteps := 4000000) (disch := first | omega | decide | (simp only [go_sem]; omega)) only [go_sem, ↓reduceIte]
         repeat (with_reducible refine And.intro (by first | assumption | omega | (simp; done) | (simp; omega)) ?_)
         refine toEnd hC ?_
         refine endX_blk ?_
         refine endX_seq ?_
         refine runX_regionC fun C hC => ?_
         obtain ⟨g11, h⟩ := grd_some h
         try simp -implicitDefEqProofs (maxSteps := 4000000) (disch := first | omega | decide | (simp only [go_sem]; omega)) only [go_sem, ↓reduceIte]
         repeat (with_reducible refine And.intro (by first | assumption | omega | (simp; done) | (simp; omega)) ?_)
         refine toEnd hC ?_
         refine endX_q (roundQ_normal ⟨m1, by omega, F79_S1 (x2.drop 4) (x3 ++ v6.1), ?_, (x2.drop 4), (x3 ++ v6.1), rfl, by omega, h⟩)
         simp only [F79_S1]
         (try simp -implicitDefEqProofs (disch := omega) only [go_sem, ↓reduceIte])
         exact leS_refl _
       ·refine guardK_F c8 ?_
        try simp -implicitDefEqProofs (disch := omega) only [go_sem, ↓reduceIte]
        refine toEnd hC ?_
        refine endX_seq ?_
        refine runX_condF rfl rfl ?_
        refine runX_skip ?_
        refine endX_seq ?_
        refine runX_regionC fun C hC => ?_
        obtain ⟨g12, h⟩ := grd_some h
        try simp -implicitDefEqProofs (maxSteps := 4000000) (disch := first | omega | decide | (simp only [go_sem]; omega)) only [go_sem, ↓reduceIte]
        repeat (with_reducible refine And.intro (by first | assumption | omega | (simp; done) | (simp; omega)) ?_)
        refine toEnd hC ?_
        refine endX_blk ?_
        refine endX_seq ?_
        refine runX_regionC fun C hC => ?_
        obtain ⟨g13, h⟩ := grd_some h
        try simp -implicitDefEqProofs (maxSteps := 4000000) (disch := first | omega | decide | (simp only [go_sem]; omega)) only [go_sem, ↓reduceIte]
        repeat (with_reducible refine And.intro (by first | assumption | omega | (simp; done) | (simp; omega)) ?_)
        refine toEnd hC ?_
        refine endX_q (roundQ_normal ⟨m1, by omega, F79_S1 (x2.drop 4) (x3 ++ v6.1), ?_, (x2.drop 4), (x3 ++ v6.1), rfl, by omega, h⟩)
        simp only [F79_S1]
        (try simp -implicitDefEqProofs (disch := omega) only [go_sem, ↓reduceIte])
        exact leS_refl _
     ·refine runX_condF rfl c4 ?_
      refine runX_exit ?_
      refine endX_seqE ?_
      refine endX_q (roundQ_exit ?_)
      refine endX_blkE ?_
      refine endX_seq ?_
      refine runX_seq ?_
      refine runX_regionC fun C hC => ?_
      try simp -implicitDefEqProofs (disch := omega) only [go_sem, ↓reduceIte]
      refine toEnd hC ?_
      refine endX_seq ?_
      refine runX_ret ?_
      refine endX_q ?_
      obtain rfl := Option.some.inj h
      show RetW _ _ _ _ _
      simp only [RetW]
      (try simp -implicitDefEqProofs (disch := omega) only [go_sem, ↓reduceIte])
      (try simp (disch := omega) only [if_pos, Nat.sub_zero])
      first | exact leT_refl _ | (refine ⟨rfl, ?_⟩; first | exact leT_refl _ | exact leT_sl | exact leT_sln | exact leT_nil | (refine leT_tup (by repeat (first | exact leL_refl _ | refine leL_cons (by first | exact leT_refl _ | exact leT_virt | exact leT_junk _ | exact leT_sl | exact leT_sln | exact leT_nil | (refine leT_agg (by repeat (first | exact leL_refl _ | refine leL_cons (by first | exact leT_refl _ | exact leT_sl | exact leT_sln | exact leT_nil) ?_)))) ?_))) | (refine leT_agg (by repeat (first | exact leL_refl _ | refine leL_cons (by first | exact leT_refl _ | exact leT_virt | exact leT_junk _ | exact leT_sl | exact leT_sln | exact leT_nil | (refine leT_agg (by repeat (first | exact leL_refl _ | refine leL_cons (by first | exact leT_refl _ | exact leT_sl | exact leT_sln | exact leT_nil) ?_)))) ?_)))) | (first | exact leT_refl _ | exact leT_sl | exact leT_sln | exact leT_nil | (refine leT_tup (by repeat (first | exact leL_refl _ | refine leL_cons (by first | exact leT_refl _ | exact leT_virt | exact leT_junk _ | exact leT_sl | exact leT_sln | exact leT_nil | (refine leT_agg (by repeat (first | exact leL_refl _ | refine leL_cons (by first | exact leT_refl _ | exact leT_sl | exact leT_sln | exact leT_nil) ?_)))) ?_))) | (refine leT_agg (by repeat (first | exact leL_refl _ | refine leL_cons (by first | exact leT_refl _ | exact leT_virt | exact leT_junk _ | exact leT_sl | exact leT_sln | exact leT_nil | (refine leT_agg (by repeat (first | exact leL_refl _ | refine leL_cons (by first | exact leT_refl _ | exact leT_sl | exact leT_sln | exact leT_nil) ?_)))) ?_)))) | (simp only [List.append_assoc, List.cons_append, List.nil_append]; exact leT_refl _) | (rw [List.take_of_length_le (by simp)]; (try simp only [List.append_assoc, List.cons_append, List.nil_append]); exact leT_refl _)
end Go.Proofs.YtaiapalhdejngaaX

set_option linter.unusedVariables false
set_option linter.unusedSimpArgs false
namespace Go.Proofs.YtaiapalhdejngaaX
open Go Go.RowKit Go.Proofs
set_option maxRecDepth 100000
attribute [local go_sem ↓] stepsK_build stepsK_bs appendS
attribute [local go_sem] String.reduceEq String.reduceNe reduceCtorEq Int.reduceEq Nat.reduceAdd Nat.reduceSub Nat.reduceMul Nat.reduceLT Nat.reduceLeDiff Nat.reduceEqDiff Nat.reduceBEq Int.reduceToNat Int.reduceLT Int.reduceLE Int.reduceGT Int.reduceGE Int.reduceAdd Int.reduceSub Int.reduceMul Int.reduceNeg Int.reduceBEq Int.reduceBNe Int.reducePow Int.reduceDiv Int.reduceMod Int.reduceTDiv Int.reduceTMod Int.reduceNatCast
/-! ### etag.Given -/
def F43 (n : Nat) (a0 : List UInt8) (a1 : List (Int)) : Option (Bool) := (F79 n a0).bind fun v1 => (F45 n a1).bind fun v2 => grd (v2.length = 16) (iteB v1.2 (grd (v2.length = 16) (some ((v1.1.map toB) == (v2.map toB)))) (some false))
set_option maxHeartbeats 4000000 in
theorem F43_ok : ∀ (n : Nat) (a0 : List UInt8) (a1 : List (Int)) (r : Bool), F43 n a0 a1 = some r → FnC Try.prog 43 [.imm (.string (bs a0)), .sl 1 false (List.map byteT a1)] (.imm (.bool r))
 | n, a0, a1, r, h => by
  unfold F43 at h
  refine FnC.goX mixed Try.func43 (by kernel_rfl) rfl ?_
  simp only [Try.ntmps43, List.length_cons, List.length_nil, List.replicate, List.cons_append, List.nil_append, Nat.reduceAdd, Nat.reduceSub]
  refine runX_seq ?_
  refine runX_regionC fun C hC => ?_
  try simp -implicitDefEqProofs (maxSteps := 4000000) (disch := first | omega | decide | (simp only [go_sem]; omega)) only [go_sem, ↓reduceIte]
  repeat (with_reducible refine And.intro (by first | assumption | omega | (simp; done) | (simp; omega)) ?_)
  refine toEnd hC ?_
  refine endX_seq ?_
  refine runX_seq ?_
  refine runX_regionC fun C hC => ?_
  obtain ⟨v1, h1, h⟩ := bnd_some h
  try simp -implicitDefEqProofs (maxSteps := 4000000) (disch := first | omega | decide | (simp only [go_sem]; omega)) only [go_sem, ↓reduceIte]
  repeat (with_reducible refine And.intro (by first | assumption | omega | (simp; done) | (simp; omega)) ?_)
  refine callG_X (by first | rfl | (simp only [go_sem]; done) | (simp only [closedL, closedT, Bool.and_true]; exact closedL_map _ (fun _ => by first | rfl | (simp only [go_sem]; done)) _)) (F79_ok n a0 _ h1) (by repeat (first | exact leL_refl _ | refine leL_cons (by first | exact leT_refl _ | exact leT_virt | exact leT_junk _ | exact leT_sl | exact leT_sln | exact leT_nil | (refine leT_agg (by repeat (first | exact leL_refl _ | refine leL_cons (by first | exact leT_refl _ | exact leT_sl | exact leT_sln | exact leT_nil) ?_)))) ?_)) ?_
  try simp -implicitDefEqProofs (maxSteps := 4000000) (disch := first | omega | decide | (simp only [go_sem]; omega)) only [go_sem, ↓reduceIte]
  repeat (with_reducible refine And.intro (by first | assumption | omega | (simp; done) | (simp; omega)) ?_)
  refine toEnd hC ?_
  refine endX_seq ?_
  refine runX_seq ?_
  refine runX_regionC fun C hC => ?_
  obtain ⟨v2, h2, h⟩ := bnd_some h
  try simp -implicitDefEqProofs (maxSteps := 4000000) (disch := first | omega | decide | (simp only [go_sem]; omega)) only [go_sem, ↓reduceIte]
  repeat (with_reducible refine And.intro (by first | assumption | omega | (simp; done) | (simp; omega)) ?_)
  refine callG_X (by first | rfl | (simp only [go_sem]; done) | (simp only [closedL, closedT, Bool.and_true]; exact closedL_map _ (fun _ => by first | rfl | (simp only [go_sem]; done)) _)) (F45_ok n a1 _ h2) (by repeat (first | exact leL_refl _ | refine leL_cons (by first | exact leT_refl _ | exact leT_virt | exact leT_junk _ | exact leT_sl | exact leT_sln | exact leT_nil | (refine leT_agg (by repeat (first | exact leL_refl _ | refine leL_cons (by first | exact leT_refl _ | exact leT_sl | exact leT_sln | exact leT_nil) ?_)))) ?_)) ?_
  obtain ⟨g3, h⟩ := grd_some h
  have e4 : List.drop v2.length ([.imm (.int .u8 (0 : Int)), .imm (.int .u8 (0 : Int)), .imm (.int .u8 (0 : Int)), .imm (.int .u8 (0 : Int)), .imm (.int .u8 (0 : Int)), .imm (.int .u8 (0 : Int)), .imm (.int .u8 (0 : Int)), .imm (.int .u8 (0 : Int)), .imm (.int .u8 (0 : Int)), .imm (.int .u8 (0 : Int)), .imm (.int .u8 (0 : Int)), .imm (.int .u8 (0 : Int)), .imm (.int .u8 (0 : Int)), .imm (.int .u8 (0 : Int)), .imm (.int .u8 (0 : Int)), .imm (.int .u8 (0 : Int))] : List T) = [] := drop_all (by first | (simp only [List.length_cons, List.length_nil]; omega) | (simp; omega))
  try simp -implicitDefEqProofs (maxSteps := 4000000) (disch := first | omega | decide | (simp only [go_sem]; omega)) only [go_sem, ↓reduceIte, e4]
  repeat (with_reducible refine And.intro (by first | assumption | omega | (simp; done) | (simp; omega)) ?_)
  refine toEnd hC ?_
  refine endX_seq ?_
  refine runX_seq ?_
  refine runX_le (leS_pp 0 70 (.agg (List.map byteT v2)) false rfl (fun E u h => Rep.close _ _ _ (by first | rfl | (simp only [closedT]; exact closedL_map _ (fun _ => by first | rfl | (simp only [go_sem]; done)) _)) h)) ?_
  simp -implicitDefEqProofs (config := { decide := true }) only [ppL, ppT, ppO, ppL_s, Own.pp, List.set_cons_zero, List.set_cons_succ, List.map_cons, List.map_nil, Option.map_some, Option.map_none, Nat.reduceMul, Nat.reduceAdd, ↓reduceIte]
  refine runX_drawC mixed (by kernel_rfl) fun C hC => ?_
  try simp -implicitDefEqProofs (maxSteps := 4000000) (disch := first | omega | decide | (simp only [go_sem]; omega)) only [go_sem, ↓reduceIte]
  repeat (with_reducible refine And.intro (by first | assumption | omega | (simp; done) | (simp; omega)) ?_)
  rcases iteB_some h with ⟨c5, h⟩ | ⟨c5, h⟩
  ·refine guardD_T c5 ?_
   obtain ⟨g6, h⟩ := grd_some h
   try simp -implicitDefEqProofs (maxSteps := 4000000) (disch := first | omega | decide | (simp only [go_sem]; omega)) only [go_sem, ↓reduceIte]
   repeat (with_reducible refine And.intro (by first | assumption | omega | (simp; done) | (simp; omega)) ?_)
   refine toEnd hC ?_
   refine endX_seq ?_
   refine runX_ret ?_
   refine endX_q ?_
   obtain rfl := Option.some.inj h
   show RetW _ _ _ _ _
   simp only [RetW]
   (try simp -implicitDefEqProofs (maxSteps := 4000000) (disch := first | omega | decide | (simp only [go_sem]; omega)) only [go_sem, ↓reduceIte])
   (try simp (disch := omega) only [if_pos, Nat.sub_zero])
   exact leT_refl _
  ·refine guardD_F c5 ?_
   try simp -implicitDefEqProofs (maxSteps := 4000000) (disch := first | omega | decide | (simp only [go_sem]; omega)) only [go_sem, ↓reduceIte]
   repeat (with_reducible refine And.intro (by first | assumption | omega | (simp; done) | (simp; omega)) ?_)
   refine toEnd hC ?_
   refine endX_seq ?_
   refine runX_ret ?_
   refine endX_q ?_
   obtain rfl := Option.some.inj h
   show RetW _ _ _ _ _
   simp only [RetW]
   (try simp -implicitDefEqProofs (maxSteps := 4000000) (disch := first | omega | decide | (simp only [go_sem]; omega)) only [go_sem, ↓reduceIte])
   (try simp (disch := omega) only [if_pos, Nat.sub_zero])
   exact leT_refl _
end Go.Proofs.YtaiapalhdejngaaX

set_option linter.unusedVariables false
set_option linter.unusedSimpArgs false
namespace Go.Proofs.YtaiapalhdejngaaX
open Go Go.RowKit Go.Proofs
set_option maxRecDepth 100000
attribute [local go_sem ↓] stepsK_build stepsK_bs appendS
attribute [local go_sem] String.reduceEq String.reduceNe reduceCtorEq Int.reduceEq Nat.reduceAdd Nat.reduceSub Nat.reduceMul Nat.reduceLT Nat.reduceLeDiff Nat.reduceEqDiff Nat.reduceBEq Int.reduceToNat Int.reduceLT Int.reduceLE Int.reduceGT Int.reduceGE Int.reduceAdd Int.reduceSub Int.reduceMul Int.reduceNeg Int.reduceBEq Int.reduceBNe Int.reducePow Int.reduceDiv Int.reduceMod Int.reduceTDiv Int.reduceTMod Int.reduceNatCast
/-! ### base.Sign -/
def F110 (n : Nat) (a0 : Int) : Option (Int) := iteB (decide (a0 < (0 : Int))) (some (0 : Int)) (iteB (decide ((63 : Int) < a0)) (some (0 : Int)) (grd (0 ≤ a0 ∧ a0 < (64 : Int)) (some (((65 :: 66 :: 67 :: 68 :: 69 :: 70 :: 71 :: 72 :: 73 :: 74 :: 75 :: 76 :: 77 :: 78 :: 79 :: 80 :: 81 :: 82 :: 83 :: 84 :: 85 :: 86 :: 87 :: 88 :: 89 :: 90 :: 97 :: 98 :: 99 :: 100 :: 101 :: 102 :: 103 :: 104 :: 105 :: 106 :: 107 :: 108 :: 109 :: 110 :: 111 :: 112 :: 113 :: 114 :: 115 :: 116 :: 117 :: 118 :: 119 :: 120 :: 121 :: 122 :: 48 :: 49 :: 50 :: 51 :: 52 :: 53 :: 54 :: 55 :: 56 :: 57 :: 43 :: 47 :: ([] : List UInt8)).getD a0.toNat 0).toNat : Int))))
set_option maxHeartbeats 4000000 in
theorem F110_ok : ∀ (n : Nat) (a0 : Int) (r : Int), F110 n a0 = some r → FnC Try.prog 110 [.imm (.int .i64 a0)] (.imm (.int .u8 r))
 | n, a0, r, h => by
  unfold F110 at h
  refine FnC.goX mixed Try.func110 (by kernel_rfl) rfl ?_
  simp only [Try.ntmps110, List.length_cons, List.length_nil, List.replicate, List.cons_append, List.nil_append, Nat.reduceAdd, Nat.reduceSub]
  refine runX_seq ?_
  refine runX_regionC fun C hC => ?_
  try simp -implicitDefEqProofs (maxSteps := 4000000) (disch := first | omega | decide | (simp only [go_sem]; omega)) only [go_sem, ↓reduceIte]
  repeat (with_reducible refine And.intro (by first | assumption | omega | (simp; done) | (simp; omega)) ?_)
  refine toEnd hC ?_
  refine endX_seq ?_
  refine runX_seq ?_
  refine runX_seq ?_
  refine runX_regionC fun C hC => ?_
  try simp -implicitDefEqProofs (maxSteps := 4000000) (disch := first | omega | decide | (simp only [go_sem]; omega)) only [go_sem, ↓reduceIte]
  repeat (with_reducible refine And.intro (by first | assumption | omega | (simp; done) | (simp; omega)) ?_)
  rcases iteB_some h with ⟨c1, h⟩ | ⟨c1, h⟩
  ·refine guardK_F c1 ?_
   try simp -implicitDefEqProofs (maxSteps := 4000000) (disch := first | omega | decide | (simp only [go_sem]; omega)) only [go_sem, ↓reduceIte]
   repeat (with_reducible refine And.intro (by first | assumption | omega | (simp; done) | (simp; omega)) ?_)
   refine toEnd hC ?_
   refine endX_seq ?_
   refine runX_condT rfl rfl ?_
   refine runX_seq ?_
   refine runX_regionC fun C hC => ?_
   try simp -implicitDefEqProofs (maxSteps := 4000000) (disch := first | omega | decide | (simp only [go_sem]; omega)) only [go_sem, ↓reduceIte]
   repeat (with_reducible refine And.intro (by first | assumption | omega | (simp; done) | (simp; omega)) ?_)
   refine toEnd hC ?_
   refine endX_seq ?_
   refine runX_ret ?_
   refine endX_seqR ?_
   refine endX_q ?_
   obtain rfl := Option.some.inj h
   show RetW _ _ _ _ _
   simp only [RetW]
   (try simp -implicitDefEqProofs (maxSteps := 4000000) (disch := first | omega | decide | (simp only [go_sem]; omega)) only [go_sem, ↓reduceIte])
   (try simp (disch := omega) only [if_pos, Nat.sub_zero])
   exact leT_refl _
  ·refine guardK_T c1 ?_
   try simp -implicitDefEqProofs (maxSteps := 4000000) (disch := first | omega | decide | (simp only [go_sem]; omega)) only [go_sem, ↓reduceIte]
   repeat (with_reducible refine And.intro (by first | assumption | omega | (simp; done) | (simp; omega)) ?_)
   refine toEnd hC ?_
   refine endX_seq ?_
   rcases iteB_some h with ⟨c2, h⟩ | ⟨c2, h⟩
   ·refine runX_condT rfl c2 ?_
    refine runX_seq ?_
    refine runX_regionC fun C hC => ?_
    try simp -implicitDefEqProofs (maxSteps := 4000000) (disch := first | omega | decide | (simp only [go_sem]; omega)) only [go_sem, ↓reduceIte]
    repeat (with_reducible refine And.intro (by first | assumption | omega | (simp; done) | (simp; omega)) ?_)
    refine toEnd hC ?_
    refine endX_seq ?_
    refine runX_ret ?_
    refine endX_seqR ?_
    refine endX_q ?_
    obtain rfl := Option.some.inj h
    show RetW _ _ _ _ _
    simp only [RetW]
    (try simp -implicitDefEqProofs (maxSteps := 4000000) (disch := first | omega | decide | (simp only [go_sem]; omega)) only [go_sem, ↓reduceIte])
    (try simp (disch := omega) only [if_pos, Nat.sub_zero])
    exact leT_refl _
   ·refine runX_condF rfl c2 ?_
    refine runX_skip ?_
    refine endX_seq ?_
    refine runX_seq ?_
    refine runX_regionC fun C hC => ?_
    obtain ⟨g3, h⟩ := grd_some h
    try simp -implicitDefEqProofs (maxSteps := 4000000) (disch := first | omega | decide | (simp only [go_sem]; omega)) only [go_sem, ↓reduceIte]
    repeat (with_reducible refine And.intro (by first | assumption | omega | (simp; done) | (simp; omega)) ?_)
    refine toEnd hC ?_
    refine endX_seq ?_
    refine runX_ret ?_
    refine endX_q ?_
    obtain rfl := Option.some.inj h
    show RetW _ _ _ _ _
    simp only [RetW]
    (try simp -implicitDefEqProofs (maxSteps := 4000000) (disch := first | omega | decide | (simp only [go_sem]; omega)) only [go_sem, ↓reduceIte])
    (try simp (disch := omega) only [if_pos, Nat.sub_zero])
    exact leT_refl _
end Go.Proofs.YtaiapalhdejngaaX

set_option linter.unusedVariables false
set_option linter.unusedSimpArgs false
namespace Go.Proofs.YtaiapalhdejngaaX
open Go Go.RowKit Go.Proofs
set_option maxRecDepth 100000
attribute [local go_sem ↓] stepsK_build stepsK_bs appendS
attribute [local go_sem] String.reduceEq String.reduceNe reduceCtorEq Int.reduceEq Nat.reduceAdd Nat.reduceSub Nat.reduceMul Nat.reduceLT Nat.reduceLeDiff Nat.reduceEqDiff Nat.reduceBEq Int.reduceToNat Int.reduceLT Int.reduceLE Int.reduceGT Int.reduceGE Int.reduceAdd Int.reduceSub Int.reduceMul Int.reduceNeg Int.reduceBEq Int.reduceBNe Int.reducePow Int.reduceDiv Int.reduceMod Int.reduceTDiv Int.reduceTMod Int.reduceNatCast
/-! ### base.quad -/
def F84_S2 (a0 : List (Int)) (x4 : Int) : St := ⟨[.sl 1 false (List.map byteT a0), .junk, .ref 0 0 0 0, .imm (.int .i64 x4), .junk, .junk, .junk, .junk, .junk, .junk, .junk, .junk, .junk, .junk, .junk, .junk, .junk, .junk, .junk, .junk, .junk, .junk, .junk, .junk, .junk, .junk, .junk, .junk, .junk, .junk, .junk, .junk, .junk, .junk, .junk, .junk, .junk, .junk, .junk, .junk, .junk, .junk, .junk, .junk, .junk, .junk, .junk, .junk, .junk, .junk, .junk, .junk], [some (.box 117 (.agg [.imm (.int .u8 (0 : Int)), .imm (.int .u8 (0 : Int)), .imm (.int .u8 (0 : Int)), .imm (.int .u8 (0 : Int))]) false)]⟩
def F84_S6 (a0 : List (Int)) (x6 : Int) (x10 : Int) (x13 : Int) (x16 : Int) (x19 : Int) : St := ⟨[.sl 1 false (List.map byteT a0), .junk, .ref 0 0 0 0, .imm (.int .i64 (IntKind.wrap .i64 (bOr .i64 x6 (IntKind.wrap .i64 (bShl .i64 (IntKind.wrap .i64 ((a0.getD (0 : Int).toNat default))) 16))))), .ref 1 0 0 0, .junk, .junk, .junk, .junk, .junk, .junk, .junk, .junk, .junk, .junk, .junk, .junk, .junk, .junk, .junk, .junk, .junk, .junk, .junk, .junk, .junk, .junk, .junk, .junk, .junk, .junk, .junk, .imm (.int .i64 (3 : Int)), .junk, .junk, .junk, .junk, .junk, .junk, .junk, .junk, .junk, .junk, .junk, .junk, .junk, .junk, .junk, .junk, .junk, .junk, .junk], [some (.box 117 (.agg [.imm (.int .u8 (0 : Int)), .imm (.int .u8 (0 : Int)), .imm (.int .u8 (0 : Int)), .imm (.int .u8 (0 : Int))]) false), some (.box 117 (.agg [.imm (.int .u8 x10), .imm (.int .u8 x13), .imm (.int .u8 x16), .imm (.int .u8 x19)]) false)]⟩
def F84_S5 (a0 : List (Int)) (x6 : Int) (x10 : Int) (x13 : Int) (x16 : Int) : St := ⟨[.sl 1 false (List.map byteT a0), .junk, .ref 0 0 0 0, .imm (.int .i64 (IntKind.wrap .i64 (bOr .i64 x6 (IntKind.wrap .i64 (bShl .i64 (IntKind.wrap .i64 ((a0.getD (0 : Int).toNat default))) 16))))), .ref 1 0 0 0, .junk, .junk, .junk, .junk, .junk, .junk, .junk, .junk, .junk, .junk, .junk, .junk, .junk, .junk, .junk, .junk, .junk, .junk, .junk, .junk, .junk, .junk, .junk, .junk, .junk, .junk, .junk, .imm (.int .i64 (2 : Int)), .junk, .junk, .junk, .junk, .junk, .junk, .junk, .junk, .junk, .junk, .junk, .junk, .junk, .junk, .junk, .junk, .junk, .junk, .junk], [some (.box 117 (.agg [.imm (.int .u8 (0 : Int)), .imm (.int .u8 (0 : Int)), .imm (.int .u8 (0 : Int)), .imm (.int .u8 (0 : Int))]) false), some (.box 117 (.agg [.imm (.int .u8 x10), .imm (.int .u8 x13), .imm (.int .u8 x16), .imm (.int .u8 (0 : Int))]) false)]⟩
def F84_S4 (a0 : List (Int)) (x6 : Int) (x10 : Int) (x13 : Int) : St := ⟨[.sl 1 false (List.map byteT a0), .junk, .ref 0 0 0 0, .imm (.int .i64 (IntKind.wrap .i64 (bOr .i64 x6 (IntKind.wrap .i64 (bShl .i64 (IntKind.wrap .i64 ((a0.getD (0 : Int).toNat default))) 16))))), .ref 1 0 0 0, .junk, .junk, .junk, .junk, .junk, .junk, .junk, .junk, .junk, .junk, .junk, .junk, .junk, .junk, .junk, .junk, .junk, .junk, .junk, .junk, .junk, .junk, .junk, .junk, .junk, .junk, .junk, .imm (.int .i64 (1 : Int)), .junk, .junk, .junk, .junk, .junk, .junk, .junk, .junk, .junk, .junk, .junk, .junk, .junk, .junk, .junk, .junk, .junk, .junk, .junk], [some (.box 117 (.agg [.imm (.int .u8 (0 : Int)), .imm (.int .u8 (0 : Int)), .imm (.int .u8 (0 : Int)), .imm (.int .u8 (0 : Int))]) false), some (.box 117 (.agg [.imm (.int .u8 x10), .imm (.int .u8 x13), .imm (.int .u8 (0 : Int)), .imm (.int .u8 (0 : Int))]) false)]⟩
def F84_S3 (a0 : List (Int)) (x6 : Int) (x10 : Int) : St := ⟨[.sl 1 false (List.map byteT a0), .junk, .ref 0 0 0 0, .imm (.int .i64 (IntKind.wrap .i64 (bOr .i64 x6 (IntKind.wrap .i64 (bShl .i64 (IntKind.wrap .i64 ((a0.getD (0 : Int).toNat default))) 16))))), .ref 1 0 0 0, .junk, .junk, .junk, .junk, .junk, .junk, .junk, .junk, .junk, .junk, .junk, .junk, .junk, .junk, .junk, .junk, .junk, .junk, .junk, .junk, .junk, .junk, .junk, .junk, .junk, .junk, .junk, .imm (.int .i64 (0 : Int)), .junk, .junk, .junk, .junk, .junk, .junk, .junk, .junk, .junk, .junk, .junk, .junk, .junk, .junk, .junk, .junk, .junk, .junk, .junk], [some (.box 117 (.agg [.imm (.int .u8 (0 : Int)), .imm (.int .u8 (0 : Int)), .imm (.int .u8 (0 : Int)), .imm (.int .u8 (0 : Int))]) false), some (.box 117 (.agg [.imm (.int .u8 x10), .imm (.int .u8 (0 : Int)), .imm (.int .u8 (0 : Int)), .imm (.int .u8 (0 : Int))]) false)]⟩
def F84_S1 (a0 : List (Int)) (x6 : Int) : St := ⟨[.sl 1 false (List.map byteT a0), .junk, .ref 0 0 0 0, .imm (.int .i64 x6), .junk, .junk, .junk, .junk, .junk, .junk, .junk, .junk, .junk, .junk, .junk, .junk, .junk, .junk, .junk, .junk, .junk, .junk, .junk, .junk, .junk, .junk, .junk, .junk, .junk, .junk, .junk, .junk, .junk, .junk, .junk, .junk, .junk, .junk, .junk, .junk, .junk, .junk, .junk, .junk, .junk, .junk, .junk, .junk, .junk, .junk, .junk, .junk], [some (.box 117 (.agg [.imm (.int .u8 (0 : Int)), .imm (.int .u8 (0 : Int)), .imm (.int .u8 (0 : Int)), .imm (.int .u8 (0 : Int))]) false)]⟩
def F84_J6 (n : Nat) (a0 : List (Int)) (x6 : Int) (x10 : Int) (x13 : Int) (x16 : Int) (x19 : Int) : Option (List (Int)) := some [x10, x13, x16, x19]
def F84_J5 (n : Nat) (a0 : List (Int)) (x6 : Int) (x10 : Int) (x13 : Int) (x16 : Int) : Option (List (Int)) := iteB (decide ((3 : Int) ≤ (a0.length : Int))) ((F110 n (IntKind.wrap .i64 (bAnd .i64 (bShr .i64 (IntKind.wrap .i64 (bOr .i64 x6 (IntKind.wrap .i64 (bShl .i64 (IntKind.wrap .i64 ((a0.getD (0 : Int).toNat default))) 16)))) 0) (63 : Int)))).bind fun v18 => F84_J6 n a0 x6 x10 x13 x16 v18) (F84_J6 n a0 x6 x10 x13 x16 (61 : Int))
def F84_J4 (n : Nat) (a0 : List (Int)) (x6 : Int) (x10 : Int) (x13 : Int) : Option (List (Int)) := iteB (decide ((2 : Int) ≤ (a0.length : Int))) ((F110 n (IntKind.wrap .i64 (bAnd .i64 (bShr .i64 (IntKind.wrap .i64 (bOr .i64 x6 (IntKind.wrap .i64 (bShl .i64 (IntKind.wrap .i64 ((a0.getD (0 : Int).toNat default))) 16)))) 6) (63 : Int)))).bind fun v15 => F84_J5 n a0 x6 x10 x13 v15) (F84_J5 n a0 x6 x10 x13 (61 : Int))
def F84_J3 (n : Nat) (a0 : List (Int)) (x6 : Int) (x10 : Int) : Option (List (Int)) := iteB (decide ((1 : Int) ≤ (a0.length : Int))) ((F110 n (IntKind.wrap .i64 (bAnd .i64 (bShr .i64 (IntKind.wrap .i64 (bOr .i64 x6 (IntKind.wrap .i64 (bShl .i64 (IntKind.wrap .i64 ((a0.getD (0 : Int).toNat default))) 16)))) 12) (63 : Int)))).bind fun v12 => F84_J4 n a0 x6 x10 v12) (F84_J4 n a0 x6 x10 (61 : Int))
def F84_J1 (n : Nat) (a0 : List (Int)) (x6 : Int) : Option (List (Int)) := grd ((0 : Int) < (a0.length : Int)) (iteB (decide ((0 : Int) ≤ (a0.length : Int))) ((F110 n (IntKind.wrap .i64 (bAnd .i64 (bShr .i64 (IntKind.wrap .i64 (bOr .i64 x6 (IntKind.wrap .i64 (bShl .i64 (IntKind.wrap .i64 ((a0.getD (0 : Int).toNat default))) 16)))) 18) (63 : Int)))).bind fun v9 => F84_J3 n a0 x6 v9) (F84_J3 n a0 x6 (61 : Int)))
def F84_J2 (n : Nat) (a0 : List (Int)) (x4 : Int) : Option (List (Int)) := grd ((1 : Int) < (a0.length : Int)) (F84_J1 n a0 (IntKind.wrap .i64 (bOr .i64 x4 (IntKind.wrap .i64 (bShl .i64 (IntKind.wrap .i64 ((a0.getD (1 : Int).toNat default))) 8)))))
def F84 (n : Nat) (a0 : List (Int)) : Option (List (Int)) := iteB ((a0.length : Int) == (3 : Int)) (grd ((2 : Int) < (a0.length : Int)) (F84_J2 n a0 (IntKind.wrap .i64 (bOr .i64 (0 : Int) (IntKind.wrap .i64 ((a0.getD (2 : Int).toNat default))))))) (iteB ((a0.length : Int) == (2 : Int)) (F84_J2 n a0 (0 : Int)) (F84_J1 n a0 (0 : Int)))
set_option maxHeartbeats 4000000 in
theorem F84_ok : ∀ (n : Nat) (a0 : List (Int)) (r : List (Int)), F84 n a0 = some r → FnC Try.prog 84 [.sl 1 false (List.map byteT a0)] (.agg (List.map byteT r))
 | n, a0, r, h => by
  unfold F84 at h
  refine FnC.goX mixed Try.func84 (by kernel_rfl) rfl ?_
  simp only [Try.ntmps84, List.length_cons, List.length_nil, List.replicate, List.cons_append, List.nil_append, Nat.reduceAdd, Nat.reduceSub]
  refine runX_seq ?_
  refine runX_regionC fun C hC => ?_
  try simp -implicitDefEqProofs (disch := omega) only [go_sem, ↓reduceIte]
  refine toEnd hC ?_
  refine endX_seq ?_
  refine runX_seq ?_
  refine runX_regionC fun C hC => ?_
  try simp -implicitDefEqProofs (disch := omega) only [go_sem, ↓reduceIte]
  refine toEnd hC ?_
  refine endX_seq ?_
  refine runX_seq ?_
  refine runX_seq ?_
  refine runX_regionC fun C hC => ?_
  try simp -implicitDefEqProofs (disch := omega) only [go_sem, ↓reduceIte]
  refine toEnd hC ?_
  refine endX_seq ?_
  refine runX_block ?_
  refine runX_meet [0, 2, 3] (fun S => ∃ (x6 : Int), S = F84_S1 a0 x6 ∧ F84_J1 n a0 x6 = some r) ?_ ?_
  ·refine runX_block ?_
   refine runX_meet [0, 2, 3] (fun S => ∃ (x4 : Int), S = F84_S2 a0 x4 ∧ F84_J2 n a0 x4 = some r) ?_ ?_
   ·refine runX_block ?_
    refine runX_seq ?_
    refine runX_block ?_
    refine runX_seq ?_
    refine runX_seq ?_
    refine runX_seq ?_
    refine runX_regionC fun C hC => ?_
    try simp -implicitDefEqProofs (disch := omega) only [go_sem, ↓reduceIte]
    refine toEnd hC ?_
    refine endX_seq ?_
    rcases iteB_some h with ⟨c1, h⟩ | ⟨c1, h⟩
    ·refine runX_condT rfl c1 ?_
     refine runX_exit ?_
     refine endX_seqE ?_
     refine endX_seqE ?_
     refine endX_blkE ?_
     refine endX_seq ?_
     refine runX_regionC fun C hC => ?_
     obtain ⟨g2, h⟩ := grd_some h
     try simp -implicitDefEqProofs (disch := omega) only [go_sem, ↓reduceIte]
     repeat (with_reducible refine And.intro (by first | assumption | omega | (simp; done) | (simp; omega)) ?_)
     refine toEnd hC ?_
     refine endX_blk ?_
     refine endX_q (meetQ_normal ⟨F84_S2 a0 (IntKind.wrap .i64 (bOr .i64 (0 : Int) (IntKind.wrap .i64 ((a0.getD (2 : Int).toNat default))))), ?_, (IntKind.wrap .i64 (bOr .i64 (0 : Int) (IntKind.wrap .i64 ((a0.getD (2 : Int).toNat default))))), rfl, h⟩)
     simp only [F84_S2]
     (try simp -implicitDefEqProofs (disch := omega) only [go_sem, ↓reduceIte])
     exact leS_refl _
    ·refine runX_condF rfl c1 ?_
     refine runX_skip ?_
     refine endX_seq ?_
     refine runX_seq ?_
     refine runX_regionC fun C hC => ?_
     try simp -implicitDefEqProofs (disch := omega) only [go_sem, ↓reduceIte]
     refine toEnd hC ?_
     refine endX_seq ?_
     rcases iteB_some h with ⟨c3, h⟩ | ⟨c3, h⟩
     ·refine runX_condT rfl c3 ?_
      refine runX_exit ?_
      refine endX_seqE ?_
      refine endX_blkO (by decide) ?_
      refine endX_seqE ?_
      refine endX_blkE ?_
      refine endX_q (meetQ_normal ⟨F84_S2 a0 (0 : Int), ?_, (0 : Int), rfl, h⟩)
      simp only [F84_S2]
      (try simp -implicitDefEqProofs (disch := omega) only [go_sem, ↓reduceIte])
      exact leS_refl _
     ·refine runX_condF rfl c3 ?_
      refine runX_skip ?_
      refine endX_seq ?_
      refine runX_exit ?_
      refine endX_blkO (by decide) ?_
      refine endX_seqE ?_
      refine endX_blkO (by decide) ?_
      refine endX_q (meetQ_exit ?_)
      refine endX_seqE ?_
      refine endX_blkE ?_
      refine endX_q (meetQ_normal ⟨F84_S1 a0 (0 : Int), ?_, (0 : Int), rfl, h⟩)
      simp only [F84_S1]
      (try simp -implicitDefEqProofs (disch := omega) only [go_sem, ↓reduceIte])
      exact leS_refl _
   ·clear h
    rintro S ⟨x4, rfl, h⟩
    rw [F84_J2] at h
    simp only [F84_S2]
    refine runX_regionC fun C hC => ?_
    obtain ⟨g5, h⟩ := grd_some h
    try simp -implicitDefEqProofs (disch := omega) only [go_sem, ↓reduceIte]
    repeat (with_reducible refine And.intro (by first | assumption | omega | (simp; done) | (simp; omega)) ?_)
    refine toEnd hC ?_
    refine endX_blk ?_
    refine endX_q (meetQ_normal ⟨F84_S1 a0 (IntKind.wrap .i64 (bOr .i64 x4 (IntKind.wrap .i64 (bShl .i64 (IntKind.wrap .i64 ((a0.getD (1 : Int).toNat default))) 8)))), ?_, (IntKind.wrap .i64 (bOr .i64 x4 (IntKind.wrap .i64 (bShl .i64 (IntKind.wrap .i64 ((a0.getD (1 : Int).toNat default))) 8)))), rfl, h⟩)
    simp only [F84_S1]
    (try simp -implicitDefEqProofs (disch := omega) only [go_sem, ↓reduceIte])
    exact leS_refl _
  ·clear h
   rintro S ⟨x6, rfl, h⟩
   rw [F84_J1] at h
   simp only [F84_S1]
   refine runX_seq ?_
   refine runX_regionC fun C hC => ?_
   obtain ⟨g7, h⟩ := grd_some h
   try simp -implicitDefEqProofs (disch := omega) only [go_sem, ↓reduceIte]
   repeat (with_reducible refine And.intro (by first | assumption | omega | (simp; done) | (simp; omega)) ?_)
   refine toEnd hC ?_
   refine endX_seq ?_
   refine runX_exit ?_
   refine endX_blkE ?_
   refine endX_seq ?_
   refine runX_seq ?_
   refine runX_regionC fun C hC => ?_
   try simp -implicitDefEqProofs (disch := omega) only [go_sem, ↓reduceIte]
   refine toEnd hC ?_
   refine endX_seq ?_
   refine runX_seq ?_
   refine runX_seq ?_
   refine runX_regionC fun C hC => ?_
   try simp -implicitDefEqProofs (disch := omega) only [go_sem, ↓reduceIte]
   refine toEnd hC ?_
   refine endX_seq ?_
   refine runX_block ?_
   refine runX_unroll 4 ?_
   refine runX_seq ?_
   refine runX_regionC fun C hC => ?_
   try simp -implicitDefEqProofs (disch := omega) only [go_sem, ↓reduceIte]
   refine toEnd hC ?_
   refine endX_seq ?_
   refine runX_seq ?_
   refine runX_condT rfl rfl ?_
   refine runX_skip ?_
   refine endX_seq ?_
   refine runX_meet [0, 2, 3, 4, 32] (fun S => ∃ (x10 : Int), S = F84_S3 a0 x6 x10 ∧ F84_J3 n a0 x6 x10 = some r) ?_ ?_
   ·refine runX_block ?_
    refine runX_seq ?_
    refine runX_regionC fun C hC => ?_
    try simp -implicitDefEqProofs (disch := omega) only [go_sem, ↓reduceIte]
    refine toEnd hC ?_
    refine endX_seq ?_
    refine runX_seq ?_
    refine runX_regionC fun C hC => ?_
    try simp -implicitDefEqProofs (disch := omega) only [go_sem, ↓reduceIte]
    refine toEnd hC ?_
    refine endX_seq ?_
    refine runX_seq ?_
    refine runX_regionC fun C hC => ?_
    try simp -implicitDefEqProofs (disch := omega) only [go_sem, ↓reduceIte]
    refine toEnd hC ?_
    refine endX_seq ?_
    rcases iteB_some h with ⟨c8, h⟩ | ⟨c8, h⟩
    ·refine runX_condT rfl c8 ?_
     refine runX_regionC fun C hC => ?_
     obtain ⟨v9, h9, h⟩ := bnd_some h
     try simp -implicitDefEqProofs (maxSteps := 4000000) (disch := first | omega | decide | (simp only [go_sem]; omega)) only [go_sem, ↓reduceIte]
     repeat (with_reducible refine And.intro (by first | assumption | omega | (simp; done) | (simp; omega)) ?_)
     refine callG_X (by simp only [go_sem]) (F110_ok n (IntKind.wrap .i64 (bAnd .i64 (bShr .i64 (IntKind.wrap .i64 (bOr .i64 x6 (IntKind.wrap .i64 (bShl .i64 (IntKind.wrap .i64 ((a0.getD (0 : Int).toNat default))) 16)))) 18) (63 : Int))) _ h9) (leL_refl _) ?_
     try simp -implicitDefEqProofs (maxSteps := 4000000) (disch := first | omega | decide | (simp only [go_sem]; omega)) only [go_sem, ↓reduceIte]
     repeat (with_reducible refine And.intro (by first | assumption | omega | (simp; done) | (simp; omega)) ?_)
     refine toEnd hC ?_
     refine endX_blk ?_
     refine endX_q (meetQ_normal ⟨F84_S3 a0 x6 v9, ?_, v9, rfl, h⟩)
     simp only [F84_S3]
     (try simp -implicitDefEqProofs (disch := omega) only [go_sem, ↓reduceIte])
     exact leS_refl _
    ·refine runX_condF rfl c8 ?_
     refine runX_skip ?_
     refine endX_blk ?_
     refine endX_q (meetQ_normal ⟨F84_S3 a0 x6 (61 : Int), ?_, (61 : Int), rfl, h⟩)
     simp only [F84_S3]
     (try simp -implicitDefEqProofs (disch := omega) only [go_sem, ↓reduceIte])
     exact leS_refl _
   ·clear h
    rintro S ⟨x10, rfl, h⟩
    rw [F84_J3] at h
    simp only [F84_S3]
    refine runX_regionC fun C hC => ?_
    try simp -implicitDefEqProofs (disch := omega) only [go_sem, ↓reduceIte]
    refine toEnd hC ?_
    refine endX_lp ?_
    refine runX_seq ?_
    refine runX_regionC fun C hC => ?_
    try simp -implicitDefEqProofs (disch := omega) only [go_sem, ↓reduceIte]
    refine toEnd hC ?_
    refine endX_seq ?_
    refine runX_seq ?_
    refine runX_condT rfl rfl ?_
    refine runX_skip ?_
    refine endX_seq ?_
    refine runX_meet [0, 2, 3, 4, 32] (fun S => ∃ (x13 : Int), S = F84_S4 a0 x6 x10 x13 ∧ F84_J4 n a0 x6 x10 x13 = some r) ?_ ?_
    ·refine runX_block ?_
     refine runX_seq ?_
     refine runX_regionC fun C hC => ?_
     try simp -implicitDefEqProofs (disch := omega) only [go_sem, ↓reduceIte]
     refine toEnd hC ?_
     refine endX_seq ?_
     refine runX_seq ?_
     refine runX_regionC fun C hC => ?_
     try simp -implicitDefEqProofs (maxSteps := 4000000) (disch := first | omega | decide | (simp only [go_sem]; omega)) only [go_sem, ↓reduceIte]
     repeat (with_reducible refine And.intro (by first | assumption | omega | (simp; done) | (simp; omega)) ?_)
     refine toEnd hC ?_
     refine endX_seq ?_
     refine runX_seq ?_
     refine runX_regionC fun C hC => ?_
     try simp -implicitDefEqProofs (disch := omega) only [go_sem, ↓reduceIte]
     refine toEnd hC ?_
     refine endX_seq ?_
     rcases iteB_some h with ⟨c11, h⟩ | ⟨c11, h⟩
     ·refine runX_condT rfl c11 ?_
      refine runX_regionC fun C hC => ?_
      obtain ⟨v12, h12, h⟩ := bnd_some h
      try simp -implicitDefEqProofs (maxSteps := 4000000) (disch := first | omega | decide | (simp only [go_sem]; omega)) only [go_sem, ↓reduceIte]
      repeat (with_reducible refine And.intro (by first | assumption | omega | (simp; done) | (simp; omega)) ?_)
      refine callG_X (by simp only [go_sem]) (F110_ok n (IntKind.wrap .i64 (bAnd .i64 (bShr .i64 (IntKind.wrap .i64 (bOr .i64 x6 (IntKind.wrap .i64 (bShl .i64 (IntKind.wrap .i64 ((a0.getD (0 : Int).toNat default))) 16)))) 12) (63 : Int))) _ h12) (leL_refl _) ?_
      try simp -implicitDefEqProofs (maxSteps := 4000000) (disch := first | omega | decide | (simp only [go_sem]; omega)) only [go_sem, ↓reduceIte]
      repeat (with_reducible refine And.intro (by first | assumption | omega | (simp; done) | (simp; omega)) ?_)
      refine toEnd hC ?_
      refine endX_blk ?_
      refine endX_q (meetQ_normal ⟨F84_S4 a0 x6 x10 v12, ?_, v12, rfl, h⟩)
      simp only [F84_S4]
      (try simp -implicitDefEqProofs (disch := omega) only [go_sem, ↓reduceIte])
      exact leS_refl _
     ·refine runX_condF rfl c11 ?_
      refine runX_skip ?_
      refine endX_blk ?_
      refine endX_q (meetQ_normal ⟨F84_S4 a0 x6 x10 (61 : Int), ?_, (61 : Int), rfl, h⟩)
      simp only [F84_S4]
      (try simp -implicitDefEqProofs (disch := omega) only [go_sem, ↓reduceIte])
      exact leS_refl _
    ·clear h
     rintro S ⟨x13, rfl, h⟩
     rw [F84_J4] at h
     simp only [F84_S4]
     refine runX_regionC fun C hC => ?_
     try simp -implicitDefEqProofs (disch := omega) only [go_sem, ↓reduceIte]
     refine toEnd hC ?_
     refine endX_lp ?_
     refine runX_seq ?_
     refine runX_regionC fun C hC => ?_
     try simp -implicitDefEqProofs (disch := omega) only [go_sem, ↓reduceIte]
     refine toEnd hC ?_
     refine endX_seq ?_
     refine runX_seq ?_
     refine runX_condT rfl rfl ?_
     refine runX_skip ?_
     refine endX_seq ?_
     refine runX_meet [0, 2, 3, 4, 32] (fun S => ∃ (x16 : Int), S = F84_S5 a0 x6 x10 x13 x16 ∧ F84_J5 n a0 x6 x10 x13 x16 = some r) ?_ ?_
     ·refine runX_block ?_
      refine runX_seq ?_
      refine runX_regionC fun C hC => ?_
      try simp -implicitDefEqProofs (disch := omega) only [go_sem, ↓reduceIte]
      refine toEnd hC ?_
      refine endX_seq ?_
      refine runX_seq ?_
      refine runX_regionC fun C hC => ?_
      try simp -implicitDefEqProofs (maxSteps := 4000000) (disch := first | omega | decide | (simp only [go_sem]; omega)) only [go_sem, ↓reduceIte]
      repeat (with_reducible refine And.intro (by first | assumption | omega | (simp; done) | (simp; omega)) ?_)
      refine toEnd hC ?_
      refine endX_seq ?_
      refine runX_seq ?_
      refine runX_regionC fun C hC => ?_
      try simp -implicitDefEqProofs (disch := omega) only [go_sem, ↓reduceIte]
      refine toEnd hC ?_
      refine endX_seq ?_
      rcases iteB_some h with ⟨c14, h⟩ | ⟨c14, h⟩
      ·refine runX_condT rfl c14 ?_
       refine runX_regionC fun C hC => ?_
       obtain ⟨v15, h15, h⟩ := bnd_some h
       try simp -implicitDefEqProofs (maxSteps := 4000000) (disch := first | omega | decide | (simp only [go_sem]; omega)) only [go_sem, ↓reduceIte]
       repeat (with_reducible refine And.intro (by first | assumption | omega | (simp; done) | (simp; omega)) ?_)
       refine callG_X (by simp only [go_sem]) (F110_ok n (IntKind.wrap .i64 (bAnd .i64 (bShr .i64 (IntKind.wrap .i64 (bOr .i64 x6 (IntKind.wrap .i64 (bShl .i64 (IntKind.wrap .i64 ((a0.getD (0 : Int).toNat default))) 16)))) 6) (63 : Int))) _ h15) (leL_refl _) ?_
       try simp -implicitDefEqProofs (maxSteps := 4000000) (disch := first | omega | decide | (simp only [go_sem]; omega)) only [go_sem, ↓reduceIte]
       repeat (with_reducible refine And.intro (by first | assumption | omega | (simp; done) | (simp; omega)) ?_)
       refine toEnd hC ?_
       refine endX_blk ?_
       refine endX_q (meetQ_normal ⟨F84_S5 a0 x6 x10 x13 v15, ?_, v15, rfl, h⟩)
       simp only [F84_S5]
       (try simp -implicitDefEqProofs (disch := omega) only [go_sem, ↓reduceIte])
       exact leS_refl _
      ·refine runX_condF rfl c14 ?_
       refine runX_skip ?_
       refine endX_blk ?_
       refine endX_q (meetQ_normal ⟨F84_S5 a0 x6 x10 x13 (61 : Int), ?_, (61 : Int), rfl, h⟩)
       simp only [F84_S5]
       (try simp -implicitDefEqProofs (disch := omega) only [go_sem, ↓reduceIte])
       exact leS_refl _
     ·clear h
      rintro S ⟨x16, rfl, h⟩
      rw [F84_J5] at h
      simp only [F84_S5]
      refine runX_regionC fun C hC => ?_
      try simp -implicitDefEqProofs (disch := omega) only [go_sem, ↓reduceIte]
      refine toEnd hC ?_
      refine endX_lp ?_
      refine runX_seq ?_
      refine runX_regionC fun C hC => ?_
      try simp -implicitDefEqProofs (disch := omega) only [go_sem, ↓reduceIte]
      refine toEnd hC ?_
      refine endX_seq ?_
      refine runX_seq ?_
      refine runX_condT rfl rfl ?_
      refine runX_skip ?_
      refine endX_seq ?_
      refine runX_meet [0, 2, 3, 4, 32] (fun S => ∃ (x19 : Int), S = F84_S6 a0 x6 x10 x13 x16 x19 ∧ F84_J6 n a0 x6 x10 x13 x16 x19 = some r) ?_ ?_
      ·refine runX_block ?_
       refine runX_seq ?_
       refine runX_regionC fun C hC => ?_
       try simp -implicitDefEqProofs (disch := omega) only [go_sem, ↓reduceIte]
       refine toEnd hC ?_
       refine endX_seq ?_
       refine runX_seq ?_
       refine runX_regionC fun C hC => ?_
       try simp -implicitDefEqProofs (maxSteps := 4000000) (disch := first | omega | decide | (simp only [go_sem]; omega)) only [go_sem, ↓reduceIte]
       repeat (with_reducible refine And.intro (by first | assumption | omega | (simp; done) | (simp; omega)) ?_)
       refine toEnd hC ?_
       refine endX_seq ?_
       refine runX_seq ?_
       refine runX_regionC fun C hC => ?_
       try simp -implicitDefEqProofs (disch := omega) only [go_sem, ↓reduceIte]
       refine toEnd hC ?_
       refine endX_seq ?_
       rcases iteB_some h with ⟨c17, h⟩ | ⟨c17, h⟩
       ·refine runX_condT rfl c17 ?_
        refine runX_regionC fun C hC => ?_
        obtain ⟨v18, h18, h⟩ := bnd_some h
        try simp -implicitDefEqProofs (maxSteps := 4000000) (disch := first | omega | decide | (simp only [go_sem]; omega)) only [go_sem, ↓reduceIte]
        repeat (with_reducible refine And.intro (by first | assumption | omega | (simp; done) | (simp; omega)) ?_)
        refine callG_X (by simp only [go_sem]) (F110_ok n (IntKind.wrap .i64 (bAnd .i64 (bShr .i64 (IntKind.wrap .i64 (bOr .i64 x6 (IntKind.wrap .i64 (bShl .i64 (IntKind.wrap .i64 ((a0.getD (0 : Int).toNat default))) 16)))) 0) (63 : Int))) _ h18) (leL_refl _) ?_
        try simp -implicitDefEqProofs (maxSteps := 4000000) (disch := first | omega | decide | (simp only [go_sem]; omega)) only [go_sem, ↓reduceIte]
        repeat (with_reducible refine And.intro (by first | assumption | omega | (simp; done) | (simp; omega)) ?_)
        refine toEnd hC ?_
        refine endX_blk ?_
        refine endX_q (meetQ_normal ⟨F84_S6 a0 x6 x10 x13 x16 v18, ?_, v18, rfl, h⟩)
        simp only [F84_S6]
        (try simp -implicitDefEqProofs (disch := omega) only [go_sem, ↓reduceIte])
        exact leS_refl _
       ·refine runX_condF rfl c17 ?_
        refine runX_skip ?_
        refine endX_blk ?_
        refine endX_q (meetQ_normal ⟨F84_S6 a0 x6 x10 x13 x16 (61 : Int), ?_, (61 : Int), rfl, h⟩)
        simp only [F84_S6]
        (try simp -implicitDefEqProofs (disch := omega) only [go_sem, ↓reduceIte])
        exact leS_refl _
      ·clear h
       rintro S ⟨x19, rfl, h⟩
       rw [F84_J6] at h
       simp only [F84_S6]
       refine runX_regionC fun C hC => ?_
       try simp -implicitDefEqProofs (disch := omega) only [go_sem, ↓reduceIte]
       refine toEnd hC ?_
       refine endX_lp ?_
       refine runX_seq ?_
       refine runX_regionC fun C hC => ?_
       try simp -implicitDefEqProofs (disch := omega) only [go_sem, ↓reduceIte]
       refine toEnd hC ?_
       refine endX_seq ?_
       refine runX_seq ?_
       refine runX_condF rfl rfl ?_
       refine runX_exit ?_
       refine endX_seqE ?_
       refine endX_lpE ?_
       refine endX_blkE ?_
       refine endX_seq ?_
       refine runX_seq ?_
       refine runX_regionC fun C hC => ?_
       try simp -implicitDefEqProofs (disch := omega) only [go_sem, ↓reduceIte]
       refine toEnd hC ?_
       refine endX_seq ?_
       refine runX_ret ?_
       refine endX_q ?_
       obtain rfl := Option.some.inj h
       show RetW _ _ _ _ _
       simp only [RetW]
       (try simp -implicitDefEqProofs (disch := omega) only [go_sem, ↓reduceIte])
       (try simp (disch := omega) only [if_pos, Nat.sub_zero])
       exact leT_refl _
end Go.Proofs.YtaiapalhdejngaaX

set_option linter.unusedVariables false
set_option linter.unusedSimpArgs false
namespace Go.Proofs.YtaiapalhdejngaaX
open Go Go.RowKit Go.Proofs
set_option maxRecDepth 100000
attribute [local go_sem ↓] stepsK_build stepsK_bs appendS
attribute [local go_sem] String.reduceEq String.reduceNe reduceCtorEq Int.reduceEq Nat.reduceAdd Nat.reduceSub Nat.reduceMul Nat.reduceLT Nat.reduceLeDiff Nat.reduceEqDiff Nat.reduceBEq Int.reduceToNat Int.reduceLT Int.reduceLE Int.reduceGT Int.reduceGE Int.reduceAdd Int.reduceSub Int.reduceMul Int.reduceNeg Int.reduceBEq Int.reduceBNe Int.reducePow Int.reduceDiv Int.reduceMod Int.reduceTDiv Int.reduceTMod Int.reduceNatCast
/-! ### base.Encode -/
def F46_S1 (x1 : List (Int)) (x2 : List (Int)) : St := ⟨[.sl 1 false (List.map byteT x1), .junk, .junk, .rsl 0 1 0 x2.length, .junk, .junk, .junk, .junk, .junk, .junk, .junk, .junk, .junk, .junk, .junk, .junk, .junk, .junk, .junk, .junk, .junk, .junk, .junk, .junk], [some (.buf 5 1 (List.map byteT x2) 0)]⟩
def F46_L1 : Nat → (List (Int)) → (List (Int)) → Option (List UInt8)
 | 0, _, _ => none
 | m1 + 1, x1, x2 => iteB (decide ((0 : Int) < (x1.length : Int))) (grd (0 ≤ (if (x1.length : Int) < (3 : Int) then (x1.length : Int) else (3 : Int)) ∧ (if (x1.length : Int) < (3 : Int) then (x1.length : Int) else (3 : Int)) ≤ (x1.length : Int)) ((F84 m1 (x1.take (if (x1.length : Int) < (3 : Int) then (x1.length : Int) else (3 : Int)).toNat)).bind fun v5 => grd (v5.length = 4) (grd (v5.length = 4) (grd ((x2.length + v5.length) ≤ 549755813888) (grd (0 ≤ (if (x1.length : Int) < (3 : Int) then (x1.length : Int) else (3 : Int)) ∧ (if (x1.length : Int) < (3 : Int) then (x1.length : Int) else (3 : Int)) ≤ (x1.length : Int)) (F46_L1 m1 (x1.drop (if (x1.length : Int) < (3 : Int) then (x1.length : Int) else (3 : Int)).toNat) (x2 ++ v5))))))) (some (x2.map toB))
def F46 (n : Nat) (a0 : List (Int)) : Option (List UInt8) := F46_L1 n a0 []
set_option maxHeartbeats 4000000 in
theorem F46_ok : ∀ (n : Nat) (a0 : List (Int)) (r : List UInt8), F46 n a0 = some r → FnC Try.prog 46 [.sl 1 false (List.map byteT a0)] (.imm (.string (bs r)))
 | n, a0, r, h => by
  unfold F46 at h
  refine FnC.goX mixed Try.func46 (by kernel_rfl) rfl ?_
  simp only [Try.ntmps46, List.length_cons, List.length_nil, List.replicate, List.cons_append, List.nil_append, Nat.reduceAdd, Nat.reduceSub]
  refine runX_seq ?_
  refine runX_regionC fun C hC => ?_
  try simp -implicitDefEqProofs (disch := omega) only [go_sem, ↓reduceIte]
  refine toEnd hC ?_
  refine endX_seq ?_
  refine runX_seq ?_
  refine runX_regionC fun C hC => ?_
  try simp -implicitDefEqProofs (disch := omega) only [go_sem, ↓reduceIte]
  refine toEnd hC ?_
  refine endX_seq ?_
  refine runX_seq ?_
  refine runX_block ?_
  refine runX_loop [0, 3] (fun m S => ∃ (x1 : List (Int)) (x2 : List (Int)), S = F46_S1 x1 x2 ∧ m ≤ n ∧ F46_L1 m x1 x2 = some r) n ⟨F46_S1 a0 [], ?_, a0, [], rfl, Nat.le_refl _, h⟩ ?_
  ·(try simp -implicitDefEqProofs (disch := omega) only [go_sem, ↓reduceIte])
   simp only [F46_S1]
   refine leS_trans (leS_pad _ _ 1) ?_
   simp only [List.replicate, List.cons_append, List.nil_append]
   refine leS_virt 0 5 1 rfl ?_ ?_ rfl
   ·repeat (first | exact leL_refl _ | refine leL_cons (by first | exact leT_refl _ | exact leT_virt | exact leT_junk _ | exact leT_sl | exact leT_sln | exact leT_nil | (refine leT_agg (by repeat (first | exact leL_refl _ | refine leL_cons (by first | exact leT_refl _ | exact leT_sl | exact leT_sln | exact leT_nil) ?_)))) ?_)
   ·repeat (first | exact leOs_refl _ | refine leOs.cons (by first | exact leO.same _ | (refine leO.box (leT_agg (by repeat (first | exact leL_refl _ | refine leL_cons (by first | exact leT_refl _ | exact leT_virt | exact leT_junk _ | exact leT_sl | exact leT_sln | exact leT_nil | (refine leT_agg (by repeat (first | exact leL_refl _ | refine leL_cons (by first | exact leT_refl _ | exact leT_sl | exact leT_sln | exact leT_nil) ?_)))) ?_))) rfl) | (refine leO.box (by first | exact leT_virt | exact leT_sl | exact leT_sln) rfl)) ?_)
  ·clear h
   rintro m1 S ⟨x1, x2, rfl, hm1, h⟩
   cases m1 with
   | zero => first | cases (show (none : Option _) = some _ from h) | (rw [F46_L1] at h; cases h)
   | succ m1 =>
    rw [F46_L1] at h
    simp only [F46_S1]
    refine runX_seq ?_
    refine runX_seq ?_
    refine runX_regionC fun C hC => ?_
    try simp -implicitDefEqProofs (disch := omega) only [go_sem, ↓reduceIte]
    refine toEnd hC ?_
    refine endX_seq ?_
    rcases iteB_some h with ⟨c3, h⟩ | ⟨c3, h⟩
    ·refine runX_condT rfl c3 ?_
     refine runX_skip ?_
     refine endX_seq ?_
     refine runX_seq ?_
     refine runX_block ?_
     refine runX_seq ?_
     refine runX_regionC fun C hC => ?_
     obtain ⟨g4, h⟩ := grd_some h
     obtain ⟨v5, h5, h⟩ := bnd_some h
     try simp -implicitDefEqProofs (disch := omega) only [go_sem, ↓reduceIte]
     repeat (with_reducible refine And.intro (by first | assumption | omega | (simp; done) | (simp; omega)) ?_)
     refine callG_X rfl (F84_ok m1 (x1.take (if (x1.length : Int) < (3 : Int) then (x1.length : Int) else (3 : Int)).toNat) _ h5) (leL_refl _) ?_
     obtain ⟨g6, h⟩ := grd_some h
     have e7 : List.drop v5.length ([.imm (.int .u8 (0 : Int)), .imm (.int .u8 (0 : Int)), .imm (.int .u8 (0 : Int)), .imm (.int .u8 (0 : Int))] : List T) = [] := drop_all (by first | (simp only [List.length_cons, List.length_nil]; omega) | (simp; omega))
     try simp -implicitDefEqProofs (disch := omega) only [go_sem, ↓reduceIte, e7]
     repeat (with_reducible refine And.intro (by first | assumption | omega | (simp; done) | (simp; omega)) ?_)
     refine toEnd hC ?_
     refine endX_seq ?_
     refine runX_le (leS_pp 1 117 (.agg (List.map byteT v5)) false rfl (fun E u h => Rep.close _ _ _ (by first | rfl | (simp only [closedT]; exact closedL_map _ (fun _ => by first | rfl | (simp only [go_sem]; done)) _)) h)) ?_
     simp -implicitDefEqProofs (config := { decide := true }) only [ppL, ppT, ppO, ppL_s, Own.pp, List.set_cons_zero, List.set_cons_succ, List.map_cons, List.map_nil, Option.map_some, Option.map_none, Nat.reduceMul, Nat.reduceAdd, ↓reduceIte]
     refine runX_regionC fun C hC => ?_
     obtain ⟨g8, h⟩ := grd_some h
     obtain ⟨g9, h⟩ := grd_some h
     try simp -implicitDefEqProofs (disch := omega) only [go_sem, ↓reduceIte]
     repeat (with_reducible refine And.intro (by first | assumption | omega | (simp; done) | (simp; omega)) ?_)
     refine toEnd hC ?_
     refine endX_blk ?_
     refine endX_seq ?_
     refine runX_regionC fun C hC => ?_
     obtain ⟨g10, h⟩ := grd_some h
     try simp -implicitDefEqProofs (disch := omega) only [go_sem, ↓reduceIte]
     repeat (with_reducible refine And.intro (by first | assumption | omega | (simp; done) | (simp; omega)) ?_)
     refine toEnd hC ?_
     refine endX_q (roundQ_normal ⟨m1, by omega, F46_S1 (x1.drop (if (x1.length : Int) < (3 : Int) then (x1.length : Int) else (3 : Int)).toNat) (x2 ++ v5), ?_, (x1.drop (if (x1.length : Int) < (3 : Int) then (x1.length : Int) else (3 : Int)).toNat), (x2 ++ v5), rfl, by omega, h⟩)
     simp only [F46_S1]
     (try simp -implicitDefEqProofs (disch := omega) only [go_sem, ↓reduceIte])
     exact leS_refl _
    ·refine runX_condF rfl c3 ?_
     refine runX_exit ?_
     refine endX_seqE ?_
     refine endX_q (roundQ_exit ?_)
     refine endX_blkE ?_
     refine endX_seq ?_
     refine runX_seq ?_
     refine runX_regionC fun C hC => ?_
     try simp -implicitDefEqProofs (disch := omega) only [go_sem, ↓reduceIte]
     refine toEnd hC ?_
     refine endX_seq ?_
     refine runX_ret ?_
     refine endX_q ?_
     obtain rfl := Option.some.inj h
     show RetW _ _ _ _ _
     simp only [RetW]
     (try simp -implicitDefEqProofs (disch := omega) only [go_sem, ↓reduceIte])
     (try simp (disch := omega) only [if_pos, Nat.sub_zero])
     exact leT_refl _
end Go.Proofs.YtaiapalhdejngaaX

set_option linter.unusedVariables false
set_option linter.unusedSimpArgs false
namespace Go.Proofs.YtaiapalhdejngaaX
open Go Go.RowKit Go.Proofs
set_option maxRecDepth 100000
attribute [local go_sem ↓] stepsK_build stepsK_bs appendS
attribute [local go_sem] String.reduceEq String.reduceNe reduceCtorEq Int.reduceEq Nat.reduceAdd Nat.reduceSub Nat.reduceMul Nat.reduceLT Nat.reduceLeDiff Nat.reduceEqDiff Nat.reduceBEq Int.reduceToNat Int.reduceLT Int.reduceLE Int.reduceGT Int.reduceGE Int.reduceAdd Int.reduceSub Int.reduceMul Int.reduceNeg Int.reduceBEq Int.reduceBNe Int.reducePow Int.reduceDiv Int.reduceMod Int.reduceTDiv Int.reduceTMod Int.reduceNatCast
/-! ### shadowboxlaw37.EtagCounts -/
def F12_S2 (x3 : List (List (Int))) (x4 : Int) (x5 : List (List UInt8)) : St := ⟨[.sl 1 false (List.map (eL 1 byteT) x3), .junk, .junk, .rsl 0 1 0 x5.length, .imm (.int .i64 x4), .junk, .junk, .junk, .junk, .junk, .junk, .junk, .junk, .junk, .junk, .junk, .junk, .junk, .junk, .junk, .junk, .junk, .junk, .junk, .junk, .junk, .junk, .junk, .junk, .junk, .junk, .junk, .junk, .junk, .junk, .junk, .junk, .junk, .junk, .junk, .junk, .junk, .junk, .junk, .junk, .junk, .junk, .junk, .junk, .junk, .junk, .junk, .junk, .junk, .junk, .junk, .junk, .junk, .junk, .junk, .junk, .junk, .junk, .junk, .junk, .junk, .junk, .junk, .junk, .junk, .junk, .junk, .junk, .junk, .junk, .junk, .junk, .junk, .junk, .junk, .junk, .junk, .junk, .junk, .junk, .junk, .junk, .junk, .junk, .junk, .junk, .junk, .junk, .junk, .junk, .junk, .junk, .junk, .junk, .junk, .junk, .junk, .junk, .junk, .junk, .junk, .junk, .junk, .junk, .junk, .junk, .junk, .junk, .junk, .junk, .junk, .junk, .junk, .junk, .junk, .junk, .junk, .junk, .junk, .junk, .junk, .junk], [some (.buf 9 1 (List.map eS x5) 0)]⟩
def F12_S1 (x3 : List (List (Int))) : St := ⟨[.sl 1 false (List.map (eL 1 byteT) x3), .junk, .junk, .junk, .junk, .junk, .junk, .junk, .junk, .junk, .junk, .junk, .junk, .junk, .junk, .junk, .junk, .junk, .junk, .junk, .junk, .junk, .junk, .junk, .junk, .junk, .junk, .junk, .junk, .junk, .junk, .junk, .junk, .junk, .junk, .junk, .junk, .junk, .junk, .junk, .junk, .junk, .junk, .junk, .junk, .junk, .junk, .junk, .junk, .junk, .junk, .junk, .junk, .junk, .junk, .junk, .junk, .junk, .junk, .junk, .junk, .junk, .junk, .junk, .junk, .junk, .junk, .junk, .junk, .junk, .junk, .junk, .junk, .junk, .junk, .junk, .junk, .junk, .junk, .junk, .junk, .junk, .junk, .junk, .junk, .junk, .junk, .junk, .junk, .junk, .junk, .junk, .junk, .junk, .junk, .junk, .junk, .junk, .junk, .junk, .junk, .junk, .junk, .junk, .junk, .junk, .junk, .junk, .junk, .junk, .junk, .junk, .junk, .junk, .junk, .junk, .junk, .junk, .junk, .junk, .junk, .junk, .junk, .junk, .junk, .junk, .junk], []⟩
mutual
def F12_L2 : Nat → (List (List (Int))) → (Int) → (List (List UInt8)) → Option (Bool)
 | 0, _, _, _ => none
 | m2 + 1, x3, x4, x5 => iteB (decide (x4 < (x3.length : Int))) (grd (0 ≤ x4 ∧ x4 < (x3.length : Int)) (iteB (decide ((200 : Int) < ((x3.getD x4.toNat default).length : Int))) (some true) (grd (0 ≤ x4 ∧ x4 < (x3.length : Int)) ((F39 m2 (x3.getD x4.toNat default)).bind fun v10 => (F37 m2 v10).bind fun v11 => grd (0 ≤ x4 ∧ x4 < (x3.length : Int)) ((F45 m2 (x3.getD x4.toNat default)).bind fun v13 => grd (v13.length = 16) (iteB (!v11.2) (some false) (grd (v13.length = 16) (iteB (!((v11.1.map toB) == (v13.map toB))) (some false) ((F41 m2 v10).bind fun v19 => iteB (v19 != (1 : Int)) (some false) (grd (v13.length = 16) ((F46 m2 v13).bind fun v22 => grd (0 ≤ x4 ∧ x4 < (x3.length : Int)) ((F43 m2 v22 (x3.getD x4.toNat default)).bind fun v24 => iteB (!v24) (some false) (grd ((x5.length + 1) ≤ 549755813888) (F12_L2 m2 x3 (IntKind.wrap .i64 (x4 + (1 : Int))) (x5 ++ [v10]))))))))))))))) ((F19 m2 x5).bind fun v27 => iteB ((x3.length : Int) == (0 : Int)) (iteB (!v27.2) (iteB (v27.1 == []) ((F41 m2 []).bind fun v31 => iteB (v31 == (0 : Int)) ((F39 m2 []).bind fun v33 => some ((v33.length : Int) == (32 : Int))) (some false)) (some false)) (some false)) ((F37 m2 v27.1).bind fun v34 => grd ((x5.length + 1) ≤ 549755813888) ((F19 m2 (x5 ++ [v27.1])).bind fun v36 => iteB v27.2 ((F41 m2 v27.1).bind fun v38 => iteB (v38 == (x3.length : Int)) (iteB (!v34.2) (some (!v36.2)) (some false)) (some false)) (some false))))
def F12_J1 (n : Nat) (x3 : List (List (Int))) : Option (Bool) := F12_L2 n x3 (0 : Int) []
end
def F12 (n : Nat) (a0 : List (List (Int))) : Option (Bool) := iteB (decide ((20 : Int) < (a0.length : Int))) (grd ((20 : Int) ≤ (a0.length : Int)) (F12_J1 n (a0.take 20))) (F12_J1 n a0)
set_option maxHeartbeats 4000000 in
theorem F12_ok : ∀ (n : Nat) (a0 : List (List (Int))) (r : Bool), F12 n a0 = some r → FnC Try.prog 12 [.sl 1 false (List.map (eL 1 byteT) a0)] (.imm (.bool r))
 | n, a0, r, h => by
  unfold F12 at h
  refine FnC.goX mixed Try.func12 (by kernel_rfl) rfl ?_
  simp only [Try.ntmps12, List.length_cons, List.length_nil, List.replicate, List.cons_append, List.nil_append, Nat.reduceAdd, Nat.reduceSub]
  refine runX_seq ?_
  refine runX_regionC fun C hC => ?_
  try simp -implicitDefEqProofs (disch := omega) only [go_sem, ↓reduceIte]
  refine toEnd hC ?_
  refine endX_seq ?_
  refine runX_meet [0] (fun S => ∃ (x3 : List (List (Int))), S = F12_S1 x3 ∧ F12_J1 n x3 = some r) ?_ ?_
  ·refine runX_seq ?_
   refine runX_regionC fun C hC => ?_
   try simp -implicitDefEqProofs (disch := omega) only [go_sem, ↓reduceIte]
   refine toEnd hC ?_
   refine endX_seq ?_
   rcases iteB_some h with ⟨c1, h⟩ | ⟨c1, h⟩
   ·refine runX_condT rfl c1 ?_
    refine runX_regionC fun C hC => ?_
    obtain ⟨g2, h⟩ := grd_some h
    try simp -implicitDefEqProofs (disch := omega) only [go_sem, ↓reduceIte]
    repeat (with_reducible refine And.intro (by first | assumption | omega | (simp; done) | (simp; omega)) ?_)
    refine toEnd hC ?_
    refine endX_q (meetQ_normal ⟨F12_S1 (a0.take 20), ?_, (a0.take 20), rfl, h⟩)
    simp only [F12_S1]
    (try simp -implicitDefEqProofs (disch := omega) only [go_sem, ↓reduceIte])
    exact leS_refl _
   ·refine runX_condF rfl c1 ?_
    refine runX_skip ?_
    refine endX_q (meetQ_normal ⟨F12_S1 a0, ?_, a0, rfl, h⟩)
    simp only [F12_S1]
    (try simp -implicitDefEqProofs (disch := omega) only [go_sem, ↓reduceIte])
    exact leS_refl _
  ·clear h
   rintro S ⟨x3, rfl, h⟩
   rw [F12_J1] at h
   simp only [F12_S1]
   refine runX_seq ?_
   refine runX_regionC fun C hC => ?_
   try simp -implicitDefEqProofs (disch := omega) only [go_sem, ↓reduceIte]
   refine toEnd hC ?_
   refine endX_seq ?_
   refine runX_seq ?_
   refine runX_seq ?_
   refine runX_regionC fun C hC => ?_
   try simp -implicitDefEqProofs (disch := omega) only [go_sem, ↓reduceIte]
   refine toEnd hC ?_
   refine endX_seq ?_
   refine runX_block ?_
   refine runX_loop [0, 3, 4] (fun m S => ∃ (x4 : Int) (x5 : List (List UInt8)), S = F12_S2 x3 x4 x5 ∧ m ≤ n ∧ F12_L2 m x3 x4 x5 = some r) n ⟨F12_S2 x3 (0 : Int) [], ?_, (0 : Int), [], rfl, Nat.le_refl _, h⟩ ?_
   ·(try simp -implicitDefEqProofs (disch := omega) only [go_sem, ↓reduceIte])
    simp only [F12_S2]
    refine leS_trans (leS_pad _ _ 1) ?_
    simp only [List.replicate, List.cons_append, List.nil_append]
    refine leS_virt 0 9 1 rfl ?_ ?_ rfl
    ·repeat (first | exact leL_refl _ | refine leL_cons (by first | exact leT_refl _ | exact leT_virt | exact leT_junk _ | exact leT_sl | exact leT_sln | exact leT_nil | (refine leT_agg (by repeat (first | exact leL_refl _ | refine leL_cons (by first | exact leT_refl _ | exact leT_sl | exact leT_sln | exact leT_nil) ?_)))) ?_)
    ·repeat (first | exact leOs_refl _ | refine leOs.cons (by first | exact leO.same _ | (refine leO.box (leT_agg (by repeat (first | exact leL_refl _ | refine leL_cons (by first | exact leT_refl _ | exact leT_virt | exact leT_junk _ | exact leT_sl | exact leT_sln | exact leT_nil | (refine leT_agg (by repeat (first | exact leL_refl _ | refine leL_cons (by first | exact leT_refl _ | exact leT_sl | exact leT_sln | exact leT_nil) ?_)))) ?_))) rfl) | (refine leO.box (by first | exact leT_virt | exact leT_sl | exact leT_sln) rfl)) ?_)
   ·clear h
    rintro m2 S ⟨x4, x5, rfl, hm2, h⟩
    cases m2 with
    | zero => first | cases (show (none : Option _) = some _ from h) | (rw [F12_L2] at h; cases h)
    | succ m2 =>
     rw [F12_L2] at h
     simp only [F12_S2]
     refine runX_seq ?_
     refine runX_seq ?_
     refine runX_regionC fun C hC => ?_
     try simp -implicitDefEqProofs (disch := omega) only [go_sem, ↓reduceIte]
     refine toEnd hC ?_
     refine endX_seq ?_
     rcases iteB_some h with ⟨c6, h⟩ | ⟨c6, h⟩
     ·refine runX_condT rfl c6 ?_
      refine runX_skip ?_
      refine endX_seq ?_
      refine runX_seq ?_
      refine runX_block ?_
      refine runX_seq ?_
      refine runX_seq ?_
      refine runX_regionC fun C hC => ?_
      obtain ⟨g7, h⟩ := grd_some h
      try simp -implicitDefEqProofs (disch := omega) only [go_sem, ↓reduceIte]
      repeat (with_reducible refine And.intro (by first | assumption | omega | (simp; done) | (simp; omega)) ?_)
      refine toEnd hC ?_
      refine endX_seq ?_
      rcases iteB_some h with ⟨c8, h⟩ | ⟨c8, h⟩
      ·refine runX_condT rfl c8 ?_
       refine runX_seq ?_
       refine runX_regionC fun C hC => ?_
       try simp -implicitDefEqProofs (disch := omega) only [go_sem, ↓reduceIte]
       refine toEnd hC ?_
       refine endX_seq ?_
       refine runX_ret ?_
       refine endX_seqR ?_
       refine endX_blkR ?_
       refine endX_seqR ?_
       refine endX_q (roundQ_ret ?_)
       refine endX_blkR ?_
       refine endX_seqR ?_
       refine endX_q ?_
       obtain rfl := Option.some.inj h
       show RetW _ _ _ _ _
       simp only [RetW]
       (try simp -implicitDefEqProofs (disch := omega) only [go_sem, ↓reduceIte])
       (try simp (disch := omega) only [if_pos, Nat.sub_zero])
       exact leT_refl _
      ·refine runX_condF rfl c8 ?_
       refine runX_skip ?_
       refine endX_seq ?_
       refine runX_seq ?_
       refine runX_regionC fun C hC => ?_
       obtain ⟨g9, h⟩ := grd_some h
       obtain ⟨v10, h10, h⟩ := bnd_some h
       try simp -implicitDefEqProofs (disch := omega) only [go_sem, ↓reduceIte]
       repeat (with_reducible refine And.intro (by first | assumption | omega | (simp; done) | (simp; omega)) ?_)
       refine callG_X rfl (F39_ok m2 (x3.getD x4.toNat default) _ h10) (leL_refl _) ?_
       try simp -implicitDefEqProofs (disch := omega) only [go_sem, ↓reduceIte]
       repeat (with_reducible refine And.intro (by first | assumption | omega | (simp; done) | (simp; omega)) ?_)
       refine toEnd hC ?_
       refine endX_seq ?_
       refine runX_seq ?_
       refine runX_regionC fun C hC => ?_
       obtain ⟨v11, h11, h⟩ := bnd_some h
       try simp -implicitDefEqProofs (disch := omega) only [go_sem, ↓reduceIte]
       refine callG_X rfl (F37_ok m2 v10 _ h11) (leL_refl _) ?_
       try simp -implicitDefEqProofs (disch := omega) only [go_sem, ↓reduceIte]
       refine toEnd hC ?_
       refine endX_seq ?_
       refine runX_seq ?_
       refine runX_regionC fun C hC => ?_
       obtain ⟨g12, h⟩ := grd_some h
       obtain ⟨v13, h13, h⟩ := bnd_some h
       try simp -implicitDefEqProofs (disch := omega) only [go_sem, ↓reduceIte]
       repeat (with_reducible refine And.intro (by first | assumption | omega | (simp; done) | (simp; omega)) ?_)
       refine callG_X rfl (F45_ok m2 (x3.getD x4.toNat default) _ h13) (leL_refl _) ?_
       obtain ⟨g14, h⟩ := grd_some h
       have e15 : List.drop v13.length ([.imm (.int .u8 (0 : Int)), .imm (.int .u8 (0 : Int)), .imm (.int .u8 (0 : Int)), .imm (.int .u8 (0 : Int)), .imm (.int .u8 (0 : Int)), .imm (.int .u8 (0 : Int)), .imm (.int .u8 (0 : Int)), .imm (.int .u8 (0 : Int)), .imm (.int .u8 (0 : Int)), .imm (.int .u8 (0 : Int)), .imm (.int .u8 (0 : Int)), .imm (.int .u8 (0 : Int)), .imm (.int .u8 (0 : Int)), .imm (.int .u8 (0 : Int)), .imm (.int .u8 (0 : Int)), .imm (.int .u8 (0 : Int))] : List T) = [] := drop_all (by first | (simp only [List.length_cons, List.length_nil]; omega) | (simp; omega))
       try simp -implicitDefEqProofs (disch := omega) only [go_sem, ↓reduceIte, e15]
       repeat (with_reducible refine And.intro (by first | assumption | omega | (simp; done) | (simp; omega)) ?_)
       refine toEnd hC ?_
       refine endX_seq ?_
       refine runX_seq ?_
       refine runX_seq ?_
       refine runX_le (leS_pp 1 70 (.agg (List.map byteT v13)) false rfl (fun E u h => Rep.close _ _ _ (by first | rfl | (simp only [closedT]; exact closedL_map _ (fun _ => by first | rfl | (simp only [go_sem]; done)) _)) h)) ?_
       simp -implicitDefEqProofs (config := { decide := true }) only [ppL, ppT, ppO, ppL_s, Own.pp, List.set_cons_zero, List.set_cons_succ, List.map_cons, List.map_nil, Option.map_some, Option.map_none, Nat.reduceMul, Nat.reduceAdd, ↓reduceIte]
       refine runX_drawC mixed (by kernel_rfl) fun C hC => ?_
       try simp -implicitDefEqProofs (disch := omega) only [go_sem, ↓reduceIte]
       rcases iteB_some h with ⟨c16, h⟩ | ⟨c16, h⟩
       ·refine guardD_F c16 ?_
        try simp -implicitDefEqProofs (disch := omega) only [go_sem, ↓reduceIte]
        refine toEnd hC ?_
        refine endX_seq ?_
        refine runX_condT rfl rfl ?_
        refine runX_seq ?_
        refine runX_regionC fun C hC => ?_
        try simp -implicitDefEqProofs (disch := omega) only [go_sem, ↓reduceIte]
        refine toEnd hC ?_
        refine endX_seq ?_
        refine runX_ret ?_
        refine endX_seqR ?_
        refine endX_blkR ?_
        refine endX_seqR ?_
        refine endX_q (roundQ_ret ?_)
        refine endX_blkR ?_
        refine endX_seqR ?_
        refine endX_q ?_
        obtain rfl := Option.some.inj h
        show RetW _ _ _ _ _
        simp only [RetW]
        (try simp -implicitDefEqProofs (disch := omega) only [go_sem, ↓reduceIte])
        (try simp (disch := omega) only [if_pos, Nat.sub_zero])
        exact leT_refl _
       ·refine guardD_T c16 ?_
        obtain ⟨g17, h⟩ := grd_some h
        try simp -implicitDefEqProofs (disch := omega) only [go_sem, ↓reduceIte]
        repeat (with_reducible refine And.intro (by first | assumption | omega | (simp; done) | (simp; omega)) ?_)
        rcases iteB_some h with ⟨c18, h⟩ | ⟨c18, h⟩
        ·refine guardD_F c18 ?_
         try simp -implicitDefEqProofs (disch := omega) only [go_sem, ↓reduceIte]
         repeat (with_reducible refine And.intro (by first | assumption | omega | (simp; done) | (simp; omega)) ?_)
         refine toEnd hC ?_
         refine endX_seq ?_
         refine runX_condT rfl rfl ?_
         refine runX_seq ?_
         refine runX_regionC fun C hC => ?_
         try simp -implicitDefEqProofs (disch := omega) only [go_sem, ↓reduceIte]
         refine toEnd hC ?_
         refine endX_seq ?_
         refine runX_ret ?_
         refine endX_seqR ?_
         refine endX_blkR ?_
         refine endX_seqR ?_
         refine endX_q (roundQ_ret ?_)
         refine endX_blkR ?_
         refine endX_seqR ?_
         refine endX_q ?_
         obtain rfl := Option.some.inj h
         show RetW _ _ _ _ _
         simp only [RetW]
         (try simp -implicitDefEqProofs (disch := omega) only [go_sem, ↓reduceIte])
         (try simp (disch := omega) only [if_pos, Nat.sub_zero])
         exact leT_refl _
        ·refine guardD_T c18 ?_
         obtain ⟨v19, h19, h⟩ := bnd_some h
         try simp -implicitDefEqProofs (disch := omega) only [go_sem, ↓reduceIte]
         refine callD_X (F41_ok m2 v10 _ h19) (leL_refl _) ?_
         try simp -implicitDefEqProofs (disch := omega) only [go_sem, ↓reduceIte]
         rcases iteB_some h with ⟨c20, h⟩ | ⟨c20, h⟩
         ·refine guardD_F c20 ?_
          try simp -implicitDefEqProofs (disch := omega) only [go_sem, ↓reduceIte]
          refine toEnd hC ?_
          refine endX_seq ?_
          refine runX_condT rfl rfl ?_
          refine runX_seq ?_
          refine runX_regionC fun C hC => ?_
          try simp -implicitDefEqProofs (disch := omega) only [go_sem, ↓reduceIte]
          refine toEnd hC ?_
          refine endX_seq ?_
          refine runX_ret ?_
          refine endX_seqR ?_
          refine endX_blkR ?_
          refine endX_seqR ?_
          refine endX_q (roundQ_ret ?_)
          refine endX_blkR ?_
          refine endX_seqR ?_
          refine endX_q ?_
          obtain rfl := Option.some.inj h
          show RetW _ _ _ _ _
          simp only [RetW]
          (try simp -implicitDefEqProofs (maxSteps := 4000000) (disch := first | omega | decide | (simp only [go_sem]; omega)) only [go_sem, ↓reduceIte])
          (try simp (disch := omega) only [if_pos, Nat.sub_zero])
          exact leT_refl _
         ·refine guardD_T c20 ?_
          obtain ⟨g21, h⟩ := grd_some h
          obtain ⟨v22, h22, h⟩ := bnd_some h
          try simp -implicitDefEqProofs (maxSteps := 4000000) (disch := first | omega | decide | (simp only [go_sem]; omega)) only [go_sem, ↓reduceIte]
          repeat (with_reducible refine And.intro (by first | assumption | omega | (simp; done) | (simp; omega)) ?_)
          refine callD_X (F46_ok m2 v13 _ h22) (by repeat (first | exact leL_refl _ | refine leL_cons (by first | exact leT_refl _ | exact leT_virt | exact leT_junk _ | exact leT_sl | exact leT_sln | exact leT_nil | (refine leT_agg (by repeat (first | exact leL_refl _ | refine leL_cons (by first | exact leT_refl _ | exact leT_sl | exact leT_sln | exact leT_nil) ?_)))) ?_)) ?_
          obtain ⟨g23, h⟩ := grd_some h
          obtain ⟨v24, h24, h⟩ := bnd_some h
          try simp -implicitDefEqProofs (maxSteps := 4000000) (disch := first | omega | decide | (simp only [go_sem]; omega)) only [go_sem, ↓reduceIte]
          repeat (with_reducible refine And.intro (by first | assumption | omega | (simp; done) | (simp; omega)) ?_)
          refine callD_X (F43_ok m2 v22 (x3.getD x4.toNat default) _ h24) (by repeat (first | exact leL_refl _ | refine leL_cons (by first | exact leT_refl _ | exact leT_virt | exact leT_junk _ | exact leT_sl | exact leT_sln | exact leT_nil | (refine leT_agg (by repeat (first | exact leL_refl _ | refine leL_cons (by first | exact leT_refl _ | exact leT_sl | exact leT_sln | exact leT_nil) ?_)))) ?_)) ?_
          try simp -implicitDefEqProofs (maxSteps := 4000000) (disch := first | omega | decide | (simp only [go_sem]; omega)) only [go_sem, ↓reduceIte]
          repeat (with_reducible refine And.intro (by first | assumption | omega | (simp; done) | (simp; omega)) ?_)
          refine toEnd hC ?_
          refine endX_seq ?_
          rcases iteB_some h with ⟨c25, h⟩ | ⟨c25, h⟩
          ·refine runX_condT rfl c25 ?_
           refine runX_seq ?_
           refine runX_regionC fun C hC => ?_
           try simp -implicitDefEqProofs (disch := omega) only [go_sem, ↓reduceIte]
           refine toEnd hC ?_
           refine endX_seq ?_
           refine runX_ret ?_
           refine endX_seqR ?_
           refine endX_blkR ?_
           refine endX_seqR ?_
           refine endX_q (roundQ_ret ?_)
           refine endX_blkR ?_
           refine endX_seqR ?_
           refine endX_q ?_
           obtain rfl := Option.some.inj h
           show RetW _ _ _ _ _
           simp only [RetW]
           (try simp -implicitDefEqProofs (disch := omega) only [go_sem, ↓reduceIte])
           (try simp (disch := omega) only [if_pos, Nat.sub_zero])
           exact leT_refl _
          ·refine runX_condF rfl c25 ?_
           refine runX_skip ?_
           refine endX_seq ?_
           refine runX_regionC fun C hC => ?_
           try simp -implicitDefEqProofs (disch := omega) only [go_sem, ↓reduceIte]
           refine bs_go <| buildX_val ?_
           obtain ⟨g26, h⟩ := grd_some h
           try simp -implicitDefEqProofs (disch := omega) only [go_sem, ↓reduceIte]
           repeat (with_reducible refine And.intro (by first | assumption | omega | (simp; done) | (simp; omega)) ?_)
           refine toEnd hC ?_
           refine endX_blk ?_
           refine endX_seq ?_
           refine runX_regionC fun C hC => ?_
           try simp -implicitDefEqProofs (disch := omega) only [go_sem, ↓reduceIte]
           refine toEnd hC ?_
           refine endX_q (roundQ_normal ⟨m2, by omega, F12_S2 x3 (IntKind.wrap .i64 (x4 + (1 : Int))) (x5 ++ [v10]), ?_, (IntKind.wrap .i64 (x4 + (1 : Int))), (x5 ++ [v10]), rfl, by omega, h⟩)
           simp only [F12_S2]
           (try simp -implicitDefEqProofs (disch := omega) only [go_sem, ↓reduceIte])
           exact leS_refl _
     ·refine runX_condF rfl c6 ?_
      refine runX_exit ?_
      refine endX_seqE ?_
      refine endX_q (roundQ_exit ?_)
      refine endX_blkE ?_
      refine endX_seq ?_
      refine runX_seq ?_
      refine runX_regionC fun C hC => ?_
      obtain ⟨v27, h27, h⟩ := bnd_some h
      try simp -implicitDefEqProofs (disch := omega) only [go_sem, ↓reduceIte]
      refine callG_X rfl (F19_ok m2 x5 _ h27) (leL_refl _) ?_
      try simp -implicitDefEqProofs (disch := omega) only [go_sem, ↓reduceIte]
      refine toEnd hC ?_
      refine endX_seq ?_
      refine runX_seq ?_
      refine runX_seq ?_
      refine runX_regionC fun C hC => ?_
      try simp -implicitDefEqProofs (disch := omega) only [go_sem, ↓reduceIte]
      refine toEnd hC ?_
      refine endX_seq ?_
      rcases iteB_some h with ⟨c28, h⟩ | ⟨c28, h⟩
      ·refine runX_condT rfl c28 ?_
       refine runX_seq ?_
       refine runX_regionC fun C hC => ?_
       try simp -implicitDefEqProofs (maxSteps := 4000000) (disch := first | omega | decide | (simp only [go_sem]; omega)) only [go_sem, ↓reduceIte]
       repeat (with_reducible refine And.intro (by first | assumption | omega | (simp; done) | (simp; omega)) ?_)
       rcases iteB_some h with ⟨c29, h⟩ | ⟨c29, h⟩
       ·refine guardK_T c29 ?_
        try simp -implicitDefEqProofs (maxSteps := 4000000) (disch := first | omega | decide | (simp only [go_sem]; omega)) only [go_sem, ↓reduceIte]
        repeat (with_reducible refine And.intro (by first | assumption | omega | (simp; done) | (simp; omega)) ?_)
        rcases iteB_some h with ⟨c30, h⟩ | ⟨c30, h⟩
        ·refine guardK_T c30 ?_
         obtain ⟨v31, h31, h⟩ := bnd_some h
         try simp -implicitDefEqProofs (maxSteps := 4000000) (disch := first | omega | decide | (simp only [go_sem]; omega)) only [go_sem, ↓reduceIte]
         repeat (with_reducible refine And.intro (by first | assumption | omega | (simp; done) | (simp; omega)) ?_)
         refine callG_X (by first | rfl | (simp only [go_sem]; done) | (simp only [closedL, closedT, Bool.and_true]; exact closedL_map _ (fun _ => by first | rfl | (simp only [go_sem]; done)) _)) (F41_ok m2 [] _ h31) (by repeat (first | exact leL_refl _ | refine leL_cons (by first | exact leT_refl _ | exact leT_virt | exact leT_junk _ | exact leT_sl | exact leT_sln | exact leT_nil | (refine leT_agg (by repeat (first | exact leL_refl _ | refine leL_cons (by first | exact leT_refl _ | exact leT_sl | exact leT_sln | exact leT_nil) ?_)))) ?_)) ?_
         try simp -implicitDefEqProofs (maxSteps := 4000000) (disch := first | omega | decide | (simp only [go_sem]; omega)) only [go_sem, ↓reduceIte]
         repeat (with_reducible refine And.intro (by first | assumption | omega | (simp; done) | (simp; omega)) ?_)
         rcases iteB_some h with ⟨c32, h⟩ | ⟨c32, h⟩
         ·refine guardK_T c32 ?_
          obtain ⟨v33, h33, h⟩ := bnd_some h
          try simp -implicitDefEqProofs (maxSteps := 4000000) (disch := first | omega | decide | (simp only [go_sem]; omega)) only [go_sem, ↓reduceIte]
          repeat (with_reducible refine And.intro (by first | assumption | omega | (simp; done) | (simp; omega)) ?_)
          refine callG_X (by first | rfl | (simp only [go_sem]; done) | (simp only [closedL, closedT, Bool.and_true]; exact closedL_map _ (fun _ => by first | rfl | (simp only [go_sem]; done)) _)) (F39_ok m2 [] _ h33) (by repeat (first | exact leL_refl _ | refine leL_cons (by first | exact leT_refl _ | exact leT_virt | exact leT_junk _ | exact leT_sl | exact leT_sln | exact leT_nil | (refine leT_agg (by repeat (first | exact leL_refl _ | refine leL_cons (by first | exact leT_refl _ | exact leT_sl | exact leT_sln | exact leT_nil) ?_)))) ?_)) ?_
          try simp -implicitDefEqProofs (maxSteps := 4000000) (disch := first | omega | decide | (simp only [go_sem]; omega)) only [go_sem, ↓reduceIte]
          repeat (with_reducible refine And.intro (by first | assumption | omega | (simp; done) | (simp; omega)) ?_)
          refine toEnd hC ?_
          refine endX_seq ?_
          refine runX_ret ?_
          refine endX_seqR ?_
          refine endX_q ?_
          obtain rfl := Option.some.inj h
          show RetW _ _ _ _ _
          simp only [RetW]
          (try simp -implicitDefEqProofs (disch := omega) only [go_sem, ↓reduceIte])
          (try simp (disch := omega) only [if_pos, Nat.sub_zero])
          exact leT_refl _
         ·refine guardK_F c32 ?_
          try simp -implicitDefEqProofs (disch := omega) only [go_sem, ↓reduceIte]
          refine toEnd hC ?_
          refine endX_seq ?_
          refine runX_ret ?_
          refine endX_seqR ?_
          refine endX_q ?_
          obtain rfl := Option.some.inj h
          show RetW _ _ _ _ _
          simp only [RetW]
          (try simp -implicitDefEqProofs (disch := omega) only [go_sem, ↓reduceIte])
          (try simp (disch := omega) only [if_pos, Nat.sub_zero])
          exact leT_refl _
        ·refine guardK_F c30 ?_
         try simp -implicitDefEqProofs (disch := omega) only [go_sem, ↓reduceIte]
         refine toEnd hC ?_
         refine endX_seq ?_
         refine runX_ret ?_
         refine endX_seqR ?_
         refine endX_q ?_
         obtain rfl := Option.some.inj h
         show RetW _ _ _ _ _
         simp only [RetW]
         (try simp -implicitDefEqProofs (disch := omega) only [go_sem, ↓reduceIte])
         (try simp (disch := omega) only [if_pos, Nat.sub_zero])
         exact leT_refl _
       ·refine guardK_F c29 ?_
        try simp -implicitDefEqProofs (disch := omega) only [go_sem, ↓reduceIte]
        refine toEnd hC ?_
        refine endX_seq ?_
        refine runX_ret ?_
        refine endX_seqR ?_
        refine endX_q ?_
        obtain rfl := Option.some.inj h
        show RetW _ _ _ _ _
        simp only [RetW]
        (try simp -implicitDefEqProofs (disch := omega) only [go_sem, ↓reduceIte])
        (try simp (disch := omega) only [if_pos, Nat.sub_zero])
        exact leT_refl _
      ·refine runX_condF rfl c28 ?_
       refine runX_skip ?_
       refine endX_seq ?_
       refine runX_seq ?_
       refine runX_regionC fun C hC => ?_
       obtain ⟨v34, h34, h⟩ := bnd_some h
       try simp -implicitDefEqProofs (disch := omega) only [go_sem, ↓reduceIte]
       refine callG_X rfl (F37_ok m2 v27.1 _ h34) (leL_refl _) ?_
       try simp -implicitDefEqProofs (disch := omega) only [go_sem, ↓reduceIte]
       refine toEnd hC ?_
       refine endX_seq ?_
       refine runX_seq ?_
       refine runX_regionC fun C hC => ?_
       try simp -implicitDefEqProofs (disch := omega) only [go_sem, ↓reduceIte]
       refine bs_go <| buildX_val ?_
       obtain ⟨g35, h⟩ := grd_some h
       obtain ⟨v36, h36, h⟩ := bnd_some h
       try simp -implicitDefEqProofs (disch := omega) only [go_sem, ↓reduceIte]
       repeat (with_reducible refine And.intro (by first | assumption | omega | (simp; done) | (simp; omega)) ?_)
       refine callG_F 0 9 1 (List.map eS (x5 ++ [v27.1])) x5.length rfl (by (try simp -implicitDefEqProofs (disch := omega) only [go_sem, ↓reduceIte]); first | done | rfl | (simp only [closedL, closedT, Bool.and_true]; exact closedL_map _ (fun _ => by first | rfl | (simp only [go_sem]; done)) _)) (F19_ok m2 (x5 ++ [v27.1]) _ h36) (by (try simp -implicitDefEqProofs (maxSteps := 4000000) (disch := first | omega | decide | (simp only [go_sem]; omega)) only [go_sem, ↓reduceIte]); repeat (first | exact leL_refl _ | refine leL_cons (by first | exact leT_refl _ | exact leT_virt | exact leT_junk _ | exact leT_sl | exact leT_sln | exact leT_nil | (refine leT_agg (by repeat (first | exact leL_refl _ | refine leL_cons (by first | exact leT_refl _ | exact leT_sl | exact leT_sln | exact leT_nil) ?_)))) ?_)) ?_
       try simp -implicitDefEqProofs (disch := omega) only [go_sem, ↓reduceIte]
       repeat (with_reducible refine And.intro (by first | assumption | omega | (simp; done) | (simp; omega)) ?_)
       refine toEnd hC ?_
       refine endX_seq ?_
       refine runX_seq ?_
       refine runX_regionC fun C hC => ?_
       try simp -implicitDefEqProofs (disch := omega) only [go_sem, ↓reduceIte]
       rcases iteB_some h with ⟨c37, h⟩ | ⟨c37, h⟩
       ·refine guardK_T c37 ?_
        obtain ⟨v38, h38, h⟩ := bnd_some h
        try simp -implicitDefEqProofs (disch := omega) only [go_sem, ↓reduceIte]
        refine callG_X rfl (F41_ok m2 v27.1 _ h38) (leL_refl _) ?_
        try simp -implicitDefEqProofs (disch := omega) only [go_sem, ↓reduceIte]
        rcases iteB_some h with ⟨c39, h⟩ | ⟨c39, h⟩
        ·refine guardK_T c39 ?_
         try simp -implicitDefEqProofs (disch := omega) only [go_sem, ↓reduceIte]
         rcases iteB_some h with ⟨c40, h⟩ | ⟨c40, h⟩
         ·refine guardK_T c40 ?_
          try simp -implicitDefEqProofs (disch := omega) only [go_sem, ↓reduceIte]
          refine toEnd hC ?_
          refine endX_seq ?_
          refine runX_ret ?_
          refine endX_q ?_
          obtain rfl := Option.some.inj h
          show RetW _ _ _ _ _
          simp only [RetW]
          (try simp -implicitDefEqProofs (disch := omega) only [go_sem, ↓reduceIte])
          (try simp (disch := omega) only [if_pos, Nat.sub_zero])
          exact leT_refl _
         ·refine guardK_F c40 ?_
          try simp -implicitDefEqProofs (disch := omega) only [go_sem, ↓reduceIte]
          refine toEnd hC ?_
          refine endX_seq ?_
          refine runX_ret ?_
          refine endX_q ?_
          obtain rfl := Option.some.inj h
          show RetW _ _ _ _ _
          simp only [RetW]
          (try simp -implicitDefEqProofs (disch := omega) only [go_sem, ↓reduceIte])
          (try simp (disch := omega) only [if_pos, Nat.sub_zero])
          exact leT_refl _
        ·refine guardK_F c39 ?_
         try simp -implicitDefEqProofs (disch := omega) only [go_sem, ↓reduceIte]
         refine toEnd hC ?_
         refine endX_seq ?_
         refine runX_ret ?_
         refine endX_q ?_
         obtain rfl := Option.some.inj h
         show RetW _ _ _ _ _
         simp only [RetW]
         (try simp -implicitDefEqProofs (disch := omega) only [go_sem, ↓reduceIte])
         (try simp (disch := omega) only [if_pos, Nat.sub_zero])
         exact leT_refl _
       ·refine guardK_F c37 ?_
        try simp -implicitDefEqProofs (disch := omega) only [go_sem, ↓reduceIte]
        refine toEnd hC ?_
        refine endX_seq ?_
        refine runX_ret ?_
        refine endX_q ?_
        obtain rfl := Option.some.inj h
        show RetW _ _ _ _ _
        simp only [RetW]
        (try simp -implicitDefEqProofs (disch := omega) only [go_sem, ↓reduceIte])
        (try simp (disch := omega) only [if_pos, Nat.sub_zero])
        exact leT_refl _
end Go.Proofs.YtaiapalhdejngaaX

/- Shapes of arguments, as plain values. Of no program. -/
set_option linter.unusedVariables false
namespace Go.Proofs.YtaiapalhdejngaaX
open Go Go.RowKit
theorem RepR.le {E : Env} {sz : Nat} : ∀ {l l' : List T} {c : List Value}, l.length = l'.length → (∀ i, leT anyE (l.getD i .junk) (l'.getD i .junk)) → RepR E sz l c → RepR E sz l' c
  | [], [], c, _, _, h => h
  | x :: l, y :: l', c, hl, hi, h => by
    simp only [RepR] at h ⊢
    obtain ⟨u, c', h1, h2, h3, h4⟩ := h
    exact ⟨u, c', h1, h2, by simpa using hi 0 E true u trivial (by simpa using h3), RepR.le (by simpa using hl) (fun i => by simpa using hi (i + 1)) h4⟩
  | [], _ :: _, c, hl, _, _ => by simp at hl
  | _ :: _, [], c, hl, _, _ => by simp at hl
theorem leT_slE {sz : Nat} {f : Bool} {l l' : List T} (hl : l.length = l'.length) (h : ∀ i, leT anyE (l.getD i .junk) (l'.getD i .junk)) : leT anyE (.sl sz f l) (.sl sz false l') := fun E cl v hp k => by
  simp only [Rep] at k ⊢
  obtain ⟨a, cap, c, h1, h2, h3, h4, h5⟩ := k
  exact ⟨a, cap, c, by rw [h1, hl], by rw [← hl]; exact h2, (fun h => by cases h), RepR.le hl h h4, h5⟩
theorem elems_shape {α : Type} (enc : α → T) (ok : α → Prop) : ∀ (l : List T), (∀ y ∈ l, ∃ v, leT anyE y (enc v) ∧ ok v) → ∃ vs : List α, vs.length = l.length ∧ (∀ i, leT anyE (l.getD i .junk) ((vs.map enc).getD i .junk)) ∧ ∀ v ∈ vs, ok v
  | [], _ => ⟨[], rfl, fun i => by simp [leT_refl], fun v hv => by simp at hv⟩
  | y :: l, h => by
    obtain ⟨v, h1, h2⟩ := h y (by simp)
    obtain ⟨vs, h3, h4, h5⟩ := elems_shape enc ok l fun z hz => h z (by simp [hz])
    refine ⟨v :: vs, by simp [h3], fun i => ?_, fun w hw => ?_⟩
    · cases i with
      | zero => simpa using h1
      | succ i => simpa using h4 i
    · rcases List.mem_cons.1 hw with rfl | hw
      · exact h2
      · exact h5 w hw
theorem sl_shape {α : Type} (enc : α → T) (ok : α → Prop) (l : List T) (h : ∀ y ∈ l, ∃ v, leT anyE y (enc v) ∧ ok v) {sz : Nat} {f : Bool} : ∃ vs : List α, leT anyE (.sl sz f l) (.sl sz false (vs.map enc)) ∧ vs.length = l.length ∧ ∀ v ∈ vs, ok v := by
  obtain ⟨vs, h1, h2, h3⟩ := elems_shape enc ok l h
  exact ⟨vs, leT_slE (by simp [h1]) h2, h1, h3⟩
end Go.Proofs.YtaiapalhdejngaaX

set_option linter.unusedVariables false
set_option linter.unusedSimpArgs false
namespace Go.Proofs.YtaiapalhdejngaaX
open Go Go.RowKit Go.Proofs
set_option maxRecDepth 100000
def okT5 (v : Int) : Prop := (0 : Int) ≤ v ∧ v ≤ 255
def okT52 (v : List (Int)) : Prop := v.length ≤ 9223372036854775807 ∧ ∀ y ∈ v, okT5 y
def okT69 (v : List (List (Int))) : Prop := v.length ≤ 9223372036854775807 ∧ ∀ y ∈ v, okT52 y
theorem shp5 : ∀ (n : Nat) (x : T), ShapeW Try.prog n 5 x → ∃ v : Int, x = .imm (.int .u8 v) ∧ okT5 v
  | 0, x, h => h.elim
  | n + 1, x, h => by
    simp only [ShapeW, Try.underlying5] at h
    obtain ⟨i, rfl, hi⟩ := h
    exact ⟨i, rfl, wf_of hi⟩
theorem shp52 : ∀ (n : Nat) (x : T), ShapeW Try.prog n 52 x → ∃ (f : Bool) (l : List T) (v : List (Int)), x = .sl 1 f l ∧ leT anyE x (.sl 1 false (List.map byteT v)) ∧ okT52 v
  | 0, x, h => h.elim
  | n + 1, x, h => by
    simp only [ShapeW, Try.underlying52] at h
    obtain ⟨f, l, rfl, hl, he⟩ := h
    rw [cz5]
    obtain ⟨v, h1, h2, h3⟩ := sl_shape byteT okT5 l fun y hy => (by
      obtain ⟨v, hv, hk⟩ := shp5 n y (he y hy)
      exact ⟨v, leT_of hv, hk⟩)
    exact ⟨f, l, v, rfl, h1, by rw [h2]; exact hl, h3⟩
theorem shp69 : ∀ (n : Nat) (x : T), ShapeW Try.prog n 69 x → ∃ (f : Bool) (l : List T) (v : List (List (Int))), x = .sl 1 f l ∧ leT anyE x (.sl 1 false (List.map (eL 1 byteT) v)) ∧ okT69 v
  | 0, x, h => h.elim
  | n + 1, x, h => by
    simp only [ShapeW, Try.underlying69] at h
    obtain ⟨f, l, rfl, hl, he⟩ := h
    rw [cz52]
    obtain ⟨v, h1, h2, h3⟩ := sl_shape (eL 1 byteT) okT52 l fun y hy => (by
      obtain ⟨f, l, v, _, hv, hk⟩ := shp52 n y (he y hy)
      exact ⟨v, hv, hk⟩)
    exact ⟨f, l, v, rfl, h1, by rw [h2]; exact hl, h3⟩
theorem shapedEtagCounts (main : ∀ (v0 : List (List (Int))), okT69 v0 → ∃ n, F12 n v0 = some true) (xs : List T) (h : ShapesW Try.prog [69] xs) : FnC Try.prog 12 xs (tb true) := by
  obtain ⟨x0, xs0, rfl, ⟨n0, h0⟩, rfl⟩ := h
  obtain ⟨_, _, v0, _, e0, k0⟩ := shp69 _ _ h0
  obtain ⟨N, hN⟩ := main v0 k0
  exact (F12_ok N v0 true hN).le (leL_cons (e0) (leL_nil)) (leT_refl _)
end Go.Proofs.YtaiapalhdejngaaX

/- Plain functions with fuel: what they come to. Of no program. -/
set_option linter.unusedVariables false
set_option linter.unusedSimpArgs false
namespace Go.Proofs.YtaiapalhdejngaaX
open Go
def Ev {α : Type} (f : Nat → Option α) (r : α) : Prop := ∃ N, ∀ n, N ≤ n → f n = some r
theorem Ev.pure {α : Type} {r : α} : Ev (fun _ => some r) r := ⟨0, fun _ _ => rfl⟩
theorem Ev.const {α : Type} {x : Option α} {r : α} (h : x = some r) : Ev (fun _ => x) r := ⟨0, fun _ _ => h⟩
theorem Ev.bind {α β : Type} {f : Nat → Option α} {g : Nat → α → Option β} {v : α} {r : β} (h : Ev f v) (h' : Ev (fun n => g n v) r) : Ev (fun n => (f n).bind (g n)) r := by
  obtain ⟨N, h⟩ := h
  obtain ⟨M, h'⟩ := h'
  exact ⟨max N M, fun n hn => by show (f n).bind (g n) = _; rw [h n (by omega)]; exact h' n (by omega)⟩
theorem Ev.step {α : Type} {f : Nat → Option α} {r : α} (h : Ev (fun n => f (n + 1)) r) : Ev f r := by
  obtain ⟨N, h⟩ := h
  refine ⟨N + 1, fun n hn => ?_⟩
  obtain ⟨m, rfl⟩ : ∃ m, n = m + 1 := ⟨n - 1, by omega⟩
  exact h m (by omega)
theorem Ev.congr {α : Type} {f g : Nat → Option α} {r : α} (h : Ev g r) (e : ∀ n, f n = g n) : Ev f r := by
  obtain ⟨N, h⟩ := h
  exact ⟨N, fun n hn => (e n).trans (h n hn)⟩
theorem Ev.grd {α : Type} {p : Prop} [Decidable p] {f : Nat → Option α} {r : α} (hp : p) (h : Ev f r) : Ev (fun n => grd p (f n)) r := h.congr fun n => if_pos hp
theorem iteB_t {α : Type} (x y : Option α) : iteB true x y = x := rfl
theorem iteB_f {α : Type} (x y : Option α) : iteB false x y = y := rfl
theorem grd_t {α : Type} {p : Prop} [Decidable p] (x : Option α) (h : p) : grd p x = x := if_pos h
theorem bind_some' {α β : Type} (v : α) (g : α → Option β) : (some v).bind g = g v := rfl
theorem w64 {n : Int} (h : -9223372036854775808 ≤ n ∧ n ≤ 9223372036854775807) : IntKind.wrap .i64 n = n := Go.IntWalk.i64_in _ h
theorem wu8 {n : Int} (h : 0 ≤ n ∧ n ≤ 255) : IntKind.wrap .u8 n = n := Go.IntWalk.u8_in _ h
theorem wu32 {n : Int} (h : 0 ≤ n ∧ n ≤ 4294967295) : IntKind.wrap .u32 n = n := Go.IntWalk.u32_in _ h
theorem wu64 {n : Int} (h : 0 ≤ n ∧ n ≤ 18446744073709551615) : IntKind.wrap .u64 n = n := Go.IntWalk.u64_in _ h
theorem u8_lt (a : UInt8) : (0 : Int) ≤ (a.toNat : Int) ∧ (a.toNat : Int) ≤ 255 := by
  have := a.toNat_lt; omega
theorem drop_cons {α : Type} (l : List α) (i : Nat) (d : α) (h : i < l.length) : l.drop i = l.getD i d :: l.drop (i + 1) := by
  rw [List.drop_eq_getElem_cons h, List.getD_eq_getElem?_getD, List.getElem?_eq_getElem h]; rfl
theorem toNat_nat (n : Nat) : ((n : Int)).toNat = n := rfl
end Go.Proofs.YtaiapalhdejngaaX

/- Bytes as numbers. Of no program. -/
set_option linter.unusedVariables false
set_option linter.unusedSimpArgs false
namespace Go.Proofs.YtaiapalhdejngaaX
open Go
def Bytes (l : List Int) : Prop := ∀ x ∈ l, 0 ≤ x ∧ x ≤ 255
theorem Bytes.nil : Bytes [] := by intro x hx; cases hx
theorem Bytes.cons {a : Int} {r : List Int} (h : 0 ≤ a ∧ a ≤ 255) (hr : Bytes r) : Bytes (a :: r) := by
  intro x hx
  rcases List.mem_cons.1 hx with rfl | hx
  · exact h
  · exact hr x hx
theorem Bytes.head {a : Int} {r : List Int} (h : Bytes (a :: r)) : 0 ≤ a ∧ a ≤ 255 := h a (by simp)
theorem Bytes.tail {a : Int} {r : List Int} (h : Bytes (a :: r)) : Bytes r := fun x hx => h x (by simp [hx])
theorem Bytes.drop {l : List Int} (h : Bytes l) (n : Nat) : Bytes (l.drop n) := fun x hx => h x (List.mem_of_mem_drop hx)
theorem Bytes.append {l r : List Int} (h : Bytes l) (h' : Bytes r) : Bytes (l ++ r) := fun x hx => by
  rcases List.mem_append.1 hx with hx | hx
  · exact h x hx
  · exact h' x hx
def bt (s : List UInt8) (i : Nat) : Int := ((s.getD i 0).toNat : Int)
def ints (s : List UInt8) : List Int := s.map ofB
theorem ofB_toB {x : Int} (h : 0 ≤ x ∧ x ≤ 255) : ofB (toB x) = x := by
  unfold ofB toB
  rw [UInt8.toNat_ofNat']
  omega
theorem map_toB_eq {l : List Int} (hl : Bytes l) (t : List UInt8) : (l.map toB == t) = decide (l = ints t) := by
  rw [Bool.eq_iff_iff, beq_iff_eq, decide_eq_true_eq]
  constructor
  · rintro rfl
    unfold ints
    rw [List.map_map]
    conv => lhs; rw [← List.map_id l]
    exact List.map_congr_left fun x hx => (ofB_toB (hl x hx)).symm
  · rintro rfl
    unfold ints
    rw [List.map_map]
    conv => rhs; rw [← List.map_id t]
    refine List.map_congr_left fun x _ => ?_
    show UInt8.ofNat ((x.toNat : Int)).toNat = x
    rw [toNat_nat]; simp
theorem ints_toB {l : List Int} (h : Bytes l) : ints (l.map toB) = l := by
  have := map_toB_eq h (l.map toB)
  rw [beq_self_eq_true] at this
  exact (of_decide_eq_true this.symm).symm
theorem toB_inj : ∀ {a b : List Int}, Bytes a → Bytes b → a.map toB = b.map toB → a = b := fun ha hb h => by
  have := congrArg ints h
  rwa [ints_toB ha, ints_toB hb] at this
theorem bq {a b : Int} (h : ¬ a = b) : (a == b) = false := beq_eq_false_iff_ne.2 h
theorem bqt {a b : Int} (h : a = b) : (a == b) = true := by rw [h]; exact beq_self_eq_true b
theorem g64 (i : Nat) (h : i ≤ 1000000000) : IntKind.wrap .i64 ((i : Int) + 1) = ((i + 1 : Nat) : Int) := by rw [w64 (by omega)]; omega
theorem Bytes.getD {l : List Int} (h : Bytes l) (i : Nat) : 0 ≤ l.getD i 0 ∧ l.getD i 0 ≤ 255 := by
  rw [List.getD_eq_getElem?_getD]
  cases e : l[i]? with
  | none => exact ⟨by decide, by decide⟩
  | some x => exact h x (List.mem_of_getElem? e)
theorem Bytes.take {l : List Int} (h : Bytes l) (n : Nat) : Bytes (l.take n) := fun x hx => h x (List.mem_of_mem_take hx)
end Go.Proofs.YtaiapalhdejngaaX

set_option linter.unusedVariables false
set_option linter.unusedSimpArgs false
namespace Go.Proofs.YtaiapalhdejngaaX
open Go Go.RowKit Go.Proofs
set_option maxRecDepth 100000
attribute [local go_sem ↓] stepsK_build stepsK_bs appendS
attribute [local go_sem] String.reduceEq String.reduceNe reduceCtorEq Int.reduceEq Nat.reduceAdd Nat.reduceSub Nat.reduceMul Nat.reduceLT Nat.reduceLeDiff Nat.reduceEqDiff Nat.reduceBEq Int.reduceToNat Int.reduceLT Int.reduceLE Int.reduceGT Int.reduceGE Int.reduceAdd Int.reduceSub Int.reduceMul Int.reduceNeg Int.reduceBEq Int.reduceBNe Int.reducePow Int.reduceDiv Int.reduceMod Int.reduceTDiv Int.reduceTMod Int.reduceNatCast
/-! ### shadowboxref04.Kind -/
def F71 (n : Nat) (a0 : Int) : Option (Int) := iteB (decide ((48 : Int) ≤ a0)) (iteB (decide (a0 ≤ (57 : Int))) (some (1 : Int)) (iteB (decide ((97 : Int) ≤ a0)) (iteB (decide (a0 ≤ (102 : Int))) (some (2 : Int)) (iteB (decide ((103 : Int) ≤ a0)) (iteB (decide (a0 ≤ (122 : Int))) (some (3 : Int)) (iteB (decide ((65 : Int) ≤ a0)) (iteB (decide (a0 ≤ (90 : Int))) (some (4 : Int)) (some (0 : Int))) (some (0 : Int)))) (iteB (decide ((65 : Int) ≤ a0)) (iteB (decide (a0 ≤ (90 : Int))) (some (4 : Int)) (some (0 : Int))) (some (0 : Int))))) (iteB (decide ((103 : Int) ≤ a0)) (iteB (decide (a0 ≤ (122 : Int))) (some (3 : Int)) (iteB (decide ((65 : Int) ≤ a0)) (iteB (decide (a0 ≤ (90 : Int))) (some (4 : Int)) (some (0 : Int))) (some (0 : Int)))) (iteB (decide ((65 : Int) ≤ a0)) (iteB (decide (a0 ≤ (90 : Int))) (some (4 : Int)) (some (0 : Int))) (some (0 : Int)))))) (iteB (decide ((97 : Int) ≤ a0)) (iteB (decide (a0 ≤ (102 : Int))) (some (2 : Int)) (iteB (decide ((103 : Int) ≤ a0)) (iteB (decide (a0 ≤ (122 : Int))) (some (3 : Int)) (iteB (decide ((65 : Int) ≤ a0)) (iteB (decide (a0 ≤ (90 : Int))) (some (4 : Int)) (some (0 : Int))) (some (0 : Int)))) (iteB (decide ((65 : Int) ≤ a0)) (iteB (decide (a0 ≤ (90 : Int))) (some (4 : Int)) (some (0 : Int))) (some (0 : Int))))) (iteB (decide ((103 : Int) ≤ a0)) (iteB (decide (a0 ≤ (122 : Int))) (some (3 : Int)) (iteB (decide ((65 : Int) ≤ a0)) (iteB (decide (a0 ≤ (90 : Int))) (some (4 : Int)) (some (0 : Int))) (some (0 : Int)))) (iteB (decide ((65 : Int) ≤ a0)) (iteB (decide (a0 ≤ (90 : Int))) (some (4 : Int)) (some (0 : Int))) (some (0 : Int)))))
end Go.Proofs.YtaiapalhdejngaaX

set_option linter.unusedVariables false
set_option linter.unusedSimpArgs false
namespace Go.Proofs.YtaiapalhdejngaaX
open Go Go.RowKit Go.Proofs
set_option maxRecDepth 100000
attribute [local go_sem ↓] stepsK_build stepsK_bs appendS
attribute [local go_sem] String.reduceEq String.reduceNe reduceCtorEq Int.reduceEq Nat.reduceAdd Nat.reduceSub Nat.reduceMul Nat.reduceLT Nat.reduceLeDiff Nat.reduceEqDiff Nat.reduceBEq Int.reduceToNat Int.reduceLT Int.reduceLE Int.reduceGT Int.reduceGE Int.reduceAdd Int.reduceSub Int.reduceMul Int.reduceNeg Int.reduceBEq Int.reduceBNe Int.reducePow Int.reduceDiv Int.reduceMod Int.reduceTDiv Int.reduceTMod Int.reduceNatCast
/-! ### shadowboxref04.value -/
def F94 (n : Nat) (a0 : Int) : Option (Int) := (F71 n a0).bind fun v1 => iteB (v1 == (1 : Int)) (some (IntKind.wrap .i64 ((IntKind.wrap .u8 (a0 - (48 : Int)))))) (iteB (v1 == (2 : Int)) (some (IntKind.wrap .i64 ((IntKind.wrap .i64 ((IntKind.wrap .u8 (a0 - (97 : Int))))) + (10 : Int)))) (some (-1 : Int)))
end Go.Proofs.YtaiapalhdejngaaX

set_option linter.unusedVariables false
set_option linter.unusedSimpArgs false
namespace Go.Proofs.YtaiapalhdejngaaX
open Go Go.RowKit Go.Proofs
set_option maxRecDepth 100000
attribute [local go_sem ↓] stepsK_build stepsK_bs appendS
attribute [local go_sem] String.reduceEq String.reduceNe reduceCtorEq Int.reduceEq Nat.reduceAdd Nat.reduceSub Nat.reduceMul Nat.reduceLT Nat.reduceLeDiff Nat.reduceEqDiff Nat.reduceBEq Int.reduceToNat Int.reduceLT Int.reduceLE Int.reduceGT Int.reduceGE Int.reduceAdd Int.reduceSub Int.reduceMul Int.reduceNeg Int.reduceBEq Int.reduceBNe Int.reducePow Int.reduceDiv Int.reduceMod Int.reduceTDiv Int.reduceTMod Int.reduceNatCast
end Go.Proofs.YtaiapalhdejngaaX

/- Bytes of digits: the program's and the reference's. -/
set_option linter.unusedVariables false
set_option linter.unusedSimpArgs false
namespace Go.Proofs.YtaiapalhdejngaaX
open Go
def hvS (c : Int) : Int := if kindOf c = 1 then c - 48 else if kindOf c = 2 then c - 87 else -1
theorem hv_fin : ∀ c : Fin 256, (-1 ≤ hvS (c.val : Int) ∧ hvS (c.val : Int) ≤ 15) ∧ F99 0 (c.val : Int) = some (if hvS (c.val : Int) < 0 then 0 else hvS (c.val : Int), decide (0 ≤ hvS (c.val : Int))) ∧ F94 0 (c.val : Int) = some (hvS (c.val : Int)) := by decide +kernel
theorem hv_bd (c : UInt8) : -1 ≤ hvS (c.toNat : Int) ∧ hvS (c.toNat : Int) ≤ 15 := (hv_fin ⟨c.toNat, c.toNat_lt⟩).1
theorem hv_p (n : Nat) (c : UInt8) : F99 n (c.toNat : Int) = some (if hvS (c.toNat : Int) < 0 then 0 else hvS (c.toNat : Int), decide (0 ≤ hvS (c.toNat : Int))) := (hv_fin ⟨c.toNat, c.toNat_lt⟩).2.1
def hexP : List UInt8 → List Int → List Int × Bool
  | a :: b :: r, acc => if hvS (a.toNat : Int) < 0 ∨ hvS (b.toNat : Int) < 0 then ([], false) else hexP r (acc ++ [16 * hvS (a.toNat : Int) + hvS (b.toNat : Int)])
  | _, acc => (acc, true)
def hexS (l : List UInt8) : List Int × Bool := if l.length % 2 ≠ 0 then ([], false) else hexP l []
theorem or16 {a b : Int} (ha : 0 ≤ a ∧ a ≤ 15) (hb : 0 ≤ b ∧ b ≤ 15) : IntKind.wrap .u8 (bOr .u8 (IntKind.wrap .u8 (bShl .u8 a 4)) b) = 16 * a + b := by
  have hs : bShl .u8 a 4 = a * 16 := by unfold bShl; rw [show (2 : Int) ^ min 4 IntKind.u8.bits = 16 by decide]
  rw [hs, wu8 (n := a * 16) (by omega), bOr_add .u8 4 (a * 16) b (by omega) (by show a * 16 < 256; omega) (by show a * 16 % 16 = 0; omega) hb.1 (by show b < 16; omega) (by decide), wu8 (by omega)]
  omega
theorem ev_hexP (l : List UInt8) (hl : l.length ≤ 1000000) : ∀ (k i : Nat) (acc : List Int), i + 2 * k = l.length → acc.length ≤ i → Ev (fun n => F75_L1 n l (i : Int) acc) (hexP (l.drop i) acc)
  | 0, i, acc, hi, ha => by
    rw [List.drop_of_length_le (by omega)]
    refine Ev.step ((Ev.const (x := some (acc, true)) rfl).congr fun n => ?_)
    rw [F75_L1, decide_eq_false (by omega), iteB_f]
  | k + 1, i, acc, hi, ha => by
    have w1 : IntKind.wrap .i64 ((i : Int) + 1) = ((i + 1 : Nat) : Int) := by rw [w64 (by omega)]; omega
    have w2 : IntKind.wrap .i64 ((i : Int) + 2) = ((i + 2 : Nat) : Int) := by rw [w64 (by omega)]; omega
    have b1 := hv_bd (l.getD i 0)
    have b2 := hv_bd (l.getD (i + 1) 0)
    rw [drop_cons l i 0 (by omega), drop_cons l (i + 1) 0 (by omega), hexP]
    by_cases h1 : hvS ((l.getD i 0).toNat : Int) < 0
    · rw [if_pos (.inl h1)]
      refine Ev.step ((Ev.const (x := some ([], false)) rfl).congr fun n => ?_)
      rw [F75_L1, decide_eq_true (by omega), iteB_t, grd_t _ (by omega), toNat_nat, hv_p, bind_some', w1, grd_t _ (by omega), toNat_nat, hv_p, bind_some', decide_eq_false (by omega)]
      rfl
    by_cases h2 : hvS ((l.getD (i + 1) 0).toNat : Int) < 0
    · rw [if_pos (.inr h2)]
      refine Ev.step ((Ev.const (x := some ([], false)) rfl).congr fun n => ?_)
      rw [F75_L1, decide_eq_true (by omega), iteB_t, grd_t _ (by omega), toNat_nat, hv_p, bind_some', w1, grd_t _ (by omega), toNat_nat, hv_p, bind_some', decide_eq_true (by omega), decide_eq_false (by omega)]
      rfl
    rw [if_neg (fun h => h.elim h1 h2)]
    refine Ev.step ((ev_hexP l hl k (i + 2) (acc ++ [16 * hvS ((l.getD i 0).toNat : Int) + hvS ((l.getD (i + 1) 0).toNat : Int)]) (by omega) (by simp; omega)).congr fun n => ?_)
    rw [F75_L1, decide_eq_true (by omega), iteB_t, grd_t _ (by omega), toNat_nat, hv_p, bind_some', w1, grd_t _ (by omega), toNat_nat, hv_p, bind_some', decide_eq_true (by omega), decide_eq_true (by omega), if_neg h1, if_neg h2]
    show iteB false _ (iteB false _ _) = _
    rw [iteB_f, iteB_f, grd_t _ (by omega), w2, or16 ⟨by omega, by omega⟩ ⟨by omega, by omega⟩]
theorem ev_ReadHex (l : List UInt8) (hl : l.length ≤ 1000000) : Ev (fun n => F75 n l) (hexS l) := by
  unfold hexS
  have hm : (l.length : Int).tmod 2 = ((l.length % 2 : Nat) : Int) := (Int.ofNat_tmod l.length 2).symm
  by_cases h : l.length % 2 ≠ 0
  · rw [if_pos h]
    refine (Ev.const (x := some ([], false)) rfl).congr fun n => ?_
    rw [F75, hm, show (((l.length % 2 : Nat) : Int) != 0) = true by rw [bne_iff_ne]; omega, iteB_t]
  · rw [if_neg h]
    refine (ev_hexP l hl (l.length / 2) 0 [] (by omega) (by simp)).congr fun n => ?_
    rw [F75, hm, show l.length % 2 = 0 by omega]
    rfl
theorem hexP_bytes : ∀ (n : Nat) (l : List UInt8) (acc : List Int), l.length ≤ n → Bytes acc → Bytes (hexP l acc).1
  | n, [], acc, hn, h => h
  | n, [a], acc, hn, h => h
  | 0, a :: b :: r, acc, hn, h => by simp at hn
  | n + 1, a :: b :: r, acc, hn, h => by
    have b1 := hv_bd a
    have b2 := hv_bd b
    rw [hexP]
    split
    · exact Bytes.nil
    · rename_i hne
      have h1 : ¬ hvS (a.toNat : Int) < 0 := fun h => hne (.inl h)
      have h2 : ¬ hvS (b.toNat : Int) < 0 := fun h => hne (.inr h)
      exact hexP_bytes n r _ (by simp at hn; omega) (h.append (Bytes.cons (by omega) Bytes.nil))
theorem hexS_bytes (l : List UInt8) : Bytes (hexS l).1 := by
  unfold hexS
  split
  · exact Bytes.nil
  · exact hexP_bytes l.length l [] (Nat.le_refl _) Bytes.nil
end Go.Proofs.YtaiapalhdejngaaX

set_option linter.unusedVariables false
set_option linter.unusedSimpArgs false
namespace Go.Proofs.YtaiapalhdejngaaX
open Go Go.RowKit Go.Proofs
set_option maxRecDepth 100000
attribute [local go_sem ↓] stepsK_build stepsK_bs appendS
attribute [local go_sem] String.reduceEq String.reduceNe reduceCtorEq Int.reduceEq Nat.reduceAdd Nat.reduceSub Nat.reduceMul Nat.reduceLT Nat.reduceLeDiff Nat.reduceEqDiff Nat.reduceBEq Int.reduceToNat Int.reduceLT Int.reduceLE Int.reduceGT Int.reduceGE Int.reduceAdd Int.reduceSub Int.reduceMul Int.reduceNeg Int.reduceBEq Int.reduceBNe Int.reducePow Int.reduceDiv Int.reduceMod Int.reduceTDiv Int.reduceTMod Int.reduceNatCast
end Go.Proofs.YtaiapalhdejngaaX

set_option linter.unusedVariables false
set_option linter.unusedSimpArgs false
namespace Go.Proofs.YtaiapalhdejngaaX
open Go Go.RowKit Go.Proofs
set_option maxRecDepth 100000
attribute [local go_sem ↓] stepsK_build stepsK_bs appendS
attribute [local go_sem] String.reduceEq String.reduceNe reduceCtorEq Int.reduceEq Nat.reduceAdd Nat.reduceSub Nat.reduceMul Nat.reduceLT Nat.reduceLeDiff Nat.reduceEqDiff Nat.reduceBEq Int.reduceToNat Int.reduceLT Int.reduceLE Int.reduceGT Int.reduceGE Int.reduceAdd Int.reduceSub Int.reduceMul Int.reduceNeg Int.reduceBEq Int.reduceBNe Int.reducePow Int.reduceDiv Int.reduceMod Int.reduceTDiv Int.reduceTMod Int.reduceNatCast
end Go.Proofs.YtaiapalhdejngaaX

set_option linter.unusedVariables false
set_option linter.unusedSimpArgs false
namespace Go.Proofs.YtaiapalhdejngaaX
open Go Go.RowKit Go.Proofs
set_option maxRecDepth 100000
attribute [local go_sem ↓] stepsK_build stepsK_bs appendS
attribute [local go_sem] String.reduceEq String.reduceNe reduceCtorEq Int.reduceEq Nat.reduceAdd Nat.reduceSub Nat.reduceMul Nat.reduceLT Nat.reduceLeDiff Nat.reduceEqDiff Nat.reduceBEq Int.reduceToNat Int.reduceLT Int.reduceLE Int.reduceGT Int.reduceGE Int.reduceAdd Int.reduceSub Int.reduceMul Int.reduceNeg Int.reduceBEq Int.reduceBNe Int.reducePow Int.reduceDiv Int.reduceMod Int.reduceTDiv Int.reduceTMod Int.reduceNatCast
end Go.Proofs.YtaiapalhdejngaaX

set_option linter.unusedVariables false
set_option linter.unusedSimpArgs false
namespace Go.Proofs.YtaiapalhdejngaaX
open Go Go.RowKit Go.Proofs
set_option maxRecDepth 100000
attribute [local go_sem ↓] stepsK_build stepsK_bs appendS
attribute [local go_sem] String.reduceEq String.reduceNe reduceCtorEq Int.reduceEq Nat.reduceAdd Nat.reduceSub Nat.reduceMul Nat.reduceLT Nat.reduceLeDiff Nat.reduceEqDiff Nat.reduceBEq Int.reduceToNat Int.reduceLT Int.reduceLE Int.reduceGT Int.reduceGE Int.reduceAdd Int.reduceSub Int.reduceMul Int.reduceNeg Int.reduceBEq Int.reduceBNe Int.reducePow Int.reduceDiv Int.reduceMod Int.reduceTDiv Int.reduceTMod Int.reduceNatCast
end Go.Proofs.YtaiapalhdejngaaX

/- MD5: one step, plainly, of the program and of the reference. -/
set_option linter.unusedVariables false
set_option linter.unusedSimpArgs false
namespace Go.Proofs.YtaiapalhdejngaaX
open Go
def U32 (x : Int) : Prop := 0 ≤ x ∧ x ≤ 4294967295
theorem u32_wrap (x : Int) : U32 (IntKind.wrap .u32 x) := by
  show 0 ≤ x % 4294967296 ∧ x % 4294967296 ≤ 4294967295
  omega
theorem nt_eq {x : Int} (h : U32 x) : IntKind.wrap .u32 (bNot .u32 x) = IntKind.wrap .u32 (4294967295 - x) := by
  obtain ⟨h0, h1⟩ := h
  obtain ⟨a, rfl⟩ := Int.eq_ofNat_of_zero_le h0
  congr 1
  show ((BitVec.ofInt 32 4294967295 ^^^ BitVec.ofInt 32 (a : Int)).toNat : Int) = _
  rw [show BitVec.ofInt 32 4294967295 = BitVec.allOnes 32 by decide, BitVec.allOnes_xor, BitVec.toNat_not, ofInt_nat 32 a (by omega)]
  omega
def rotS (x : Int) (n : Nat) : Int := IntKind.wrap .u32 (bOr .u32 (IntKind.wrap .u32 (bShl .u32 x n)) (bShr .u32 x (32 - n)))
theorem rot_p (m : Nat) (x : Int) (n : Nat) (hn : n ≤ 31) : F109 m x (n : Int) = some (rotS x n) := by
  have h1 : IntKind.wrap .u64 (bAnd .u64 (IntKind.wrap .u64 (n : Int)) (31 : Int)) = (n : Int) := by
    rw [wu64 (n := (n : Int)) (by omega), bAnd_low .u64 5 (n : Int) (by omega) (by show (n : Int) < 18446744073709551616; omega) (by decide) 31 (by decide), wu64 (by omega)]
    omega
  have h2 : IntKind.wrap .u64 ((32 : Int) - (n : Int)) = ((32 - n : Nat) : Int) := by rw [wu64 (by omega)]; omega
  rw [F109, h1, h2, grd_t _ (by omega), grd_t _ (by omega), toNat_nat, toNat_nat]
  rfl
def ntS (x : Int) : Int := IntKind.wrap .u32 (4294967295 - x)
def fS (i : Nat) (b c d : Int) : Int :=
  if i / 16 = 0 then IntKind.wrap .u32 (bOr .u32 (IntKind.wrap .u32 (bAnd .u32 b c)) (IntKind.wrap .u32 (bAnd .u32 (ntS b) d)))
  else if i / 16 = 1 then IntKind.wrap .u32 (bOr .u32 (IntKind.wrap .u32 (bAnd .u32 d b)) (IntKind.wrap .u32 (bAnd .u32 (ntS d) c)))
  else if i / 16 = 2 then IntKind.wrap .u32 (bXor .u32 (IntKind.wrap .u32 (bXor .u32 b c)) d)
  else IntKind.wrap .u32 (bXor .u32 c (IntKind.wrap .u32 (bOr .u32 b (ntS d))))
def kS (i : Nat) : Nat := if i / 16 = 0 then i else if i / 16 = 1 then 5 * i + 1 else if i / 16 = 2 then 3 * i + 5 else 7 * i
theorem kS_le (i : Nat) (h : i < 64) : kS i ≤ 500 := by unfold kS; split; omega; split; omega; split <;> omega
theorem div16 (i : Nat) (h : i < 64) : IntKind.wrap .i64 ((i : Int).tdiv 16) = ((i / 16 : Nat) : Int) := by
  rw [show (i : Int).tdiv 16 = ((i / 16 : Nat) : Int) from (Int.ofNat_tdiv i 16).symm, w64 (by omega)]
theorem modN (i n : Nat) : (i : Int).tmod (n : Int) = ((i % n : Nat) : Int) := (Int.ofNat_tmod i n).symm
theorem natq (a b : Nat) : (((a : Nat) : Int) == ((b : Nat) : Int)) = decide (a = b) := by
  rw [Bool.eq_iff_iff, beq_iff_eq, decide_eq_true_eq]; omega
theorem q16 (i k : Nat) (h : i < 64) : (IntKind.wrap .i64 ((i : Int).tdiv 16) == (k : Int)) = decide (i / 16 = k) := by rw [div16 i h, natq]
theorem mix_p (m i : Nat) (h : i < 64) {b c d : Int} (hb : U32 b) (hd : U32 d) : F108 m (i : Int) b c d = some (fS i b c d, (kS i : Int)) := by
  rw [F108, show (0 : Int) = ((0 : Nat) : Int) from rfl, show ((IntKind.wrap .i64 ((i : Int).tdiv 16)) == (1 : Int)) = decide (i / 16 = 1) from q16 i 1 h, show ((IntKind.wrap .i64 ((i : Int).tdiv 16)) == (2 : Int)) = decide (i / 16 = 2) from q16 i 2 h, q16 i 0 h, nt_eq hb, nt_eq hd, w64 (n := 5 * (i : Int)) (by omega), w64 (n := 5 * (i : Int) + 1) (by omega), w64 (n := 3 * (i : Int)) (by omega), w64 (n := 3 * (i : Int) + 5) (by omega), w64 (n := 7 * (i : Int)) (by omega)]
  unfold fS kS
  by_cases h0 : i / 16 = 0
  · rw [if_pos h0, if_pos h0, decide_eq_true h0]; rfl
  by_cases h1 : i / 16 = 1
  · rw [if_neg h0, if_neg h0, if_pos h1, if_pos h1, decide_eq_false h0, decide_eq_true h1]
    show some (_, _) = some (_, _)
    congr 2
  by_cases h2 : i / 16 = 2
  · rw [if_neg h0, if_neg h0, if_neg h1, if_neg h1, if_pos h2, if_pos h2, decide_eq_false h0, decide_eq_false h1, decide_eq_true h2]
    show some (_, _) = some (_, _)
    congr 2
  · rw [if_neg h0, if_neg h0, if_neg h1, if_neg h1, if_neg h2, if_neg h2, decide_eq_false h0, decide_eq_false h1, decide_eq_false h2]
    show some (_, _) = some (_, _)
    congr 2
def wordS (b : List Int) (k : Nat) : Int := b.getD (4 * k) 0 + b.getD (4 * k + 1) 0 * 256 + b.getD (4 * k + 2) 0 * 65536 + b.getD (4 * k + 3) 0 * 16777216
def sinesS : List Int := (F106 0).getD []
def turnsS : List Nat := [7, 12, 17, 22, 5, 9, 14, 20, 4, 11, 16, 23, 6, 10, 15, 21]
theorem turns_le : ∀ i : Fin 64, turnsS.getD (i.val / 16 * 4 + i.val % 4) 0 ≤ 31 := by decide
def Q4 := Int × Int × Int × Int
def stepS (b : List Int) (i : Nat) (s : Q4) : Q4 :=
  (s.2.2.2, IntKind.wrap .u32 (s.2.1 + rotS (IntKind.wrap .u32 (IntKind.wrap .u32 (IntKind.wrap .u32 (s.1 + fS i s.2.1 s.2.2.1 s.2.2.2) + wordS b (kS i % 16)) + sinesS.getD i 0)) (turnsS.getD (i / 16 * 4 + i % 4) 0)), s.2.1, s.2.2.1)
def runS (b : List Int) : Nat → Nat → Q4 → Q4
  | 0, _, s => s
  | r + 1, i, s => runS b r (i + 1) (stepS b i s)
def addS (s : Q4) (v : Q4) : Q4 := (IntKind.wrap .u32 (s.1 + v.1), IntKind.wrap .u32 (s.2.1 + v.2.1), IntKind.wrap .u32 (s.2.2.1 + v.2.2.1), IntKind.wrap .u32 (s.2.2.2 + v.2.2.2))
def blkS (b : List Int) (s : Q4) : Q4 := addS s (runS b 64 0 s)
def R4 (s : Q4) : Prop := U32 s.1 ∧ U32 s.2.1 ∧ U32 s.2.2.1 ∧ U32 s.2.2.2
theorem R4.step {b : List Int} {i : Nat} {s : Q4} (h : R4 s) : R4 (stepS b i s) := ⟨h.2.2.2, u32_wrap _, h.2.1, h.2.2.1⟩
theorem R4.blk (b : List Int) (s : Q4) : R4 (blkS b s) := ⟨u32_wrap _, u32_wrap _, u32_wrap _, u32_wrap _⟩
def l4 (s : Q4) : List Int := [s.1, s.2.1, s.2.2.1, s.2.2.2]
end Go.Proofs.YtaiapalhdejngaaX

/- MD5: a block, plainly, of the program and of the reference. -/
set_option linter.unusedVariables false
set_option linter.unusedSimpArgs false
namespace Go.Proofs.YtaiapalhdejngaaX
open Go
theorem int_default : (default : Int) = 0 := rfl
theorem bOr_comm (k : IntKind) (x y : Int) : bOr k x y = bOr k y x := by unfold bOr; rw [BitVec.or_comm]
def p256 : Nat → Int
  | 0 => 1
  | 1 => 256
  | 2 => 65536
  | _ => 16777216
theorem shl_byte (t : Nat) (ht : t < 4) (c : Int) : bShl .u32 c (8 * t) = c * p256 t := by
  unfold bShl
  match t, ht with
  | 0, _ => rw [show (2 : Int) ^ min (8 * 0) IntKind.u32.bits = 1 by decide]; rfl
  | 1, _ => rw [show (2 : Int) ^ min (8 * 1) IntKind.u32.bits = 256 by decide]; rfl
  | 2, _ => rw [show (2 : Int) ^ min (8 * 2) IntKind.u32.bits = 65536 by decide]; rfl
  | 3, _ => rw [show (2 : Int) ^ min (8 * 3) IntKind.u32.bits = 16777216 by decide]; rfl
theorem or_at (i : Nat) (m : Int) (hm : (2 : Int) ^ i = m) (hi : i ≤ 24) {p c : Int} (hp : 0 ≤ p) (hp1 : p < m) (hc : 0 ≤ c) (hcm : c * m + m ≤ 4294967296) (hc' : 0 ≤ c * m) : IntKind.wrap .u32 (bOr .u32 p (IntKind.wrap .u32 (c * m))) = p + c * m := by
  rw [bOr_comm, wu32 (n := c * m) (by omega), bOr_add .u32 i (c * m) p hc' (by show c * m < 4294967296; omega) (by rw [hm]; exact Int.mul_emod_left c m) hp (by rw [hm]; exact hp1) (by show i ≤ 32; omega), wu32 (by omega)]
  omega
theorem or_byte (t : Nat) (ht : t < 4) {p c : Int} (hp : 0 ≤ p) (hp1 : p < p256 t) (hc : 0 ≤ c ∧ c ≤ 255) : IntKind.wrap .u32 (bOr .u32 p (IntKind.wrap .u32 (bShl .u32 (IntKind.wrap .u32 c) (8 * t)))) = p + c * p256 t := by
  rw [wu32 (n := c) (by omega), shl_byte t ht]
  match t, ht, hp1 with
  | 0, _, hp1 => exact or_at 0 1 (by decide) (by omega) hp hp1 hc.1 (by omega) (by omega)
  | 1, _, hp1 => exact or_at 8 256 (by decide) (by omega) hp hp1 hc.1 (by omega) (by omega)
  | 2, _, hp1 => exact or_at 16 65536 (by decide) (by omega) hp hp1 hc.1 (by omega) (by omega)
  | 3, _, hp1 => exact or_at 24 16777216 (by decide) (by omega) hp hp1 hc.1 (by omega) (by omega)
def pwS (b : List Int) (j : Nat) : Nat → Int
  | 0 => 0
  | 1 => b.getD (4 * j) 0
  | 2 => b.getD (4 * j) 0 + b.getD (4 * j + 1) 0 * 256
  | 3 => b.getD (4 * j) 0 + b.getD (4 * j + 1) 0 * 256 + b.getD (4 * j + 2) 0 * 65536
  | _ => wordS b j
theorem pw_ge (b : List Int) (j t : Nat) (h : 4 ≤ t) : pwS b j t = wordS b j := by
  match t, h with
  | t + 4, _ => rfl
theorem pw_step {b : List Int} (hb : Bytes b) (j t : Nat) (ht : t < 4) : (0 ≤ pwS b j t ∧ pwS b j t < p256 t) ∧ pwS b j t + b.getD (4 * j + t) 0 * p256 t = pwS b j (t + 1) := by
  have h0 := hb.getD (4 * j)
  have h1 := hb.getD (4 * j + 1)
  have h2 := hb.getD (4 * j + 2)
  match t, ht with
  | 0, _ => exact ⟨⟨Int.le_refl 0, by show (0 : Int) < 1; decide⟩, by show (0 : Int) + b.getD (4 * j) 0 * 1 = b.getD (4 * j) 0; omega⟩
  | 1, _ => exact ⟨⟨h0.1, by show b.getD (4 * j) 0 < 256; omega⟩, rfl⟩
  | 2, _ => exact ⟨⟨by show 0 ≤ b.getD (4 * j) 0 + b.getD (4 * j + 1) 0 * 256; omega, by show b.getD (4 * j) 0 + b.getD (4 * j + 1) 0 * 256 < 65536; omega⟩, rfl⟩
  | 3, _ => exact ⟨⟨by show 0 ≤ b.getD (4 * j) 0 + b.getD (4 * j + 1) 0 * 256 + b.getD (4 * j + 2) 0 * 65536; omega, by show b.getD (4 * j) 0 + b.getD (4 * j + 1) 0 * 256 + b.getD (4 * j + 2) 0 * 65536 < 16777216; omega⟩, rfl⟩
def sprS (b : List Int) : List Int := (List.range 16).map (wordS b)
theorem spr_len (b : List Int) : (sprS b).length = 16 := by simp [sprS]
theorem spr_get (b : List Int) (j : Nat) (h : j < 16) : (sprS b).getD j 0 = wordS b j := by
  unfold sprS
  rw [List.getD_eq_getElem?_getD, List.getElem?_map, List.getElem?_range h]; rfl
theorem getD_ext {l l' : List Int} (hl : l.length = l'.length) (h : ∀ j, j < l.length → l.getD j 0 = l'.getD j 0) : l = l' := by
  apply List.ext_getElem hl
  intro i h1 h2
  have := h i h1
  rwa [List.getD_eq_getElem?_getD, List.getElem?_eq_getElem h1, List.getD_eq_getElem?_getD, List.getElem?_eq_getElem h2] at this
theorem spr_loop {b : List Int} (hb : Bytes b) (hl : b.length = 64) : ∀ (r i : Nat) (x : List Int), i + r = 64 → x.length = 16 → (∀ j, j < 16 → x.getD j 0 = pwS b j (i - 4 * j)) → Ev (fun n => F105_L1 n b (i : Int) x) (sprS b)
  | 0, i, x, hi, hx, hj => by
    have e : x = sprS b := getD_ext (by rw [hx, spr_len]) fun j h => by
      rw [hx] at h
      rw [hj j h, spr_get b j h, pw_ge b j _ (by omega)]
    refine Ev.step ((Ev.const (x := some (sprS b)) rfl).congr fun n => ?_)
    · have h16 : x.take 16 = x := List.take_of_length_le (by omega)
      rw [F105_L1, decide_eq_false (by omega), iteB_f, h16, h16, grd_t _ (by omega), grd_t _ (by omega), grd_t _ (by omega), e]
  | r + 1, i, x, hi, hx, hj => by
    have hd4 : IntKind.wrap .i64 ((i : Int).tdiv 4) = ((i / 4 : Nat) : Int) := by
      rw [show (i : Int).tdiv 4 = ((i / 4 : Nat) : Int) from (Int.ofNat_tdiv i 4).symm, w64 (by omega)]
    have hm4 : (i : Int).tmod 4 = ((i % 4 : Nat) : Int) := modN i 4
    have h8 : IntKind.wrap .i64 ((8 : Int) * ((i % 4 : Nat) : Int)) = ((8 * (i % 4) : Nat) : Int) := by rw [w64 (by omega)]; omega
    have ht : b.take 64 = b := List.take_of_length_le (by omega)
    have hst := pw_step hb (i / 4) (i % 4) (by omega)
    have e4 : 4 * (i / 4) + i % 4 = i := by omega
    rw [e4] at hst
    have hget : x.getD (i / 4) 0 = pwS b (i / 4) (i % 4) := by rw [hj (i / 4) (by omega)]; congr 1; omega
    refine Ev.step ((spr_loop hb hl r (i + 1) (x.set (i / 4) (pwS b (i / 4) (i % 4 + 1))) (by omega) (by simp [hx]) fun j h => ?_).congr fun n => ?_)
    · rw [List.getD_eq_getElem?_getD, List.getElem?_set]
      by_cases e : i / 4 = j
      · subst e
        rw [if_pos rfl, if_pos (by omega)]
        show pwS b (i / 4) (i % 4 + 1) = _
        congr 1; omega
      · rw [if_neg e, ← List.getD_eq_getElem?_getD, hj j h]
        by_cases hlt : j < i / 4
        · rw [pw_ge b j _ (by omega), pw_ge b j _ (by omega)]
        · rw [show i - 4 * j = 0 by omega, show i + 1 - 4 * j = 0 by omega]
    · rw [F105_L1, decide_eq_true (by omega), iteB_t, hd4, hm4, h8, ht, int_default, toNat_nat, toNat_nat, toNat_nat, hget, or_byte _ (by omega) hst.1.1 hst.1.2 (hb.getD i), hst.2, g64 i (by omega)]
      rw [grd_t _ (by omega), grd_t _ (by omega), grd_t _ (by omega), grd_t _ (by omega), grd_t _ (by omega), grd_t _ (by omega)]
theorem ev_spread {b : List Int} (hb : Bytes b) (hl : b.length = 64) : Ev (fun n => F105 n b) (sprS b) := by
  refine (spr_loop hb hl 64 0 (List.replicate 16 0) rfl rfl fun j h => ?_).congr fun n => ?_
  · rw [List.getD_eq_getElem?_getD, List.getElem?_replicate, if_pos h, Nat.zero_sub]; rfl
  · rw [F105, grd_t _ (by omega)]; rfl
theorem sines_len : sinesS.length = 64 := rfl
def turnsI : List Int := [7, 12, 17, 22, 5, 9, 14, 20, 4, 11, 16, 23, 6, 10, 15, 21]
theorem turns_get (j : Nat) (h : j < 16) : turnsI.getD j 0 = ((turnsS.getD j 0 : Nat) : Int) := by
  have : ∀ j : Fin 16, turnsI.getD j.val 0 = ((turnsS.getD j.val 0 : Nat) : Int) := by decide
  exact this ⟨j, h⟩
theorem turn31 (i : Nat) (h : i < 64) : turnsS.getD (i / 16 * 4 + i % 4) 0 ≤ 31 := turns_le ⟨i, h⟩
theorem p_loop {b : List Int} (a0 : List Int × Int) : ∀ (r i : Nat) (s : Q4), i + r = 64 → R4 s → Ev (fun n => F82_L1 n a0 (sprS b) sinesS turnsI (i : Int) s.1 s.2.1 s.2.2.1 s.2.2.2) (l4 (addS (a0.1.getD 0 0, a0.1.getD 1 0, a0.1.getD 2 0, a0.1.getD 3 0) (runS b r i s)), IntKind.wrap .u64 (a0.2 + 64))
  | 0, i, s, hi, hs => by
    refine Ev.step ((Ev.const (x := some _) rfl).congr fun n => ?_)
    rw [F82_L1, decide_eq_false (by omega), iteB_f, int_default]
    rfl
  | r + 1, i, s, hi, hs => by
    have hk := kS_le i (by omega)
    have hm : ((kS i : Nat) : Int).tmod 16 = ((kS i % 16 : Nat) : Int) := modN (kS i) 16
    have hm4 : (i : Int).tmod 4 = ((i % 4 : Nat) : Int) := modN i 4
    have hd := div16 i (by omega)
    refine Ev.step ((p_loop a0 r (i + 1) (stepS b i s) (by omega) hs.step).congr fun n => ?_)
    rw [F82_L1, decide_eq_true (by omega), iteB_t, mix_p n i (by omega) hs.2.1 hs.2.2.2, bind_some']
    show grd (0 ≤ ((kS i : Nat) : Int).tmod 16 ∧ ((kS i : Nat) : Int).tmod 16 < 16) (grd ((((kS i : Nat) : Int).tmod 16).toNat < (sprS b).length) _) = _
    rw [hm, toNat_nat, spr_len, grd_t _ (by omega), grd_t _ (by omega), grd_t _ (by omega), toNat_nat, sines_len, grd_t _ (by omega), hd, hm4, grd_t _ (by omega), grd_t _ (by omega), toNat_nat, toNat_nat, grd_t _ (by show _ < 16; omega), int_default, turns_get _ (by omega), rot_p n _ _ (turn31 i (by omega)), bind_some', g64 i (by omega), spr_get b _ (by omega)]
    rfl
theorem ev_Block {b : List Int} (hb : Bytes b) (hl : b.length = 64) (s : Q4) (hs : R4 s) (m : Int) : Ev (fun n => F82 n (l4 s, m) b) (l4 (blkS b s), IntKind.wrap .u64 (m + 64)) := by
  have ht : b.take 64 = b := List.take_of_length_le (by omega)
  refine (Ev.bind (g := fun n v => F82_L1 n (l4 s, m) v sinesS turnsI ((0 : Nat) : Int) s.1 s.2.1 s.2.2.1 s.2.2.2 |> fun x => grd (v.length = 16) x) (ev_spread hb hl) ((p_loop (b := b) (l4 s, m) 64 0 s rfl hs).congr fun n => grd_t _ (spr_len b))).congr fun n => ?_
  rw [F82, grd_t _ (by omega), ht]
  rfl
end Go.Proofs.YtaiapalhdejngaaX

set_option linter.unusedVariables false
set_option linter.unusedSimpArgs false
namespace Go.Proofs.YtaiapalhdejngaaX
open Go Go.RowKit Go.Proofs
set_option maxRecDepth 100000
attribute [local go_sem ↓] stepsK_build stepsK_bs appendS
attribute [local go_sem] String.reduceEq String.reduceNe reduceCtorEq Int.reduceEq Nat.reduceAdd Nat.reduceSub Nat.reduceMul Nat.reduceLT Nat.reduceLeDiff Nat.reduceEqDiff Nat.reduceBEq Int.reduceToNat Int.reduceLT Int.reduceLE Int.reduceGT Int.reduceGE Int.reduceAdd Int.reduceSub Int.reduceMul Int.reduceNeg Int.reduceBEq Int.reduceBNe Int.reducePow Int.reduceDiv Int.reduceMod Int.reduceTDiv Int.reduceTMod Int.reduceNatCast
end Go.Proofs.YtaiapalhdejngaaX

/- MD5: the end, plainly. -/
set_option linter.unusedVariables false
set_option linter.unusedSimpArgs false
namespace Go.Proofs.YtaiapalhdejngaaX
open Go
def lenS (m : Int) (k : Nat) : Int := IntKind.wrap .u64 ((8 : Int) * (IntKind.wrap .u64 (m + (IntKind.wrap .u64 ((k : Nat) : Int)))))
def b8 (L : Int) (n : Nat) : Int := IntKind.wrap .u8 (bShr .u64 L n)
def lbS (m : Int) (k : Nat) : List Int := [b8 (lenS m k) 0, b8 (lenS m k) 8, b8 (lenS m k) 16, b8 (lenS m k) 24, b8 (lenS m k) 32, b8 (lenS m k) 40, b8 (lenS m k) 48, b8 (lenS m k) 56]
theorem lb_len (m : Int) (k : Nat) : (lbS m k).length = 8 := rfl
theorem wu8_bd (x : Int) : 0 ≤ IntKind.wrap .u8 x ∧ IntKind.wrap .u8 x ≤ 255 := by
  show 0 ≤ x % 256 ∧ x % 256 ≤ 255
  omega
theorem lb_bytes (m : Int) (k : Nat) : Bytes (lbS m k) := by
  intro x hx
  simp only [lbS, List.mem_cons, List.not_mem_nil, or_false] at hx
  rcases hx with rfl | rfl | rfl | rfl | rfl | rfl | rfl | rfl <;> exact wu8_bd _
def o4 (x : Int) : List Int := [IntKind.wrap .u8 (bShr .u32 x 0), IntKind.wrap .u8 (bShr .u32 x 8), IntKind.wrap .u8 (bShr .u32 x 16), IntKind.wrap .u8 (bShr .u32 x 24)]
def outS (s : Q4) : List Int := o4 s.1 ++ (o4 s.2.1 ++ (o4 s.2.2.1 ++ o4 s.2.2.2))
theorem o4_bytes (x : Int) : Bytes (o4 x) := by
  intro y hy
  simp only [o4, List.mem_cons, List.not_mem_nil, or_false] at hy
  rcases hy with rfl | rfl | rfl | rfl <;> exact wu8_bd _
theorem out_bytes (s : Q4) : Bytes (outS s) := (o4_bytes _).append ((o4_bytes _).append ((o4_bytes _).append (o4_bytes _)))
def zs (n : Nat) : List Int := List.replicate n 0
theorem zs_bytes (n : Nat) : Bytes (zs n) := fun x hx => by rw [List.eq_of_mem_replicate hx]; decide
theorem zs_len (n : Nat) : (zs n).length = n := List.length_replicate
def endS (s : Q4) (m : Int) (r : List Int) : List Int :=
  if r.length < 56 then outS (blkS (r ++ 128 :: (zs (55 - r.length) ++ lbS m r.length)) s)
  else outS (blkS (zs 56 ++ lbS m r.length) (blkS (r ++ 128 :: zs (63 - r.length)) s))
theorem end_len (s : Q4) (m : Int) (r : List Int) : (endS s m r).length = 16 := by unfold endS; split <;> rfl
theorem end_bytes (s : Q4) (m : Int) (r : List Int) : Bytes (endS s m r) := by unfold endS; split <;> exact out_bytes _
theorem sets8 {x : List Int} (hx : x.length = 64) (a0 a1 a2 a3 a4 a5 a6 a7 : Int) : (List.set (List.set (List.set (List.set (List.set (List.set (List.set (List.set x 56 a0) 57 a1) 58 a2) 59 a3) 60 a4) 61 a5) 62 a6) 63 a7).take 64 = x.take 56 ++ [a0, a1, a2, a3, a4, a5, a6, a7] := by
  obtain ⟨p, q, rfl, hp, hq⟩ : ∃ p q, x = p ++ q ∧ p.length = 56 ∧ q.length = 8 := ⟨x.take 56, x.drop 56, (List.take_append_drop 56 x).symm, by simp [hx], by simp [hx]⟩
  have ht : (p ++ q).take 56 = p := by rw [List.take_append_of_le_length (by omega), List.take_of_length_le (by omega)]
  rw [ht, List.take_of_length_le (by simp; omega)]
  match q, hq with
  | [b0, b1, b2, b3, b4, b5, b6, b7], _ => simp [List.set_append, hp]
def cutR (a1 : List Int) : List Int := a1.take (if (63 : Int) < (a1.length : Int) then (63 : Int) else (a1.length : Int)).toNat
theorem cutR_eq (a1 : List Int) : cutR a1 = a1.take 63 := by
  unfold cutR
  by_cases h : (63 : Int) < (a1.length : Int)
  · rw [if_pos h]; rfl
  · rw [if_neg h, toNat_nat, List.take_of_length_le (by omega), List.take_of_length_le (by omega)]
theorem J1_p (n : Nat) (a0 : List Int × Int) (a1 : List Int) (a b c d : Int) (m : Int) (x : List Int) (hx : x.length = 64) :
    F83_J1 n a0 a1 a b c d m x = (F82 n ([a, b, c, d], m) (x.take 56 ++ lbS a0.2 (cutR a1).length)).bind fun v => some (o4 (v.1.getD 0 0) ++ (o4 (v.1.getD 1 0) ++ (o4 (v.1.getD 2 0) ++ o4 (v.1.getD 3 0)))) := by
  rw [F83_J1, grd_t _ (by omega), grd_t _ (by omega), grd_t _ (by omega), grd_t _ (by omega), grd_t _ (by omega), grd_t _ (by omega), grd_t _ (by omega), grd_t _ (by omega), grd_t _ (by omega), sets8 hx]
  rfl
theorem set_at (r : List Int) (h : r.length ≤ 63) : List.set (r ++ (zs 64).drop r.length) ((r.length : Nat) : Int).toNat 128 = r ++ 128 :: zs (63 - r.length) := by
  rw [toNat_nat, List.set_append_right _ _ (Nat.le_refl _), Nat.sub_self]
  congr 1
  unfold zs
  rw [List.drop_replicate, show 64 - r.length = (63 - r.length) + 1 by omega, List.replicate_succ, List.set_cons_zero]
theorem F36_eq (n : Nat) (a0 : List Int × Int) (a1 : List Int) : F83 n a0 a1 =
    if (a1.take 63).length < 56 then F83_J1 n a0 a1 (a0.1.getD 0 0) (a0.1.getD 1 0) (a0.1.getD 2 0) (a0.1.getD 3 0) a0.2 (a1.take 63 ++ 128 :: zs (63 - (a1.take 63).length))
    else (F82 n (a0.1, a0.2) (a1.take 63 ++ 128 :: zs (63 - (a1.take 63).length))).bind fun v => F83_J1 n a0 a1 (v.1.getD 0 0) (v.1.getD 1 0) (v.1.getD 2 0) (v.1.getD 3 0) v.2 (zs 64) := by
  have hl : (cutR a1).length ≤ 63 := by rw [cutR_eq, List.length_take]; omega
  rw [← cutR_eq]
  have hs := set_at (cutR a1) hl
  have hc0 : 0 ≤ (if (63 : Int) < (a1.length : Int) then (63 : Int) else (a1.length : Int)) ∧ (if (63 : Int) < (a1.length : Int) then (63 : Int) else (a1.length : Int)) ≤ (a1.length : Int) := by split <;> omega
  have hz : (cutR a1).length + ((zs 64).drop (cutR a1).length).length = 64 := by rw [List.length_drop, zs_len]; omega
  have hw : (cutR a1 ++ 128 :: zs (63 - (cutR a1).length)).length = 64 := by rw [List.length_append, List.length_cons, zs_len]; omega
  unfold F83
  change grd (0 ≤ (if (63 : Int) < (a1.length : Int) then (63 : Int) else (a1.length : Int)) ∧ (if (63 : Int) < (a1.length : Int) then (63 : Int) else (a1.length : Int)) ≤ (a1.length : Int)) (grd ((cutR a1).length ≤ 64) (grd (0 ≤ ((cutR a1).length : Int) ∧ ((cutR a1).length : Int) < (64 : Int)) (grd (((cutR a1).length : Int).toNat < (cutR a1).length + ((zs 64).drop (cutR a1).length).length) (iteB (decide ((56 : Int) ≤ ((cutR a1).length : Int))) (grd (64 ≤ (cutR a1).length + ((zs 64).drop (cutR a1).length).length) ((F82 n (a0.1, a0.2) ((List.set (cutR a1 ++ (zs 64).drop (cutR a1).length) ((cutR a1).length : Int).toNat 128).take 64)).bind fun v10 => grd ((cutR a1).length + ((zs 64).drop (cutR a1).length).length = 64) (F83_J1 n a0 a1 (v10.1.getD 0 0) (v10.1.getD 1 0) (v10.1.getD 2 0) (v10.1.getD 3 0) v10.2 (zs 64)))) (F83_J1 n a0 a1 (a0.1.getD 0 0) (a0.1.getD 1 0) (a0.1.getD 2 0) (a0.1.getD 3 0) a0.2 (List.set (cutR a1 ++ (zs 64).drop (cutR a1).length) ((cutR a1).length : Int).toNat 128)))))) = _
  rw [hs, List.take_of_length_le (l := cutR a1 ++ _) (Nat.le_of_eq hw), grd_t _ hc0, grd_t _ (by omega), grd_t _ (by omega), grd_t _ (by rw [toNat_nat]; omega), grd_t _ (by omega)]
  by_cases h : (cutR a1).length < 56
  · rw [if_pos h, decide_eq_false (by omega), iteB_f]
  · rw [if_neg h, decide_eq_true (by omega), iteB_t]
    congr 1
    funext v
    rw [grd_t _ hz]
theorem blk_at {r : List Int} (hr : Bytes r) (hl : r.length ≤ 63) : Bytes (r ++ 128 :: zs (63 - r.length)) ∧ (r ++ 128 :: zs (63 - r.length)).length = 64 := by
  refine ⟨hr.append (Bytes.cons (by decide) (zs_bytes _)), ?_⟩
  rw [List.length_append, List.length_cons, zs_len]; omega
theorem ev_End {a1 : List Int} (hb : Bytes a1) (s : Q4) (hs : R4 s) (m : Int) : Ev (fun n => F83 n (l4 s, m) a1) (endS s m (a1.take 63)) := by
  have hr : Bytes (a1.take 63) := hb.take 63
  have hl : (a1.take 63).length ≤ 63 := by rw [List.length_take]; omega
  have hc := cutR_eq a1
  unfold endS
  by_cases h : (a1.take 63).length < 56
  · rw [if_pos h]
    have hx := blk_at hr hl
    have hk : Bytes (a1.take 63 ++ 128 :: (zs (55 - (a1.take 63).length) ++ lbS m (a1.take 63).length)) := hr.append (Bytes.cons (by decide) ((zs_bytes _).append (lb_bytes _ _)))
    have hkl : (a1.take 63 ++ 128 :: (zs (55 - (a1.take 63).length) ++ lbS m (a1.take 63).length)).length = 64 := by
      rw [List.length_append, List.length_cons, List.length_append, zs_len, lb_len]; omega
    refine ((ev_Block hk hkl s hs m).bind (g := fun n v => some (o4 (v.1.getD 0 0) ++ (o4 (v.1.getD 1 0) ++ (o4 (v.1.getD 2 0) ++ o4 (v.1.getD 3 0))))) (Ev.const rfl)).congr fun n => ?_
    · rw [F36_eq, if_pos h]
      show F83_J1 n _ a1 s.1 s.2.1 s.2.2.1 s.2.2.2 m _ = _
      rw [J1_p n _ a1 _ _ _ _ m _ hx.2, hc]
      congr 2
      rw [List.take_append, List.take_of_length_le (by omega), show 56 - (a1.take 63).length = (55 - (a1.take 63).length) + 1 by omega, List.take_succ_cons]
      unfold zs
      rw [List.take_replicate, Nat.min_eq_left (by omega), List.append_assoc, List.cons_append]
  · rw [if_neg h]
    have hx := blk_at hr hl
    have hk : Bytes (zs 56 ++ lbS m (a1.take 63).length) := (zs_bytes _).append (lb_bytes _ _)
    have hkl : (zs 56 ++ lbS m (a1.take 63).length).length = 64 := by rw [List.length_append, zs_len, lb_len]
    refine ((ev_Block hx.1 hx.2 s hs m).bind (g := fun n v => F83_J1 n (l4 s, m) a1 (v.1.getD 0 0) (v.1.getD 1 0) (v.1.getD 2 0) (v.1.getD 3 0) v.2 (zs 64)) (((ev_Block hk hkl (blkS (a1.take 63 ++ 128 :: zs (63 - (a1.take 63).length)) s) (R4.blk _ _) (IntKind.wrap .u64 (m + 64))).bind (g := fun n v => some (o4 (v.1.getD 0 0) ++ (o4 (v.1.getD 1 0) ++ (o4 (v.1.getD 2 0) ++ o4 (v.1.getD 3 0))))) (Ev.const rfl)).congr fun n => ?_)).congr fun n => ?_
    · show F83_J1 n _ a1 _ _ _ _ _ _ = _
      rw [J1_p n _ a1 _ _ _ _ _ _ (zs_len 64), hc]
      congr 2
    · rw [F36_eq, if_neg h]
end Go.Proofs.YtaiapalhdejngaaX

set_option linter.unusedVariables false
set_option linter.unusedSimpArgs false
namespace Go.Proofs.YtaiapalhdejngaaX
open Go Go.RowKit Go.Proofs
set_option maxRecDepth 100000
attribute [local go_sem ↓] stepsK_build stepsK_bs appendS
attribute [local go_sem] String.reduceEq String.reduceNe reduceCtorEq Int.reduceEq Nat.reduceAdd Nat.reduceSub Nat.reduceMul Nat.reduceLT Nat.reduceLeDiff Nat.reduceEqDiff Nat.reduceBEq Int.reduceToNat Int.reduceLT Int.reduceLE Int.reduceGT Int.reduceGE Int.reduceAdd Int.reduceSub Int.reduceMul Int.reduceNeg Int.reduceBEq Int.reduceBNe Int.reducePow Int.reduceDiv Int.reduceMod Int.reduceTDiv Int.reduceTMod Int.reduceNatCast
end Go.Proofs.YtaiapalhdejngaaX
