/- Part of the proof of XmlinTexts: walks and plain words, merged. -/
import Derived.Test.YtbamlphgolldlaaBXmlinTextsc
import Derived.Test.YtbamlphgolldlaaBXmlinTextsb
import Derived.Test.YtbamlphgolldlaaRows
import Derived.Test.YtbamlphgolldlaaChecked
import Derived.WalkKit
import Derived.ProofKit
import Derived.OpenShut
set_option linter.unusedVariables false
set_option linter.unusedSimpArgs false

set_option linter.unusedVariables false
set_option linter.unusedSimpArgs false
namespace Go.Proofs.YtbamlphgolldlaaX
open Go Go.RowKit Go.Proofs
set_option maxRecDepth 100000
attribute [local go_sem ↓] stepsK_build stepsK_build0 stepsK_bs stepsK_bs0 appendS
attribute [local go_sem] String.reduceEq String.reduceNe reduceCtorEq Int.reduceEq Nat.reduceAdd Nat.reduceSub Nat.reduceMul Nat.reduceLT Nat.reduceLeDiff Nat.reduceEqDiff Nat.reduceBEq Int.reduceToNat Int.reduceLT Int.reduceLE Int.reduceGT Int.reduceGE Int.reduceAdd Int.reduceSub Int.reduceMul Int.reduceNeg Int.reduceBEq Int.reduceBNe Int.reducePow Int.reduceDiv Int.reduceMod Int.reduceTDiv Int.reduceTMod Int.reduceNatCast
/-! ### internal/stringslite.Cut -/
def F94 (n : Nat) (a0 : List UInt8) (a1 : List UInt8) : Option ((List UInt8) × (List UInt8) × (Bool)) := (F110 n a0 a1).bind fun v1 => iteB (decide ((0 : Int) ≤ v1)) (grd (0 ≤ v1 ∧ v1 ≤ (a0.length : Int)) (grd (0 ≤ (IntKind.wrap .i64 (v1 + (a1.length : Int))) ∧ (IntKind.wrap .i64 (v1 + (a1.length : Int))) ≤ (a0.length : Int)) (some ((a0.take v1.toNat), (a0.drop (IntKind.wrap .i64 (v1 + (a1.length : Int))).toNat), true)))) (some (a0, [], false))
set_option maxHeartbeats 4000000 in
theorem F94_ok : ∀ (n : Nat) (a0 : List UInt8) (a1 : List UInt8) (r : (List UInt8) × (List UInt8) × (Bool)), F94 n a0 a1 = some r → FnC Try.prog 94 [.imm (.string (bs a0)), .imm (.string (bs a1))] (.tup [.imm (.string (bs r.1)), .imm (.string (bs r.2.1)), .imm (.bool r.2.2)])
  | n, a0, a1, r, h => by
    unfold F94 at h
    refine FnC.goX mixed Try.func94 (by kernel_rfl) rfl ?_
    simp only [Try.ntmps94, List.length_cons, List.length_nil, List.replicate, List.cons_append, List.nil_append, Nat.reduceAdd, Nat.reduceSub]
    refine runX_seq ?_
    refine runX_regionC fun C hC => ?_
    try simp -implicitDefEqProofs (maxSteps := 4000000) (disch := first | omega | decide | (simp only [go_sem]; omega)) only [go_sem, ↓reduceIte]
    repeat (with_reducible refine And.intro (by first | assumption | omega | (simp; done) | (simp; omega)) ?_)
    refine toEnd hC ?_
    refine endX_seq ?_
    refine runX_seq ?_
    refine runX_seq ?_
    refine runX_regionC fun C hC => ?_
    obtain ⟨v1, h1, h⟩ := bnd_some h
    try simp -implicitDefEqProofs (maxSteps := 4000000) (disch := first | omega | decide | (simp only [go_sem]; omega)) only [go_sem, ↓reduceIte]
    repeat (with_reducible refine And.intro (by first | assumption | omega | (simp; done) | (simp; omega)) ?_)
    refine callG_X (by first | rfl | (simp only [go_sem]; done) | (simp only [closedL, closedT, Bool.and_true]; exact closedL_map _ (fun _ => by first | rfl | (simp only [go_sem]; done)) _)) (F110_ok n a0 a1 _ h1) (by repeat (first | exact leL_refl _ | refine leL_cons (by first | exact leT_refl _ | exact leT_virt | exact leT_junk _ | exact leT_sl | exact leT_sln | exact leT_nil | (refine leT_agg (by repeat (first | exact leL_refl _ | refine leL_cons (by first | exact leT_refl _ | exact leT_sl | exact leT_sln | exact leT_nil) ?_)))) ?_)) ?_
    try simp -implicitDefEqProofs (maxSteps := 4000000) (disch := first | omega | decide | (simp only [go_sem]; omega)) only [go_sem, ↓reduceIte]
    repeat (with_reducible refine And.intro (by first | assumption | omega | (simp; done) | (simp; omega)) ?_)
    refine toEnd hC ?_
    refine endX_seq ?_
    refine runX_seq ?_
    refine runX_regionC fun C hC => ?_
    try simp -implicitDefEqProofs (maxSteps := 4000000) (disch := first | omega | decide | (simp only [go_sem]; omega)) only [go_sem, ↓reduceIte]
    repeat (with_reducible refine And.intro (by first | assumption | omega | (simp; done) | (simp; omega)) ?_)
    refine toEnd hC ?_
    refine endX_seq ?_
    rcases iteB_some h with ⟨c2, h⟩ | ⟨c2, h⟩
    · refine runX_condT rfl c2 ?_
      refine runX_seq ?_
      refine runX_drawC mixed (by kernel_rfl) fun C hC => ?_
      obtain ⟨g3, h⟩ := grd_some h
      obtain ⟨g4, h⟩ := grd_some h
      try simp -implicitDefEqProofs (maxSteps := 4000000) (disch := first | omega | decide | (simp only [go_sem]; omega)) only [go_sem, ↓reduceIte]
      repeat (with_reducible refine And.intro (by first | assumption | omega | (simp; done) | (simp; omega)) ?_)
      refine toEnd hC ?_
      refine endX_seq ?_
      refine runX_ret ?_
      refine endX_seqR ?_
      refine endX_q ?_
      obtain rfl := Option.some.inj h
      show RetW _ _ _ _ _
      simp only [RetW]
      (try simp -implicitDefEqProofs (maxSteps := 4000000) (disch := first | omega | decide | (simp only [go_sem]; omega)) only [go_sem, ↓reduceIte])
      (try simp (disch := omega) only [if_pos, Nat.sub_zero])
      exact leT_refl _
    · refine runX_condF rfl c2 ?_
      refine runX_skip ?_
      refine endX_seq ?_
      refine runX_seq ?_
      refine runX_regionC fun C hC => ?_
      try simp -implicitDefEqProofs (maxSteps := 4000000) (disch := first | omega | decide | (simp only [go_sem]; omega)) only [go_sem, ↓reduceIte]
      repeat (with_reducible refine And.intro (by first | assumption | omega | (simp; done) | (simp; omega)) ?_)
      refine toEnd hC ?_
      refine endX_seq ?_
      refine runX_ret ?_
      refine endX_q ?_
      obtain rfl := Option.some.inj h
      show RetW _ _ _ _ _
      simp only [RetW]
      (try simp -implicitDefEqProofs (maxSteps := 4000000) (disch := first | omega | decide | (simp only [go_sem]; omega)) only [go_sem, ↓reduceIte])
      (try simp (disch := omega) only [if_pos, Nat.sub_zero])
      exact leT_refl _
end Go.Proofs.YtbamlphgolldlaaX

set_option linter.unusedVariables false
set_option linter.unusedSimpArgs false
namespace Go.Proofs.YtbamlphgolldlaaX
open Go Go.RowKit Go.Proofs
set_option maxRecDepth 100000
attribute [local go_sem ↓] stepsK_build stepsK_build0 stepsK_bs stepsK_bs0 appendS
attribute [local go_sem] String.reduceEq String.reduceNe reduceCtorEq Int.reduceEq Nat.reduceAdd Nat.reduceSub Nat.reduceMul Nat.reduceLT Nat.reduceLeDiff Nat.reduceEqDiff Nat.reduceBEq Int.reduceToNat Int.reduceLT Int.reduceLE Int.reduceGT Int.reduceGE Int.reduceAdd Int.reduceSub Int.reduceMul Int.reduceNeg Int.reduceBEq Int.reduceBNe Int.reducePow Int.reduceDiv Int.reduceMod Int.reduceTDiv Int.reduceTMod Int.reduceNatCast
/-! ### strings.Cut -/
def F69 (n : Nat) (a0 : List UInt8) (a1 : List UInt8) : Option ((List UInt8) × (List UInt8) × (Bool)) := (F94 n a0 a1).bind fun v1 => some (v1.1, v1.2.1, v1.2.2)
set_option maxHeartbeats 4000000 in
theorem F69_ok : ∀ (n : Nat) (a0 : List UInt8) (a1 : List UInt8) (r : (List UInt8) × (List UInt8) × (Bool)), F69 n a0 a1 = some r → FnC Try.prog 69 [.imm (.string (bs a0)), .imm (.string (bs a1))] (.tup [.imm (.string (bs r.1)), .imm (.string (bs r.2.1)), .imm (.bool r.2.2)])
  | n, a0, a1, r, h => by
    unfold F69 at h
    refine FnC.goX mixed Try.func69 (by kernel_rfl) rfl ?_
    simp only [Try.ntmps69, List.length_cons, List.length_nil, List.replicate, List.cons_append, List.nil_append, Nat.reduceAdd, Nat.reduceSub]
    refine runX_seq ?_
    refine runX_regionC fun C hC => ?_
    try simp -implicitDefEqProofs (maxSteps := 4000000) (disch := first | omega | decide | (simp only [go_sem]; omega)) only [go_sem, ↓reduceIte]
    repeat (with_reducible refine And.intro (by first | assumption | omega | (simp; done) | (simp; omega)) ?_)
    refine toEnd hC ?_
    refine endX_seq ?_
    refine runX_seq ?_
    refine runX_regionC fun C hC => ?_
    obtain ⟨v1, h1, h⟩ := bnd_some h
    try simp -implicitDefEqProofs (maxSteps := 4000000) (disch := first | omega | decide | (simp only [go_sem]; omega)) only [go_sem, ↓reduceIte]
    repeat (with_reducible refine And.intro (by first | assumption | omega | (simp; done) | (simp; omega)) ?_)
    refine callG_X (by first | rfl | (simp only [go_sem]; done) | (simp only [closedL, closedT, Bool.and_true]; exact closedL_map _ (fun _ => by first | rfl | (simp only [go_sem]; done)) _)) (F94_ok n a0 a1 _ h1) (by repeat (first | exact leL_refl _ | refine leL_cons (by first | exact leT_refl _ | exact leT_virt | exact leT_junk _ | exact leT_sl | exact leT_sln | exact leT_nil | (refine leT_agg (by repeat (first | exact leL_refl _ | refine leL_cons (by first | exact leT_refl _ | exact leT_sl | exact leT_sln | exact leT_nil) ?_)))) ?_)) ?_
    try simp -implicitDefEqProofs (maxSteps := 4000000) (disch := first | omega | decide | (simp only [go_sem]; omega)) only [go_sem, ↓reduceIte]
    repeat (with_reducible refine And.intro (by first | assumption | omega | (simp; done) | (simp; omega)) ?_)
    refine toEnd hC ?_
    refine endX_seq ?_
    refine runX_ret ?_
    refine endX_q ?_
    obtain rfl := Option.some.inj h
    show RetW _ _ _ _ _
    simp only [RetW]
    (try simp -implicitDefEqProofs (maxSteps := 4000000) (disch := first | omega | decide | (simp only [go_sem]; omega)) only [go_sem, ↓reduceIte])
    (try simp (disch := omega) only [if_pos, Nat.sub_zero])
    exact leT_refl _
end Go.Proofs.YtbamlphgolldlaaX

set_option linter.unusedVariables false
set_option linter.unusedSimpArgs false
namespace Go.Proofs.YtbamlphgolldlaaX
open Go Go.RowKit Go.Proofs
set_option maxRecDepth 100000
attribute [local go_sem ↓] stepsK_build stepsK_build0 stepsK_bs stepsK_bs0 appendS
attribute [local go_sem] String.reduceEq String.reduceNe reduceCtorEq Int.reduceEq Nat.reduceAdd Nat.reduceSub Nat.reduceMul Nat.reduceLT Nat.reduceLeDiff Nat.reduceEqDiff Nat.reduceBEq Int.reduceToNat Int.reduceLT Int.reduceLE Int.reduceGT Int.reduceGE Int.reduceAdd Int.reduceSub Int.reduceMul Int.reduceNeg Int.reduceBEq Int.reduceBNe Int.reducePow Int.reduceDiv Int.reduceMod Int.reduceTDiv Int.reduceTMod Int.reduceNatCast
/-! ### internal/stringslite.HasPrefix -/
def F108 (n : Nat) (a0 : List UInt8) (a1 : List UInt8) : Option (Bool) := iteB (decide ((a1.length : Int) ≤ (a0.length : Int))) (grd (0 ≤ (a1.length : Int) ∧ (a1.length : Int) ≤ (a0.length : Int)) (some ((a0.take (a1.length : Int).toNat) == a1))) (some false)
set_option maxHeartbeats 4000000 in
theorem F108_ok : ∀ (n : Nat) (a0 : List UInt8) (a1 : List UInt8) (r : Bool), F108 n a0 a1 = some r → FnC Try.prog 108 [.imm (.string (bs a0)), .imm (.string (bs a1))] (.imm (.bool r))
  | n, a0, a1, r, h => by
    unfold F108 at h
    refine FnC.goX mixed Try.func108 (by kernel_rfl) rfl ?_
    simp only [Try.ntmps108, List.length_cons, List.length_nil, List.replicate, List.cons_append, List.nil_append, Nat.reduceAdd, Nat.reduceSub]
    refine runX_seq ?_
    refine runX_regionC fun C hC => ?_
    try simp -implicitDefEqProofs (maxSteps := 4000000) (disch := first | omega | decide | (simp only [go_sem]; omega)) only [go_sem, ↓reduceIte]
    repeat (with_reducible refine And.intro (by first | assumption | omega | (simp; done) | (simp; omega)) ?_)
    refine toEnd hC ?_
    refine endX_seq ?_
    refine runX_seq ?_
    refine runX_regionC fun C hC => ?_
    try simp -implicitDefEqProofs (maxSteps := 4000000) (disch := first | omega | decide | (simp only [go_sem]; omega)) only [go_sem, ↓reduceIte]
    repeat (with_reducible refine And.intro (by first | assumption | omega | (simp; done) | (simp; omega)) ?_)
    rcases iteB_some h with ⟨c1, h⟩ | ⟨c1, h⟩
    · refine guardK_T c1 ?_
      obtain ⟨g2, h⟩ := grd_some h
      try simp -implicitDefEqProofs (maxSteps := 4000000) (disch := first | omega | decide | (simp only [go_sem]; omega)) only [go_sem, ↓reduceIte]
      repeat (with_reducible refine And.intro (by first | assumption | omega | (simp; done) | (simp; omega)) ?_)
      refine toEnd hC ?_
      refine endX_seq ?_
      refine runX_ret ?_
      refine endX_q ?_
      obtain rfl := Option.some.inj h
      show RetW _ _ _ _ _
      simp only [RetW]
      (try simp -implicitDefEqProofs (maxSteps := 4000000) (disch := first | omega | decide | (simp only [go_sem]; omega)) only [go_sem, ↓reduceIte])
      (try simp (disch := omega) only [if_pos, Nat.sub_zero])
      exact leT_refl _
    · refine guardK_F c1 ?_
      try simp -implicitDefEqProofs (maxSteps := 4000000) (disch := first | omega | decide | (simp only [go_sem]; omega)) only [go_sem, ↓reduceIte]
      repeat (with_reducible refine And.intro (by first | assumption | omega | (simp; done) | (simp; omega)) ?_)
      refine toEnd hC ?_
      refine endX_seq ?_
      refine runX_ret ?_
      refine endX_q ?_
      obtain rfl := Option.some.inj h
      show RetW _ _ _ _ _
      simp only [RetW]
      (try simp -implicitDefEqProofs (maxSteps := 4000000) (disch := first | omega | decide | (simp only [go_sem]; omega)) only [go_sem, ↓reduceIte])
      (try simp (disch := omega) only [if_pos, Nat.sub_zero])
      exact leT_refl _
end Go.Proofs.YtbamlphgolldlaaX

set_option linter.unusedVariables false
set_option linter.unusedSimpArgs false
namespace Go.Proofs.YtbamlphgolldlaaX
open Go Go.RowKit Go.Proofs
set_option maxRecDepth 100000
attribute [local go_sem ↓] stepsK_build stepsK_build0 stepsK_bs stepsK_bs0 appendS
attribute [local go_sem] String.reduceEq String.reduceNe reduceCtorEq Int.reduceEq Nat.reduceAdd Nat.reduceSub Nat.reduceMul Nat.reduceLT Nat.reduceLeDiff Nat.reduceEqDiff Nat.reduceBEq Int.reduceToNat Int.reduceLT Int.reduceLE Int.reduceGT Int.reduceGE Int.reduceAdd Int.reduceSub Int.reduceMul Int.reduceNeg Int.reduceBEq Int.reduceBNe Int.reducePow Int.reduceDiv Int.reduceMod Int.reduceTDiv Int.reduceTMod Int.reduceNatCast
/-! ### internal/stringslite.CutPrefix -/
def F88 (n : Nat) (a0 : List UInt8) (a1 : List UInt8) : Option ((List UInt8) × (Bool)) := (F108 n a0 a1).bind fun v1 => iteB (!v1) (some (a0, false)) (grd (0 ≤ (a1.length : Int) ∧ (a1.length : Int) ≤ (a0.length : Int)) (some ((a0.drop (a1.length : Int).toNat), true)))
set_option maxHeartbeats 4000000 in
theorem F88_ok : ∀ (n : Nat) (a0 : List UInt8) (a1 : List UInt8) (r : (List UInt8) × (Bool)), F88 n a0 a1 = some r → FnC Try.prog 88 [.imm (.string (bs a0)), .imm (.string (bs a1))] (.tup [.imm (.string (bs r.1)), .imm (.bool r.2)])
  | n, a0, a1, r, h => by
    unfold F88 at h
    refine FnC.goX mixed Try.func88 (by kernel_rfl) rfl ?_
    simp only [Try.ntmps88, List.length_cons, List.length_nil, List.replicate, List.cons_append, List.nil_append, Nat.reduceAdd, Nat.reduceSub]
    refine runX_seq ?_
    refine runX_regionC fun C hC => ?_
    try simp -implicitDefEqProofs (maxSteps := 4000000) (disch := first | omega | decide | (simp only [go_sem]; omega)) only [go_sem, ↓reduceIte]
    repeat (with_reducible refine And.intro (by first | assumption | omega | (simp; done) | (simp; omega)) ?_)
    refine toEnd hC ?_
    refine endX_seq ?_
    refine runX_seq ?_
    refine runX_seq ?_
    refine runX_regionC fun C hC => ?_
    obtain ⟨v1, h1, h⟩ := bnd_some h
    try simp -implicitDefEqProofs (maxSteps := 4000000) (disch := first | omega | decide | (simp only [go_sem]; omega)) only [go_sem, ↓reduceIte]
    repeat (with_reducible refine And.intro (by first | assumption | omega | (simp; done) | (simp; omega)) ?_)
    refine callG_X (by first | rfl | (simp only [go_sem]; done) | (simp only [closedL, closedT, Bool.and_true]; exact closedL_map _ (fun _ => by first | rfl | (simp only [go_sem]; done)) _)) (F108_ok n a0 a1 _ h1) (by repeat (first | exact leL_refl _ | refine leL_cons (by first | exact leT_refl _ | exact leT_virt | exact leT_junk _ | exact leT_sl | exact leT_sln | exact leT_nil | (refine leT_agg (by repeat (first | exact leL_refl _ | refine leL_cons (by first | exact leT_refl _ | exact leT_sl | exact leT_sln | exact leT_nil) ?_)))) ?_)) ?_
    try simp -implicitDefEqProofs (maxSteps := 4000000) (disch := first | omega | decide | (simp only [go_sem]; omega)) only [go_sem, ↓reduceIte]
    repeat (with_reducible refine And.intro (by first | assumption | omega | (simp; done) | (simp; omega)) ?_)
    refine toEnd hC ?_
    refine endX_seq ?_
    rcases iteB_some h with ⟨c2, h⟩ | ⟨c2, h⟩
    · refine runX_condT rfl c2 ?_
      refine runX_seq ?_
      refine runX_regionC fun C hC => ?_
      try simp -implicitDefEqProofs (maxSteps := 4000000) (disch := first | omega | decide | (simp only [go_sem]; omega)) only [go_sem, ↓reduceIte]
      repeat (with_reducible refine And.intro (by first | assumption | omega | (simp; done) | (simp; omega)) ?_)
      refine toEnd hC ?_
      refine endX_seq ?_
      refine runX_ret ?_
      refine endX_seqR ?_
      refine endX_q ?_
      obtain rfl := Option.some.inj h
      show RetW _ _ _ _ _
      simp only [RetW]
      (try simp -implicitDefEqProofs (maxSteps := 4000000) (disch := first | omega | decide | (simp only [go_sem]; omega)) only [go_sem, ↓reduceIte])
      (try simp (disch := omega) only [if_pos, Nat.sub_zero])
      exact leT_refl _
    · refine runX_condF rfl c2 ?_
      refine runX_skip ?_
      refine endX_seq ?_
      refine runX_seq ?_
      refine runX_regionC fun C hC => ?_
      obtain ⟨g3, h⟩ := grd_some h
      try simp -implicitDefEqProofs (maxSteps := 4000000) (disch := first | omega | decide | (simp only [go_sem]; omega)) only [go_sem, ↓reduceIte]
      repeat (with_reducible refine And.intro (by first | assumption | omega | (simp; done) | (simp; omega)) ?_)
      refine toEnd hC ?_
      refine endX_seq ?_
      refine runX_ret ?_
      refine endX_q ?_
      obtain rfl := Option.some.inj h
      show RetW _ _ _ _ _
      simp only [RetW]
      (try simp -implicitDefEqProofs (maxSteps := 4000000) (disch := first | omega | decide | (simp only [go_sem]; omega)) only [go_sem, ↓reduceIte])
      (try simp (disch := omega) only [if_pos, Nat.sub_zero])
      exact leT_refl _
end Go.Proofs.YtbamlphgolldlaaX

set_option linter.unusedVariables false
set_option linter.unusedSimpArgs false
namespace Go.Proofs.YtbamlphgolldlaaX
open Go Go.RowKit Go.Proofs
set_option maxRecDepth 100000
attribute [local go_sem ↓] stepsK_build stepsK_build0 stepsK_bs stepsK_bs0 appendS
attribute [local go_sem] String.reduceEq String.reduceNe reduceCtorEq Int.reduceEq Nat.reduceAdd Nat.reduceSub Nat.reduceMul Nat.reduceLT Nat.reduceLeDiff Nat.reduceEqDiff Nat.reduceBEq Int.reduceToNat Int.reduceLT Int.reduceLE Int.reduceGT Int.reduceGE Int.reduceAdd Int.reduceSub Int.reduceMul Int.reduceNeg Int.reduceBEq Int.reduceBNe Int.reducePow Int.reduceDiv Int.reduceMod Int.reduceTDiv Int.reduceTMod Int.reduceNatCast
/-! ### strings.CutPrefix -/
def F52 (n : Nat) (a0 : List UInt8) (a1 : List UInt8) : Option ((List UInt8) × (Bool)) := (F88 n a0 a1).bind fun v1 => some (v1.1, v1.2)
set_option maxHeartbeats 4000000 in
theorem F52_ok : ∀ (n : Nat) (a0 : List UInt8) (a1 : List UInt8) (r : (List UInt8) × (Bool)), F52 n a0 a1 = some r → FnC Try.prog 52 [.imm (.string (bs a0)), .imm (.string (bs a1))] (.tup [.imm (.string (bs r.1)), .imm (.bool r.2)])
  | n, a0, a1, r, h => by
    unfold F52 at h
    refine FnC.goX mixed Try.func52 (by kernel_rfl) rfl ?_
    simp only [Try.ntmps52, List.length_cons, List.length_nil, List.replicate, List.cons_append, List.nil_append, Nat.reduceAdd, Nat.reduceSub]
    refine runX_seq ?_
    refine runX_regionC fun C hC => ?_
    try simp -implicitDefEqProofs (maxSteps := 4000000) (disch := first | omega | decide | (simp only [go_sem]; omega)) only [go_sem, ↓reduceIte]
    repeat (with_reducible refine And.intro (by first | assumption | omega | (simp; done) | (simp; omega)) ?_)
    refine toEnd hC ?_
    refine endX_seq ?_
    refine runX_seq ?_
    refine runX_regionC fun C hC => ?_
    obtain ⟨v1, h1, h⟩ := bnd_some h
    try simp -implicitDefEqProofs (maxSteps := 4000000) (disch := first | omega | decide | (simp only [go_sem]; omega)) only [go_sem, ↓reduceIte]
    repeat (with_reducible refine And.intro (by first | assumption | omega | (simp; done) | (simp; omega)) ?_)
    refine callG_X (by first | rfl | (simp only [go_sem]; done) | (simp only [closedL, closedT, Bool.and_true]; exact closedL_map _ (fun _ => by first | rfl | (simp only [go_sem]; done)) _)) (F88_ok n a0 a1 _ h1) (by repeat (first | exact leL_refl _ | refine leL_cons (by first | exact leT_refl _ | exact leT_virt | exact leT_junk _ | exact leT_sl | exact leT_sln | exact leT_nil | (refine leT_agg (by repeat (first | exact leL_refl _ | refine leL_cons (by first | exact leT_refl _ | exact leT_sl | exact leT_sln | exact leT_nil) ?_)))) ?_)) ?_
    try simp -implicitDefEqProofs (maxSteps := 4000000) (disch := first | omega | decide | (simp only [go_sem]; omega)) only [go_sem, ↓reduceIte]
    repeat (with_reducible refine And.intro (by first | assumption | omega | (simp; done) | (simp; omega)) ?_)
    refine toEnd hC ?_
    refine endX_seq ?_
    refine runX_ret ?_
    refine endX_q ?_
    obtain rfl := Option.some.inj h
    show RetW _ _ _ _ _
    simp only [RetW]
    (try simp -implicitDefEqProofs (maxSteps := 4000000) (disch := first | omega | decide | (simp only [go_sem]; omega)) only [go_sem, ↓reduceIte])
    (try simp (disch := omega) only [if_pos, Nat.sub_zero])
    exact leT_refl _
end Go.Proofs.YtbamlphgolldlaaX

set_option linter.unusedVariables false
set_option linter.unusedSimpArgs false
namespace Go.Proofs.YtbamlphgolldlaaX
open Go Go.RowKit Go.Proofs
set_option maxRecDepth 100000
/-! ### hex.Kind: by hand (an inner function that sees the byte through a place of the caller's own) -/
def kindOf (c : Int) : Int := if 48 ≤ c ∧ c ≤ 57 then 1 else if 97 ≤ c ∧ c ≤ 102 then 2 else if 103 ≤ c ∧ c ≤ 122 then 3 else if 65 ≤ c ∧ c ≤ 90 then 4 else 0
def F66 (n : Nat) (a0 : Int) : Option Int := some (kindOf a0)
set_option maxHeartbeats 2000000 in
theorem kind_inside (a b c : Int) (p : Addr) (w : World) (hc : w.cell? p = some (.int .u8 c)) :
    Calls Try.prog 92 #[.int .u8 a, .int .u8 b, .pointer (some p)] w fun e w' => e = .returned (.bool (decide (a ≤ c ∧ c ≤ b))) ∧ w' = w := by
  by_cases h1 : a ≤ c
  · have h1b : decide (a ≤ c) = true := decide_eq_true h1
    go_enter Try.func92, Try.ntmps92
    go_wp2
    go_ret
    exact ⟨by simp [h1], rfl⟩
  · have h1b : decide (a ≤ c) = false := decide_eq_false h1
    go_enter Try.func92, Try.ntmps92
    go_wp2
    go_ret
    exact ⟨by simp [h1], rfl⟩
set_option maxHeartbeats 4000000 in
theorem kind_calls (a0 : Int) (w : World) :
    Calls Try.prog 66 #[.int .u8 a0] w fun e w' => e = .returned (.int .i64 (kindOf a0)) ∧ Below w.heap.size w w' := by
  have hmf : ∀ (fn : Fn) (first cap : Array Value) (w : World), (Instr.makeFunc fn first cap).run Try.prog w = .ok (.func fn first cap) w := fun _ _ _ _ => rfl
  go_enter Try.func66, Try.ntmps66
  go_wp2_with (go_at_call 92; refine (kind_inside _ _ a0 _ _ (by simp)).mono ?_; rintro e w' ⟨rfl, rfl⟩)
  all_goals (go_ret; exact ⟨by unfold kindOf; (repeat (first | rw [if_pos (by omega)] | rw [if_neg (by omega)])); rfl, (Below.refl _ _).alloc (Nat.le_refl _) _⟩)
theorem F66_ok (n : Nat) (a0 : Int) (r : Int) (h : F66 n a0 = some r) : FnC Try.prog 66 [.imm (.int .u8 a0)] (.imm (.int .i64 r)) := by
  obtain rfl := Option.some.inj h
  refine ⟨⟨Try.f66, Try.func66, by kernel_rfl, rfl⟩, fun w ban vs hban hv => ?_⟩
  have e : vs = #[.int .u8 a0] := by
    obtain ⟨l⟩ := vs
    simp only [RepL, Rep] at hv
    obtain ⟨u, us, h1, h2, h3⟩ := hv
    simp_all [Lit.value]
  rw [e]
  refine (kind_calls a0 w).mono ?_
  rintro e w' ⟨rfl, hb⟩
  exact ⟨_, rfl, hb, by simp only [Rep]; exact ⟨trivial, rfl⟩⟩

end Go.Proofs.YtbamlphgolldlaaX

set_option linter.unusedVariables false
set_option linter.unusedSimpArgs false
namespace Go.Proofs.YtbamlphgolldlaaX
open Go Go.RowKit Go.Proofs
set_option maxRecDepth 100000
attribute [local go_sem ↓] stepsK_build stepsK_build0 stepsK_bs stepsK_bs0 appendS
attribute [local go_sem] String.reduceEq String.reduceNe reduceCtorEq Int.reduceEq Nat.reduceAdd Nat.reduceSub Nat.reduceMul Nat.reduceLT Nat.reduceLeDiff Nat.reduceEqDiff Nat.reduceBEq Int.reduceToNat Int.reduceLT Int.reduceLE Int.reduceGT Int.reduceGE Int.reduceAdd Int.reduceSub Int.reduceMul Int.reduceNeg Int.reduceBEq Int.reduceBNe Int.reducePow Int.reduceDiv Int.reduceMod Int.reduceTDiv Int.reduceTMod Int.reduceNatCast
/-! ### hex.ReadDecimal -/
def F74_S1 (a0 : List UInt8) (x3 : Int) (x4 : Int) : St := ⟨[.imm (.string (bs a0)), .junk, .junk, .junk, .imm (.int .i64 x3), .junk, .junk, .junk, .junk, .junk, .junk, .junk, .junk, .junk, .imm (.int .i64 (a0.length : Int)), .imm (.int .i64 x4), .junk, .junk, .junk, .junk, .junk, .junk, .junk, .junk, .junk, .junk, .junk, .junk, .junk, .junk, .junk, .junk, .junk], []⟩
def F74_L1 : Nat → (List UInt8) → (Int) → (Int) → Option ((Int) × (Bool))
  | 0, _, _, _ => none
  | m1 + 1, a0, x3, x4 => iteB (decide (x4 < (a0.length : Int))) (grd (0 ≤ x4 ∧ x4 < (a0.length : Int)) ((F66 m1 ((a0.getD x4.toNat 0).toNat : Int)).bind fun v7 => iteB (v7 != (1 : Int)) (some ((0 : Int), false)) (grd (0 ≤ x4 ∧ x4 < (a0.length : Int)) (F74_L1 m1 a0 (IntKind.wrap .i64 ((IntKind.wrap .i64 (x3 * (10 : Int))) + (IntKind.wrap .i64 ((IntKind.wrap .u8 (((a0.getD x4.toNat 0).toNat : Int) - (48 : Int))))))) (IntKind.wrap .i64 (x4 + (1 : Int))))))) (some (x3, true))
def F74 (n : Nat) (a0 : List UInt8) : Option ((Int) × (Bool)) := iteB (a0 == []) (some ((0 : Int), false)) (iteB (decide ((18 : Int) < (a0.length : Int))) (some ((0 : Int), false)) (F74_L1 n a0 (0 : Int) (0 : Int)))
set_option maxHeartbeats 4000000 in
theorem F74_ok : ∀ (n : Nat) (a0 : List UInt8) (r : (Int) × (Bool)), F74 n a0 = some r → FnC Try.prog 74 [.imm (.string (bs a0))] (.tup [.imm (.int .i64 r.1), .imm (.bool r.2)])
  | n, a0, r, h => by
    unfold F74 at h
    refine FnC.goX mixed Try.func74 (by kernel_rfl) rfl ?_
    simp only [Try.ntmps74, List.length_cons, List.length_nil, List.replicate, List.cons_append, List.nil_append, Nat.reduceAdd, Nat.reduceSub]
    refine runX_seq ?_
    refine runX_regionC fun C hC => ?_
    try simp -implicitDefEqProofs (maxSteps := 4000000) (disch := first | omega | decide | (simp only [go_sem]; omega)) only [go_sem, ↓reduceIte]
    repeat (with_reducible refine And.intro (by first | assumption | omega | (simp; done) | (simp; omega)) ?_)
    refine toEnd hC ?_
    refine endX_seq ?_
    refine runX_seq ?_
    refine runX_seq ?_
    refine runX_regionC fun C hC => ?_
    try simp -implicitDefEqProofs (maxSteps := 4000000) (disch := first | omega | decide | (simp only [go_sem]; omega)) only [go_sem, ↓reduceIte]
    repeat (with_reducible refine And.intro (by first | assumption | omega | (simp; done) | (simp; omega)) ?_)
    rcases iteB_some h with ⟨c1, h⟩ | ⟨c1, h⟩
    · refine guardK_F c1 ?_
      try simp -implicitDefEqProofs (maxSteps := 4000000) (disch := first | omega | decide | (simp only [go_sem]; omega)) only [go_sem, ↓reduceIte]
      repeat (with_reducible refine And.intro (by first | assumption | omega | (simp; done) | (simp; omega)) ?_)
      refine toEnd hC ?_
      refine endX_seq ?_
      refine runX_condT rfl rfl ?_
      refine runX_seq ?_
      refine runX_regionC fun C hC => ?_
      try simp -implicitDefEqProofs (maxSteps := 4000000) (disch := first | omega | decide | (simp only [go_sem]; omega)) only [go_sem, ↓reduceIte]
      repeat (with_reducible refine And.intro (by first | assumption | omega | (simp; done) | (simp; omega)) ?_)
      refine toEnd hC ?_
      refine endX_seq ?_
      refine runX_ret ?_
      refine endX_seqR ?_
      refine endX_q ?_
      obtain rfl := Option.some.inj h
      show RetW _ _ _ _ _
      simp only [RetW]
      (try simp -implicitDefEqProofs (maxSteps := 4000000) (disch := first | omega | decide | (simp only [go_sem]; omega)) only [go_sem, ↓reduceIte])
      (try simp (disch := omega) only [if_pos, Nat.sub_zero])
      exact leT_refl _
    · refine guardK_T c1 ?_
      try simp -implicitDefEqProofs (maxSteps := 4000000) (disch := first | omega | decide | (simp only [go_sem]; omega)) only [go_sem, ↓reduceIte]
      repeat (with_reducible refine And.intro (by first | assumption | omega | (simp; done) | (simp; omega)) ?_)
      refine toEnd hC ?_
      refine endX_seq ?_
      rcases iteB_some h with ⟨c2, h⟩ | ⟨c2, h⟩
      · refine runX_condT rfl c2 ?_
        refine runX_seq ?_
        refine runX_regionC fun C hC => ?_
        try simp -implicitDefEqProofs (maxSteps := 4000000) (disch := first | omega | decide | (simp only [go_sem]; omega)) only [go_sem, ↓reduceIte]
        repeat (with_reducible refine And.intro (by first | assumption | omega | (simp; done) | (simp; omega)) ?_)
        refine toEnd hC ?_
        refine endX_seq ?_
        refine runX_ret ?_
        refine endX_seqR ?_
        refine endX_q ?_
        obtain rfl := Option.some.inj h
        show RetW _ _ _ _ _
        simp only [RetW]
        (try simp -implicitDefEqProofs (maxSteps := 4000000) (disch := first | omega | decide | (simp only [go_sem]; omega)) only [go_sem, ↓reduceIte])
        (try simp (disch := omega) only [if_pos, Nat.sub_zero])
        exact leT_refl _
      · refine runX_condF rfl c2 ?_
        refine runX_skip ?_
        refine endX_seq ?_
        refine runX_seq ?_
        refine runX_regionC fun C hC => ?_
        try simp -implicitDefEqProofs (maxSteps := 4000000) (disch := first | omega | decide | (simp only [go_sem]; omega)) only [go_sem, ↓reduceIte]
        repeat (with_reducible refine And.intro (by first | assumption | omega | (simp; done) | (simp; omega)) ?_)
        refine toEnd hC ?_
        refine endX_seq ?_
        refine runX_seq ?_
        refine runX_seq ?_
        refine runX_regionC fun C hC => ?_
        try simp -implicitDefEqProofs (maxSteps := 4000000) (disch := first | omega | decide | (simp only [go_sem]; omega)) only [go_sem, ↓reduceIte]
        repeat (with_reducible refine And.intro (by first | assumption | omega | (simp; done) | (simp; omega)) ?_)
        refine toEnd hC ?_
        refine endX_seq ?_
        refine runX_block ?_
        refine runX_loop [0, 4, 14, 15] (fun m S => ∃ (x3 : Int) (x4 : Int), S = F74_S1 a0 x3 x4 ∧ m ≤ n ∧ F74_L1 m a0 x3 x4 = some r) n ⟨F74_S1 a0 (0 : Int) (0 : Int), ?_, (0 : Int), (0 : Int), rfl, Nat.le_refl _, h⟩ ?_
        · simp only [F74_S1]
          (try simp -implicitDefEqProofs (maxSteps := 4000000) (disch := first | omega | decide | (simp only [go_sem]; omega)) only [go_sem, ↓reduceIte])
          first | exact leS_refl _ | (refine leS_le ?_ ?_ <;> first | exact leL_refl _ | exact leOs_refl _ | (repeat (first | exact leL_refl _ | refine leL_cons (by first | exact leT_refl _ | exact leT_virt | exact leT_junk _ | exact leT_sl | exact leT_sln | exact leT_nil | (refine leT_agg (by repeat (first | exact leL_refl _ | refine leL_cons (by first | exact leT_refl _ | exact leT_sl | exact leT_sln | exact leT_nil) ?_)))) ?_)))
        · clear h
          rintro m1 S ⟨x3, x4, rfl, hm1, h⟩
          cases m1 with
          | zero => first | cases (show (none : Option _) = some _ from h) | (rw [F74_L1] at h; cases h)
          | succ m1 =>
            rw [F74_L1] at h
            simp only [F74_S1]
            refine runX_seq ?_
            refine runX_regionC fun C hC => ?_
            try simp -implicitDefEqProofs (maxSteps := 4000000) (disch := first | omega | decide | (simp only [go_sem]; omega)) only [go_sem, ↓reduceIte]
            repeat (with_reducible refine And.intro (by first | assumption | omega | (simp; done) | (simp; omega)) ?_)
            refine toEnd hC ?_
            refine endX_seq ?_
            refine runX_seq ?_
            rcases iteB_some h with ⟨c5, h⟩ | ⟨c5, h⟩
            · refine runX_condT rfl c5 ?_
              refine runX_skip ?_
              refine endX_seq ?_
              refine runX_seq ?_
              refine runX_block ?_
              refine runX_seq ?_
              refine runX_regionC fun C hC => ?_
              try simp -implicitDefEqProofs (maxSteps := 4000000) (disch := first | omega | decide | (simp only [go_sem]; omega)) only [go_sem, ↓reduceIte]
              repeat (with_reducible refine And.intro (by first | assumption | omega | (simp; done) | (simp; omega)) ?_)
              refine toEnd hC ?_
              refine endX_seq ?_
              refine runX_seq ?_
              refine runX_seq ?_
              refine runX_regionC fun C hC => ?_
              obtain ⟨g6, h⟩ := grd_some h
              obtain ⟨v7, h7, h⟩ := bnd_some h
              try simp -implicitDefEqProofs (maxSteps := 4000000) (disch := first | omega | decide | (simp only [go_sem]; omega)) only [go_sem, ↓reduceIte]
              repeat (with_reducible refine And.intro (by first | assumption | omega | (simp; done) | (simp; omega)) ?_)
              refine callG_X (by first | rfl | (simp only [go_sem]; done) | (simp only [closedL, closedT, Bool.and_true]; exact closedL_map _ (fun _ => by first | rfl | (simp only [go_sem]; done)) _)) (F66_ok m1 ((a0.getD x4.toNat 0).toNat : Int) _ h7) (by repeat (first | exact leL_refl _ | refine leL_cons (by first | exact leT_refl _ | exact leT_virt | exact leT_junk _ | exact leT_sl | exact leT_sln | exact leT_nil | (refine leT_agg (by repeat (first | exact leL_refl _ | refine leL_cons (by first | exact leT_refl _ | exact leT_sl | exact leT_sln | exact leT_nil) ?_)))) ?_)) ?_
              try simp -implicitDefEqProofs (maxSteps := 4000000) (disch := first | omega | decide | (simp only [go_sem]; omega)) only [go_sem, ↓reduceIte]
              repeat (with_reducible refine And.intro (by first | assumption | omega | (simp; done) | (simp; omega)) ?_)
              refine toEnd hC ?_
              refine endX_seq ?_
              rcases iteB_some h with ⟨c8, h⟩ | ⟨c8, h⟩
              · refine runX_condT rfl c8 ?_
                refine runX_seq ?_
                refine runX_regionC fun C hC => ?_
                try simp -implicitDefEqProofs (maxSteps := 4000000) (disch := first | omega | decide | (simp only [go_sem]; omega)) only [go_sem, ↓reduceIte]
                repeat (with_reducible refine And.intro (by first | assumption | omega | (simp; done) | (simp; omega)) ?_)
                refine toEnd hC ?_
                refine endX_seq ?_
                refine runX_ret ?_
                refine endX_seqR ?_
                refine endX_blkR ?_
                refine endX_seqR ?_
                refine endX_q (roundQ_ret ?_)
                refine endX_blkR ?_
                refine endX_seqR ?_
                refine endX_q ?_
                obtain rfl := Option.some.inj h
                show RetW _ _ _ _ _
                simp only [RetW]
                (try simp -implicitDefEqProofs (maxSteps := 4000000) (disch := first | omega | decide | (simp only [go_sem]; omega)) only [go_sem, ↓reduceIte])
                (try simp (disch := omega) only [if_pos, Nat.sub_zero])
                exact leT_refl _
              · refine runX_condF rfl c8 ?_
                refine runX_skip ?_
                refine endX_seq ?_
                refine runX_regionC fun C hC => ?_
                obtain ⟨g9, h⟩ := grd_some h
                try simp -implicitDefEqProofs (maxSteps := 4000000) (disch := first | omega | decide | (simp only [go_sem]; omega)) only [go_sem, ↓reduceIte]
                repeat (with_reducible refine And.intro (by first | assumption | omega | (simp; done) | (simp; omega)) ?_)
                refine toEnd hC ?_
                refine endX_blk ?_
                refine endX_seq ?_
                refine runX_regionC fun C hC => ?_
                try simp -implicitDefEqProofs (maxSteps := 4000000) (disch := first | omega | decide | (simp only [go_sem]; omega)) only [go_sem, ↓reduceIte]
                repeat (with_reducible refine And.intro (by first | assumption | omega | (simp; done) | (simp; omega)) ?_)
                refine toEnd hC ?_
                refine endX_q (roundQ_normal ⟨m1, by omega, F74_S1 a0 (IntKind.wrap .i64 ((IntKind.wrap .i64 (x3 * (10 : Int))) + (IntKind.wrap .i64 ((IntKind.wrap .u8 (((a0.getD x4.toNat 0).toNat : Int) - (48 : Int))))))) (IntKind.wrap .i64 (x4 + (1 : Int))), ?_, (IntKind.wrap .i64 ((IntKind.wrap .i64 (x3 * (10 : Int))) + (IntKind.wrap .i64 ((IntKind.wrap .u8 (((a0.getD x4.toNat 0).toNat : Int) - (48 : Int))))))), (IntKind.wrap .i64 (x4 + (1 : Int))), rfl, by omega, h⟩)
                simp only [F74_S1]
                (try simp -implicitDefEqProofs (maxSteps := 4000000) (disch := first | omega | decide | (simp only [go_sem]; omega)) only [go_sem, ↓reduceIte])
                first | exact leS_refl _ | (refine leS_le ?_ ?_ <;> first | exact leL_refl _ | exact leOs_refl _ | (repeat (first | exact leL_refl _ | refine leL_cons (by first | exact leT_refl _ | exact leT_virt | exact leT_junk _ | exact leT_sl | exact leT_sln | exact leT_nil | (refine leT_agg (by repeat (first | exact leL_refl _ | refine leL_cons (by first | exact leT_refl _ | exact leT_sl | exact leT_sln | exact leT_nil) ?_)))) ?_)))
            · refine runX_condF rfl c5 ?_
              refine runX_exit ?_
              refine endX_seqE ?_
              refine endX_q (roundQ_exit ?_)
              refine endX_blkE ?_
              refine endX_seq ?_
              refine runX_seq ?_
              refine runX_regionC fun C hC => ?_
              try simp -implicitDefEqProofs (maxSteps := 4000000) (disch := first | omega | decide | (simp only [go_sem]; omega)) only [go_sem, ↓reduceIte]
              repeat (with_reducible refine And.intro (by first | assumption | omega | (simp; done) | (simp; omega)) ?_)
              refine toEnd hC ?_
              refine endX_seq ?_
              refine runX_ret ?_
              refine endX_q ?_
              obtain rfl := Option.some.inj h
              show RetW _ _ _ _ _
              simp only [RetW]
              (try simp -implicitDefEqProofs (maxSteps := 4000000) (disch := first | omega | decide | (simp only [go_sem]; omega)) only [go_sem, ↓reduceIte])
              (try simp (disch := omega) only [if_pos, Nat.sub_zero])
              exact leT_refl _
end Go.Proofs.YtbamlphgolldlaaX

set_option linter.unusedVariables false
set_option linter.unusedSimpArgs false
namespace Go.Proofs.YtbamlphgolldlaaX
open Go Go.RowKit Go.Proofs
set_option maxRecDepth 100000
attribute [local go_sem ↓] stepsK_build stepsK_build0 stepsK_bs stepsK_bs0 appendS
attribute [local go_sem] String.reduceEq String.reduceNe reduceCtorEq Int.reduceEq Nat.reduceAdd Nat.reduceSub Nat.reduceMul Nat.reduceLT Nat.reduceLeDiff Nat.reduceEqDiff Nat.reduceBEq Int.reduceToNat Int.reduceLT Int.reduceLE Int.reduceGT Int.reduceGE Int.reduceAdd Int.reduceSub Int.reduceMul Int.reduceNeg Int.reduceBEq Int.reduceBNe Int.reducePow Int.reduceDiv Int.reduceMod Int.reduceTDiv Int.reduceTMod Int.reduceNatCast
/-! ### xmlin.named -/
def F70 (n : Nat) (a0 : List UInt8) : Option ((List UInt8) × (Bool)) := iteB (a0 == ([108, 116] : List UInt8)) (some (([60] : List UInt8), true)) (iteB (a0 == ([103, 116] : List UInt8)) (some (([62] : List UInt8), true)) (iteB (a0 == ([97, 109, 112] : List UInt8)) (some (([38] : List UInt8), true)) (iteB (a0 == ([113, 117, 111, 116] : List UInt8)) (some (([34] : List UInt8), true)) (iteB (a0 == ([97, 112, 111, 115] : List UInt8)) (some (([39] : List UInt8), true)) ((F52 n a0 ([35] : List UInt8)).bind fun v6 => (F74 n v6.1).bind fun v7 => iteB (!v6.2) (some ([], false)) (iteB (!v7.2) (some ([], false)) (iteB (decide ((7 : Int) < (v6.1.length : Int))) (some ([], false)) (iteB (v7.1 == (0 : Int)) (some ([], false)) (iteB (decide ((1114111 : Int) < v7.1)) (some ([], false)) ((F81 n [] (IntKind.wrap .i32 (v7.1))).bind fun v13 => some ((v13.map toB), (decide ((0 : Int) < (v13.length : Int))))))))))))))
set_option maxHeartbeats 4000000 in
theorem F70_ok : ∀ (n : Nat) (a0 : List UInt8) (r : (List UInt8) × (Bool)), F70 n a0 = some r → FnC Try.prog 70 [.imm (.string (bs a0))] (.tup [.imm (.string (bs r.1)), .imm (.bool r.2)])
  | n, a0, r, h => by
    unfold F70 at h
    refine FnC.goX mixed Try.func70 (by kernel_rfl) rfl ?_
    simp only [Try.ntmps70, List.length_cons, List.length_nil, List.replicate, List.cons_append, List.nil_append, Nat.reduceAdd, Nat.reduceSub]
    refine runX_seq ?_
    refine runX_regionC fun C hC => ?_
    try simp -implicitDefEqProofs (maxSteps := 4000000) (disch := first | omega | decide | (simp only [go_sem]; omega)) only [go_sem, ↓reduceIte]
    repeat (with_reducible refine And.intro (by first | assumption | omega | (simp; done) | (simp; omega)) ?_)
    refine toEnd hC ?_
    refine endX_seq ?_
    refine runX_seq ?_
    refine runX_seq ?_
    refine runX_regionC fun C hC => ?_
    try simp -implicitDefEqProofs (maxSteps := 4000000) (disch := first | omega | decide | (simp only [go_sem]; omega)) only [go_sem, ↓reduceIte]
    repeat (with_reducible refine And.intro (by first | assumption | omega | (simp; done) | (simp; omega)) ?_)
    refine toEnd hC ?_
    refine endX_seq ?_
    refine runX_block ?_
    refine runX_seq ?_
    refine runX_regionC fun C hC => ?_
    try simp -implicitDefEqProofs (maxSteps := 4000000) (disch := first | omega | decide | (simp only [go_sem]; omega)) only [go_sem, ↓reduceIte]
    repeat (with_reducible refine And.intro (by first | assumption | omega | (simp; done) | (simp; omega)) ?_)
    refine toEnd hC ?_
    refine endX_seq ?_
    rcases iteB_some h with ⟨c1, h⟩ | ⟨c1, h⟩
    · refine runX_condT rfl c1 ?_
      refine runX_seq ?_
      refine runX_regionC fun C hC => ?_
      try simp -implicitDefEqProofs (maxSteps := 4000000) (disch := first | omega | decide | (simp only [go_sem]; omega)) only [go_sem, ↓reduceIte]
      repeat (with_reducible refine And.intro (by first | assumption | omega | (simp; done) | (simp; omega)) ?_)
      refine toEnd hC ?_
      refine endX_seq ?_
      refine runX_ret ?_
      refine endX_blkR ?_
      refine endX_seqR ?_
      refine endX_q ?_
      obtain rfl := Option.some.inj h
      show RetW _ _ _ _ _
      simp only [RetW]
      (try simp -implicitDefEqProofs (maxSteps := 4000000) (disch := first | omega | decide | (simp only [go_sem]; omega)) only [go_sem, ↓reduceIte])
      (try simp (disch := omega) only [if_pos, Nat.sub_zero])
      exact leT_refl _
    · refine runX_condF rfl c1 ?_
      refine runX_seq ?_
      refine runX_regionC fun C hC => ?_
      try simp -implicitDefEqProofs (maxSteps := 4000000) (disch := first | omega | decide | (simp only [go_sem]; omega)) only [go_sem, ↓reduceIte]
      repeat (with_reducible refine And.intro (by first | assumption | omega | (simp; done) | (simp; omega)) ?_)
      refine toEnd hC ?_
      refine endX_seq ?_
      rcases iteB_some h with ⟨c2, h⟩ | ⟨c2, h⟩
      · refine runX_condT rfl c2 ?_
        refine runX_seq ?_
        refine runX_regionC fun C hC => ?_
        try simp -implicitDefEqProofs (maxSteps := 4000000) (disch := first | omega | decide | (simp only [go_sem]; omega)) only [go_sem, ↓reduceIte]
        repeat (with_reducible refine And.intro (by first | assumption | omega | (simp; done) | (simp; omega)) ?_)
        refine toEnd hC ?_
        refine endX_seq ?_
        refine runX_ret ?_
        refine endX_blkR ?_
        refine endX_seqR ?_
        refine endX_q ?_
        obtain rfl := Option.some.inj h
        show RetW _ _ _ _ _
        simp only [RetW]
        (try simp -implicitDefEqProofs (maxSteps := 4000000) (disch := first | omega | decide | (simp only [go_sem]; omega)) only [go_sem, ↓reduceIte])
        (try simp (disch := omega) only [if_pos, Nat.sub_zero])
        exact leT_refl _
      · refine runX_condF rfl c2 ?_
        refine runX_seq ?_
        refine runX_regionC fun C hC => ?_
        try simp -implicitDefEqProofs (maxSteps := 4000000) (disch := first | omega | decide | (simp only [go_sem]; omega)) only [go_sem, ↓reduceIte]
        repeat (with_reducible refine And.intro (by first | assumption | omega | (simp; done) | (simp; omega)) ?_)
        refine toEnd hC ?_
        refine endX_seq ?_
        rcases iteB_some h with ⟨c3, h⟩ | ⟨c3, h⟩
        · refine runX_condT rfl c3 ?_
          refine runX_seq ?_
          refine runX_regionC fun C hC => ?_
          try simp -implicitDefEqProofs (maxSteps := 4000000) (disch := first | omega | decide | (simp only [go_sem]; omega)) only [go_sem, ↓reduceIte]
          repeat (with_reducible refine And.intro (by first | assumption | omega | (simp; done) | (simp; omega)) ?_)
          refine toEnd hC ?_
          refine endX_seq ?_
          refine runX_ret ?_
          refine endX_blkR ?_
          refine endX_seqR ?_
          refine endX_q ?_
          obtain rfl := Option.some.inj h
          show RetW _ _ _ _ _
          simp only [RetW]
          (try simp -implicitDefEqProofs (maxSteps := 4000000) (disch := first | omega | decide | (simp only [go_sem]; omega)) only [go_sem, ↓reduceIte])
          (try simp (disch := omega) only [if_pos, Nat.sub_zero])
          exact leT_refl _
        · refine runX_condF rfl c3 ?_
          refine runX_seq ?_
          refine runX_regionC fun C hC => ?_
          try simp -implicitDefEqProofs (maxSteps := 4000000) (disch := first | omega | decide | (simp only [go_sem]; omega)) only [go_sem, ↓reduceIte]
          repeat (with_reducible refine And.intro (by first | assumption | omega | (simp; done) | (simp; omega)) ?_)
          refine toEnd hC ?_
          refine endX_seq ?_
          rcases iteB_some h with ⟨c4, h⟩ | ⟨c4, h⟩
          · refine runX_condT rfl c4 ?_
            refine runX_seq ?_
            refine runX_regionC fun C hC => ?_
            try simp -implicitDefEqProofs (maxSteps := 4000000) (disch := first | omega | decide | (simp only [go_sem]; omega)) only [go_sem, ↓reduceIte]
            repeat (with_reducible refine And.intro (by first | assumption | omega | (simp; done) | (simp; omega)) ?_)
            refine toEnd hC ?_
            refine endX_seq ?_
            refine runX_ret ?_
            refine endX_blkR ?_
            refine endX_seqR ?_
            refine endX_q ?_
            obtain rfl := Option.some.inj h
            show RetW _ _ _ _ _
            simp only [RetW]
            (try simp -implicitDefEqProofs (maxSteps := 4000000) (disch := first | omega | decide | (simp only [go_sem]; omega)) only [go_sem, ↓reduceIte])
            (try simp (disch := omega) only [if_pos, Nat.sub_zero])
            exact leT_refl _
          · refine runX_condF rfl c4 ?_
            refine runX_seq ?_
            refine runX_regionC fun C hC => ?_
            try simp -implicitDefEqProofs (maxSteps := 4000000) (disch := first | omega | decide | (simp only [go_sem]; omega)) only [go_sem, ↓reduceIte]
            repeat (with_reducible refine And.intro (by first | assumption | omega | (simp; done) | (simp; omega)) ?_)
            refine toEnd hC ?_
            refine endX_seq ?_
            rcases iteB_some h with ⟨c5, h⟩ | ⟨c5, h⟩
            · refine runX_condT rfl c5 ?_
              refine runX_seq ?_
              refine runX_regionC fun C hC => ?_
              try simp -implicitDefEqProofs (maxSteps := 4000000) (disch := first | omega | decide | (simp only [go_sem]; omega)) only [go_sem, ↓reduceIte]
              repeat (with_reducible refine And.intro (by first | assumption | omega | (simp; done) | (simp; omega)) ?_)
              refine toEnd hC ?_
              refine endX_seq ?_
              refine runX_ret ?_
              refine endX_blkR ?_
              refine endX_seqR ?_
              refine endX_q ?_
              obtain rfl := Option.some.inj h
              show RetW _ _ _ _ _
              simp only [RetW]
              (try simp -implicitDefEqProofs (maxSteps := 4000000) (disch := first | omega | decide | (simp only [go_sem]; omega)) only [go_sem, ↓reduceIte])
              (try simp (disch := omega) only [if_pos, Nat.sub_zero])
              exact leT_refl _
            · refine runX_condF rfl c5 ?_
              refine runX_skip ?_
              refine endX_blk ?_
              refine endX_seq ?_
              refine runX_seq ?_
              refine runX_regionC fun C hC => ?_
              obtain ⟨v6, h6, h⟩ := bnd_some h
              try simp -implicitDefEqProofs (maxSteps := 4000000) (disch := first | omega | decide | (simp only [go_sem]; omega)) only [go_sem, ↓reduceIte]
              repeat (with_reducible refine And.intro (by first | assumption | omega | (simp; done) | (simp; omega)) ?_)
              refine callG_X (by first | rfl | (simp only [go_sem]; done) | (simp only [closedL, closedT, Bool.and_true]; exact closedL_map _ (fun _ => by first | rfl | (simp only [go_sem]; done)) _)) (F52_ok n a0 ([35] : List UInt8) _ h6) (by repeat (first | exact leL_refl _ | refine leL_cons (by first | exact leT_refl _ | exact leT_virt | exact leT_junk _ | exact leT_sl | exact leT_sln | exact leT_nil | (refine leT_agg (by repeat (first | exact leL_refl _ | refine leL_cons (by first | exact leT_refl _ | exact leT_sl | exact leT_sln | exact leT_nil) ?_)))) ?_)) ?_
              try simp -implicitDefEqProofs (maxSteps := 4000000) (disch := first | omega | decide | (simp only [go_sem]; omega)) only [go_sem, ↓reduceIte]
              repeat (with_reducible refine And.intro (by first | assumption | omega | (simp; done) | (simp; omega)) ?_)
              refine toEnd hC ?_
              refine endX_seq ?_
              refine runX_seq ?_
              refine runX_regionC fun C hC => ?_
              obtain ⟨v7, h7, h⟩ := bnd_some h
              try simp -implicitDefEqProofs (maxSteps := 4000000) (disch := first | omega | decide | (simp only [go_sem]; omega)) only [go_sem, ↓reduceIte]
              repeat (with_reducible refine And.intro (by first | assumption | omega | (simp; done) | (simp; omega)) ?_)
              refine callG_X (by first | rfl | (simp only [go_sem]; done) | (simp only [closedL, closedT, Bool.and_true]; exact closedL_map _ (fun _ => by first | rfl | (simp only [go_sem]; done)) _)) (F74_ok n v6.1 _ h7) (by repeat (first | exact leL_refl _ | refine leL_cons (by first | exact leT_refl _ | exact leT_virt | exact leT_junk _ | exact leT_sl | exact leT_sln | exact leT_nil | (refine leT_agg (by repeat (first | exact leL_refl _ | refine leL_cons (by first | exact leT_refl _ | exact leT_sl | exact leT_sln | exact leT_nil) ?_)))) ?_)) ?_
              try simp -implicitDefEqProofs (maxSteps := 4000000) (disch := first | omega | decide | (simp only [go_sem]; omega)) only [go_sem, ↓reduceIte]
              repeat (with_reducible refine And.intro (by first | assumption | omega | (simp; done) | (simp; omega)) ?_)
              refine toEnd hC ?_
              refine endX_seq ?_
              refine runX_seq ?_
              refine runX_seq ?_
              refine runX_regionC fun C hC => ?_
              try simp -implicitDefEqProofs (maxSteps := 4000000) (disch := first | omega | decide | (simp only [go_sem]; omega)) only [go_sem, ↓reduceIte]
              repeat (with_reducible refine And.intro (by first | assumption | omega | (simp; done) | (simp; omega)) ?_)
              rcases iteB_some h with ⟨c8, h⟩ | ⟨c8, h⟩
              · refine guardK_F c8 ?_
                try simp -implicitDefEqProofs (maxSteps := 4000000) (disch := first | omega | decide | (simp only [go_sem]; omega)) only [go_sem, ↓reduceIte]
                repeat (with_reducible refine And.intro (by first | assumption | omega | (simp; done) | (simp; omega)) ?_)
                refine toEnd hC ?_
                refine endX_seq ?_
                refine runX_condT rfl rfl ?_
                refine runX_seq ?_
                refine runX_regionC fun C hC => ?_
                try simp -implicitDefEqProofs (maxSteps := 4000000) (disch := first | omega | decide | (simp only [go_sem]; omega)) only [go_sem, ↓reduceIte]
                repeat (with_reducible refine And.intro (by first | assumption | omega | (simp; done) | (simp; omega)) ?_)
                refine toEnd hC ?_
                refine endX_seq ?_
                refine runX_ret ?_
                refine endX_seqR ?_
                refine endX_q ?_
                obtain rfl := Option.some.inj h
                show RetW _ _ _ _ _
                simp only [RetW]
                (try simp -implicitDefEqProofs (maxSteps := 4000000) (disch := first | omega | decide | (simp only [go_sem]; omega)) only [go_sem, ↓reduceIte])
                (try simp (disch := omega) only [if_pos, Nat.sub_zero])
                exact leT_refl _
              · refine guardK_T c8 ?_
                try simp -implicitDefEqProofs (maxSteps := 4000000) (disch := first | omega | decide | (simp only [go_sem]; omega)) only [go_sem, ↓reduceIte]
                repeat (with_reducible refine And.intro (by first | assumption | omega | (simp; done) | (simp; omega)) ?_)
                rcases iteB_some h with ⟨c9, h⟩ | ⟨c9, h⟩
                · refine guardK_F c9 ?_
                  try simp -implicitDefEqProofs (maxSteps := 4000000) (disch := first | omega | decide | (simp only [go_sem]; omega)) only [go_sem, ↓reduceIte]
                  repeat (with_reducible refine And.intro (by first | assumption | omega | (simp; done) | (simp; omega)) ?_)
                  refine toEnd hC ?_
                  refine endX_seq ?_
                  refine runX_condT rfl rfl ?_
                  refine runX_seq ?_
                  refine runX_regionC fun C hC => ?_
                  try simp -implicitDefEqProofs (maxSteps := 4000000) (disch := first | omega | decide | (simp only [go_sem]; omega)) only [go_sem, ↓reduceIte]
                  repeat (with_reducible refine And.intro (by first | assumption | omega | (simp; done) | (simp; omega)) ?_)
                  refine toEnd hC ?_
                  refine endX_seq ?_
                  refine runX_ret ?_
                  refine endX_seqR ?_
                  refine endX_q ?_
                  obtain rfl := Option.some.inj h
                  show RetW _ _ _ _ _
                  simp only [RetW]
                  (try simp -implicitDefEqProofs (maxSteps := 4000000) (disch := first | omega | decide | (simp only [go_sem]; omega)) only [go_sem, ↓reduceIte])
                  (try simp (disch := omega) only [if_pos, Nat.sub_zero])
                  exact leT_refl _
                · refine guardK_T c9 ?_
                  try simp -implicitDefEqProofs (maxSteps := 4000000) (disch := first | omega | decide | (simp only [go_sem]; omega)) only [go_sem, ↓reduceIte]
                  repeat (with_reducible refine And.intro (by first | assumption | omega | (simp; done) | (simp; omega)) ?_)
                  rcases iteB_some h with ⟨c10, h⟩ | ⟨c10, h⟩
                  · refine guardK_F c10 ?_
                    try simp -implicitDefEqProofs (maxSteps := 4000000) (disch := first | omega | decide | (simp only [go_sem]; omega)) only [go_sem, ↓reduceIte]
                    repeat (with_reducible refine And.intro (by first | assumption | omega | (simp; done) | (simp; omega)) ?_)
                    refine toEnd hC ?_
                    refine endX_seq ?_
                    refine runX_condT rfl rfl ?_
                    refine runX_seq ?_
                    refine runX_regionC fun C hC => ?_
                    try simp -implicitDefEqProofs (maxSteps := 4000000) (disch := first | omega | decide | (simp only [go_sem]; omega)) only [go_sem, ↓reduceIte]
                    repeat (with_reducible refine And.intro (by first | assumption | omega | (simp; done) | (simp; omega)) ?_)
                    refine toEnd hC ?_
                    refine endX_seq ?_
                    refine runX_ret ?_
                    refine endX_seqR ?_
                    refine endX_q ?_
                    obtain rfl := Option.some.inj h
                    show RetW _ _ _ _ _
                    simp only [RetW]
                    (try simp -implicitDefEqProofs (maxSteps := 4000000) (disch := first | omega | decide | (simp only [go_sem]; omega)) only [go_sem, ↓reduceIte])
                    (try simp (disch := omega) only [if_pos, Nat.sub_zero])
                    exact leT_refl _
                  · refine guardK_T c10 ?_
                    try simp -implicitDefEqProofs (maxSteps := 4000000) (disch := first | omega | decide | (simp only [go_sem]; omega)) only [go_sem, ↓reduceIte]
                    repeat (with_reducible refine And.intro (by first | assumption | omega | (simp; done) | (simp; omega)) ?_)
                    rcases iteB_some h with ⟨c11, h⟩ | ⟨c11, h⟩
                    · refine guardK_F c11 ?_
                      try simp -implicitDefEqProofs (maxSteps := 4000000) (disch := first | omega | decide | (simp only [go_sem]; omega)) only [go_sem, ↓reduceIte]
                      repeat (with_reducible refine And.intro (by first | assumption | omega | (simp; done) | (simp; omega)) ?_)
                      refine toEnd hC ?_
                      refine endX_seq ?_
                      refine runX_condT rfl rfl ?_
                      refine runX_seq ?_
                      refine runX_regionC fun C hC => ?_
                      try simp -implicitDefEqProofs (maxSteps := 4000000) (disch := first | omega | decide | (simp only [go_sem]; omega)) only [go_sem, ↓reduceIte]
                      repeat (with_reducible refine And.intro (by first | assumption | omega | (simp; done) | (simp; omega)) ?_)
                      refine toEnd hC ?_
                      refine endX_seq ?_
                      refine runX_ret ?_
                      refine endX_seqR ?_
                      refine endX_q ?_
                      obtain rfl := Option.some.inj h
                      show RetW _ _ _ _ _
                      simp only [RetW]
                      (try simp -implicitDefEqProofs (maxSteps := 4000000) (disch := first | omega | decide | (simp only [go_sem]; omega)) only [go_sem, ↓reduceIte])
                      (try simp (disch := omega) only [if_pos, Nat.sub_zero])
                      exact leT_refl _
                    · refine guardK_T c11 ?_
                      try simp -implicitDefEqProofs (maxSteps := 4000000) (disch := first | omega | decide | (simp only [go_sem]; omega)) only [go_sem, ↓reduceIte]
                      repeat (with_reducible refine And.intro (by first | assumption | omega | (simp; done) | (simp; omega)) ?_)
                      refine toEnd hC ?_
                      refine endX_seq ?_
                      rcases iteB_some h with ⟨c12, h⟩ | ⟨c12, h⟩
                      · refine runX_condT rfl c12 ?_
                        refine runX_seq ?_
                        refine runX_regionC fun C hC => ?_
                        try simp -implicitDefEqProofs (maxSteps := 4000000) (disch := first | omega | decide | (simp only [go_sem]; omega)) only [go_sem, ↓reduceIte]
                        repeat (with_reducible refine And.intro (by first | assumption | omega | (simp; done) | (simp; omega)) ?_)
                        refine toEnd hC ?_
                        refine endX_seq ?_
                        refine runX_ret ?_
                        refine endX_seqR ?_
                        refine endX_q ?_
                        obtain rfl := Option.some.inj h
                        show RetW _ _ _ _ _
                        simp only [RetW]
                        (try simp -implicitDefEqProofs (maxSteps := 4000000) (disch := first | omega | decide | (simp only [go_sem]; omega)) only [go_sem, ↓reduceIte])
                        (try simp (disch := omega) only [if_pos, Nat.sub_zero])
                        exact leT_refl _
                      · refine runX_condF rfl c12 ?_
                        refine runX_skip ?_
                        refine endX_seq ?_
                        refine runX_seq ?_
                        refine runX_regionC fun C hC => ?_
                        obtain ⟨v13, h13, h⟩ := bnd_some h
                        try simp -implicitDefEqProofs (maxSteps := 4000000) (disch := first | omega | decide | (simp only [go_sem]; omega)) only [go_sem, ↓reduceIte]
                        repeat (with_reducible refine And.intro (by first | assumption | omega | (simp; done) | (simp; omega)) ?_)
                        refine callG_X (by first | rfl | (simp only [go_sem]; done) | (simp only [closedL, closedT, Bool.and_true]; exact closedL_map _ (fun _ => by first | rfl | (simp only [go_sem]; done)) _)) (F81_ok n [] (IntKind.wrap .i32 (v7.1)) _ h13) (by repeat (first | exact leL_refl _ | refine leL_cons (by first | exact leT_refl _ | exact leT_virt | exact leT_junk _ | exact leT_sl | exact leT_sln | exact leT_nil | (refine leT_agg (by repeat (first | exact leL_refl _ | refine leL_cons (by first | exact leT_refl _ | exact leT_sl | exact leT_sln | exact leT_nil) ?_)))) ?_)) ?_
                        try simp -implicitDefEqProofs (maxSteps := 4000000) (disch := first | omega | decide | (simp only [go_sem]; omega)) only [go_sem, ↓reduceIte]
                        repeat (with_reducible refine And.intro (by first | assumption | omega | (simp; done) | (simp; omega)) ?_)
                        refine toEnd hC ?_
                        refine endX_seq ?_
                        refine runX_seq ?_
                        refine runX_regionC fun C hC => ?_
                        try simp -implicitDefEqProofs (maxSteps := 4000000) (disch := first | omega | decide | (simp only [go_sem]; omega)) only [go_sem, ↓reduceIte]
                        repeat (with_reducible refine And.intro (by first | assumption | omega | (simp; done) | (simp; omega)) ?_)
                        refine toEnd hC ?_
                        refine endX_seq ?_
                        refine runX_ret ?_
                        refine endX_q ?_
                        obtain rfl := Option.some.inj h
                        show RetW _ _ _ _ _
                        simp only [RetW]
                        (try simp -implicitDefEqProofs (maxSteps := 4000000) (disch := first | omega | decide | (simp only [go_sem]; omega)) only [go_sem, ↓reduceIte])
                        (try simp (disch := omega) only [if_pos, Nat.sub_zero])
                        exact leT_refl _
end Go.Proofs.YtbamlphgolldlaaX

set_option linter.unusedVariables false
set_option linter.unusedSimpArgs false
namespace Go.Proofs.YtbamlphgolldlaaX
open Go Go.RowKit Go.Proofs
set_option maxRecDepth 100000
attribute [local go_sem ↓] stepsK_build stepsK_build0 stepsK_bs stepsK_bs0 appendS
attribute [local go_sem] String.reduceEq String.reduceNe reduceCtorEq Int.reduceEq Nat.reduceAdd Nat.reduceSub Nat.reduceMul Nat.reduceLT Nat.reduceLeDiff Nat.reduceEqDiff Nat.reduceBEq Int.reduceToNat Int.reduceLT Int.reduceLE Int.reduceGT Int.reduceGE Int.reduceAdd Int.reduceSub Int.reduceMul Int.reduceNeg Int.reduceBEq Int.reduceBNe Int.reducePow Int.reduceDiv Int.reduceMod Int.reduceTDiv Int.reduceTMod Int.reduceNatCast
/-! ### xmlin.Text -/
def F31_S1 (x3 : List UInt8) (x4 : Bool) (x5 : List (Int)) : St := ⟨[.imm (.string (bs x3)), .junk, .junk, .junk, .ref 0 0 0 0, .junk, .junk, .junk, .junk, .junk, .junk, .junk, .junk, .junk, .junk, .junk, .junk, .junk, .junk, .junk, .junk, .junk, .junk, .junk, .junk, .junk, .junk, .junk, .junk, .junk, .junk, .junk, .junk, .junk, .junk, .junk, .junk, .junk, .junk, .junk, .junk, .junk, .junk, .junk, .junk, .junk, .junk], [some (.box 71 (.agg [adT x4 0, .rsl 1 1 0 x5.length]) false), some (.buf 5 1 (List.map byteT x5) 0)]⟩
def F31_L1 : Nat → (List UInt8) → (Bool) → (List (Int)) → Option ((List UInt8) × (Bool))
  | 0, _, _, _ => none
  | m1 + 1, x3, x4, x5 => (F69 m1 x3 ([38] : List UInt8)).bind fun v6 => (F45 m1 (x4, x5) v6.1).bind fun v7 => iteB (!v6.2.2) ((F47 m1 (v7.2.2.1, v7.2.2.2)).bind fun v9 => some (v9.1, true)) ((F69 m1 v6.2.1 ([59] : List UInt8)).bind fun v10 => (F70 m1 v10.1).bind fun v11 => iteB (!v10.2.2) (some ([], false)) (iteB (!v11.2) (some ([], false)) ((F45 m1 (v7.2.2.1, v7.2.2.2) v11.1).bind fun v14 => F31_L1 m1 v10.2.1 v14.2.2.1 v14.2.2.2)))
def F31 (n : Nat) (a0 : List UInt8) : Option ((List UInt8) × (Bool)) := (F68 n a0).bind fun v1 => iteB (!v1) (some ([], false)) (F31_L1 n a0 false [])
set_option maxHeartbeats 4000000 in
theorem F31_ok : ∀ (n : Nat) (a0 : List UInt8) (r : (List UInt8) × (Bool)), F31 n a0 = some r → FnC Try.prog 31 [.imm (.string (bs a0))] (.tup [.imm (.string (bs r.1)), .imm (.bool r.2)])
  | n, a0, r, h => by
    unfold F31 at h
    refine FnC.goX mixed Try.func31 (by kernel_rfl) rfl ?_
    simp only [Try.ntmps31, List.length_cons, List.length_nil, List.replicate, List.cons_append, List.nil_append, Nat.reduceAdd, Nat.reduceSub]
    refine runX_seq ?_
    refine runX_regionC fun C hC => ?_
    try simp -implicitDefEqProofs (maxSteps := 4000000) (disch := first | omega | decide | (simp only [go_sem]; omega)) only [go_sem, ↓reduceIte]
    repeat (with_reducible refine And.intro (by first | assumption | omega | (simp; done) | (simp; omega)) ?_)
    refine toEnd hC ?_
    refine endX_seq ?_
    refine runX_seq ?_
    refine runX_seq ?_
    refine runX_regionC fun C hC => ?_
    obtain ⟨v1, h1, h⟩ := bnd_some h
    try simp -implicitDefEqProofs (maxSteps := 4000000) (disch := first | omega | decide | (simp only [go_sem]; omega)) only [go_sem, ↓reduceIte]
    repeat (with_reducible refine And.intro (by first | assumption | omega | (simp; done) | (simp; omega)) ?_)
    refine callG_X (by first | rfl | (simp only [go_sem]; done) | (simp only [closedL, closedT, Bool.and_true]; exact closedL_map _ (fun _ => by first | rfl | (simp only [go_sem]; done)) _)) (F68_ok n a0 _ h1) (by repeat (first | exact leL_refl _ | refine leL_cons (by first | exact leT_refl _ | exact leT_virt | exact leT_junk _ | exact leT_sl | exact leT_sln | exact leT_nil | (refine leT_agg (by repeat (first | exact leL_refl _ | refine leL_cons (by first | exact leT_refl _ | exact leT_sl | exact leT_sln | exact leT_nil) ?_)))) ?_)) ?_
    try simp -implicitDefEqProofs (maxSteps := 4000000) (disch := first | omega | decide | (simp only [go_sem]; omega)) only [go_sem, ↓reduceIte]
    repeat (with_reducible refine And.intro (by first | assumption | omega | (simp; done) | (simp; omega)) ?_)
    refine toEnd hC ?_
    refine endX_seq ?_
    rcases iteB_some h with ⟨c2, h⟩ | ⟨c2, h⟩
    · refine runX_condT rfl c2 ?_
      refine runX_seq ?_
      refine runX_regionC fun C hC => ?_
      try simp -implicitDefEqProofs (maxSteps := 4000000) (disch := first | omega | decide | (simp only [go_sem]; omega)) only [go_sem, ↓reduceIte]
      repeat (with_reducible refine And.intro (by first | assumption | omega | (simp; done) | (simp; omega)) ?_)
      refine toEnd hC ?_
      refine endX_seq ?_
      refine runX_ret ?_
      refine endX_seqR ?_
      refine endX_q ?_
      obtain rfl := Option.some.inj h
      show RetW _ _ _ _ _
      simp only [RetW]
      (try simp -implicitDefEqProofs (maxSteps := 4000000) (disch := first | omega | decide | (simp only [go_sem]; omega)) only [go_sem, ↓reduceIte])
      (try simp (disch := omega) only [if_pos, Nat.sub_zero])
      exact leT_refl _
    · refine runX_condF rfl c2 ?_
      refine runX_skip ?_
      refine endX_seq ?_
      refine runX_seq ?_
      refine runX_regionC fun C hC => ?_
      try simp -implicitDefEqProofs (maxSteps := 4000000) (disch := first | omega | decide | (simp only [go_sem]; omega)) only [go_sem, ↓reduceIte]
      repeat (with_reducible refine And.intro (by first | assumption | omega | (simp; done) | (simp; omega)) ?_)
      refine toEnd hC ?_
      refine endX_seq ?_
      refine runX_block ?_
      refine runX_loop [0, 4] (fun m S => ∃ (x3 : List UInt8) (x4 : Bool) (x5 : List (Int)), S = F31_S1 x3 x4 x5 ∧ m ≤ n ∧ F31_L1 m x3 x4 x5 = some r) n ⟨F31_S1 a0 false [], ?_, a0, false, [], rfl, Nat.le_refl _, h⟩ ?_
      · (try simp -implicitDefEqProofs (maxSteps := 4000000) (disch := first | omega | decide | (simp only [go_sem]; omega)) only [go_sem, ↓reduceIte])
        simp only [F31_S1]
        refine leS_trans (leS_pad _ _ 1) ?_
        simp only [List.replicate, List.cons_append, List.nil_append]
        refine leS_virt 1 5 1 rfl ?_ ?_ rfl
        · repeat (first | exact leL_refl _ | refine leL_cons (by first | exact leT_refl _ | exact leT_virt | exact leT_junk _ | exact leT_sl | exact leT_sln | exact leT_nil | (refine leT_agg (by repeat (first | exact leL_refl _ | refine leL_cons (by first | exact leT_refl _ | exact leT_sl | exact leT_sln | exact leT_nil) ?_)))) ?_)
        · repeat (first | exact leOs_refl _ | refine leOs.cons (by first | exact leO.same _ | (refine leO.box (leT_agg (by repeat (first | exact leL_refl _ | refine leL_cons (by first | exact leT_refl _ | exact leT_virt | exact leT_junk _ | exact leT_sl | exact leT_sln | exact leT_nil | (refine leT_agg (by repeat (first | exact leL_refl _ | refine leL_cons (by first | exact leT_refl _ | exact leT_sl | exact leT_sln | exact leT_nil) ?_)))) ?_))) rfl)) ?_)
      · clear h
        rintro m1 S ⟨x3, x4, x5, rfl, hm1, h⟩
        cases m1 with
        | zero => first | cases (show (none : Option _) = some _ from h) | (rw [F31_L1] at h; cases h)
        | succ m1 =>
          rw [F31_L1] at h
          simp only [F31_S1]
          refine runX_block ?_
          refine runX_seq ?_
          refine runX_regionC fun C hC => ?_
          obtain ⟨v6, h6, h⟩ := bnd_some h
          try simp -implicitDefEqProofs (maxSteps := 4000000) (disch := first | omega | decide | (simp only [go_sem]; omega)) only [go_sem, ↓reduceIte]
          repeat (with_reducible refine And.intro (by first | assumption | omega | (simp; done) | (simp; omega)) ?_)
          refine callG_X (by first | rfl | (simp only [go_sem]; done) | (simp only [closedL, closedT, Bool.and_true]; exact closedL_map _ (fun _ => by first | rfl | (simp only [go_sem]; done)) _)) (F69_ok m1 x3 ([38] : List UInt8) _ h6) (by repeat (first | exact leL_refl _ | refine leL_cons (by first | exact leT_refl _ | exact leT_virt | exact leT_junk _ | exact leT_sl | exact leT_sln | exact leT_nil | (refine leT_agg (by repeat (first | exact leL_refl _ | refine leL_cons (by first | exact leT_refl _ | exact leT_sl | exact leT_sln | exact leT_nil) ?_)))) ?_)) ?_
          try simp -implicitDefEqProofs (maxSteps := 4000000) (disch := first | omega | decide | (simp only [go_sem]; omega)) only [go_sem, ↓reduceIte]
          repeat (with_reducible refine And.intro (by first | assumption | omega | (simp; done) | (simp; omega)) ?_)
          refine toEnd hC ?_
          refine endX_seq ?_
          refine runX_seq ?_
          refine runX_regionC fun C hC => ?_
          obtain ⟨v7, h7, h⟩ := bnd_some h
          try simp -implicitDefEqProofs (maxSteps := 4000000) (disch := first | omega | decide | (simp only [go_sem]; omega)) only [go_sem, ↓reduceIte]
          repeat (with_reducible refine And.intro (by first | assumption | omega | (simp; done) | (simp; omega)) ?_)
          refine callR_X [0, 1] (F45_ok m1 (x4, x5) v6.1 _ h7) (by decide) (by (try simp -implicitDefEqProofs (maxSteps := 4000000) (disch := first | omega | decide | (simp only [go_sem]; omega)) only [go_sem, ↓reduceIte]); repeat (first | exact trivial | refine And.intro ?_ ?_ | exact fun _ => trivial | exact fun _ _ => trivial | exact fun _ _ h => h | rfl | decide)) (by (try simp -implicitDefEqProofs (maxSteps := 4000000) (disch := first | omega | decide | (simp only [go_sem]; omega)) only [go_sem, ↓reduceIte]); repeat (first | exact leL_refl _ | refine leL_cons (by first | exact leT_refl _ | exact leT_virt | exact leT_junk _ | exact leT_sl | exact leT_sln | exact leT_nil | (refine leT_agg (by repeat (first | exact leL_refl _ | refine leL_cons (by first | exact leT_refl _ | exact leT_sl | exact leT_sln | exact leT_nil) ?_)))) ?_)) ?_
          try simp -implicitDefEqProofs (maxSteps := 4000000) (disch := first | omega | decide | (simp only [go_sem]; omega)) only [go_sem, ↓reduceIte]
          repeat (with_reducible refine And.intro (by first | assumption | omega | (simp; done) | (simp; omega)) ?_)
          refine toEnd hC ?_
          refine endX_seq ?_
          refine runX_seq ?_
          refine runX_seq ?_
          refine runX_regionC fun C hC => ?_
          try simp -implicitDefEqProofs (maxSteps := 4000000) (disch := first | omega | decide | (simp only [go_sem]; omega)) only [go_sem, ↓reduceIte]
          repeat (with_reducible refine And.intro (by first | assumption | omega | (simp; done) | (simp; omega)) ?_)
          refine toEnd hC ?_
          refine endX_seq ?_
          rcases iteB_some h with ⟨c8, h⟩ | ⟨c8, h⟩
          · refine runX_condT rfl c8 ?_
            refine runX_seq ?_
            refine runX_regionC fun C hC => ?_
            simp only [runK_region, runK_draw, liteL, liteL2, dstsL, gL, List.getD_cons_zero, List.getD_cons_succ]
            obtain ⟨v9, h9, h⟩ := bnd_some h
            try simp -implicitDefEqProofs (maxSteps := 4000000) (disch := first | omega | decide | (simp only [go_sem]; omega)) only [go_sem, ↓reduceIte]
            repeat (with_reducible refine And.intro (by first | assumption | omega | (simp; done) | (simp; omega)) ?_)
            refine callR_X [0, 1] (F47_ok m1 (v7.2.2.1, v7.2.2.2) _ h9) (by decide) (by (try simp -implicitDefEqProofs (maxSteps := 4000000) (disch := first | omega | decide | (simp only [go_sem]; omega)) only [go_sem, ↓reduceIte]); repeat (first | exact trivial | refine And.intro ?_ ?_ | exact fun _ => trivial | exact fun _ _ => trivial | exact fun _ _ h => h | rfl | decide)) (by (try simp -implicitDefEqProofs (maxSteps := 4000000) (disch := first | omega | decide | (simp only [go_sem]; omega)) only [go_sem, ↓reduceIte]); repeat (first | exact leL_refl _ | refine leL_cons (by first | exact leT_refl _ | exact leT_virt | exact leT_junk _ | exact leT_sl | exact leT_sln | exact leT_nil | (refine leT_agg (by repeat (first | exact leL_refl _ | refine leL_cons (by first | exact leT_refl _ | exact leT_sl | exact leT_sln | exact leT_nil) ?_)))) ?_)) ?_
            try simp -implicitDefEqProofs (maxSteps := 4000000) (disch := first | omega | decide | (simp only [go_sem]; omega)) only [go_sem, ↓reduceIte]
            repeat (with_reducible refine And.intro (by first | assumption | omega | (simp; done) | (simp; omega)) ?_)
            refine toEnd hC ?_
            refine endX_seq ?_
            refine runX_ret ?_
            refine endX_seqR ?_
            refine endX_blkR ?_
            refine endX_q (roundQ_ret ?_)
            refine endX_blkR ?_
            refine endX_q ?_
            obtain rfl := Option.some.inj h
            show RetW _ _ _ _ _
            simp only [RetW]
            (try simp -implicitDefEqProofs (maxSteps := 4000000) (disch := first | omega | decide | (simp only [go_sem]; omega)) only [go_sem, ↓reduceIte])
            (try simp (disch := omega) only [if_pos, Nat.sub_zero])
            exact leT_refl _
          · refine runX_condF rfl c8 ?_
            refine runX_skip ?_
            refine endX_seq ?_
            refine runX_seq ?_
            refine runX_regionC fun C hC => ?_
            obtain ⟨v10, h10, h⟩ := bnd_some h
            try simp -implicitDefEqProofs (maxSteps := 4000000) (disch := first | omega | decide | (simp only [go_sem]; omega)) only [go_sem, ↓reduceIte]
            repeat (with_reducible refine And.intro (by first | assumption | omega | (simp; done) | (simp; omega)) ?_)
            refine callG_X (by first | rfl | (simp only [go_sem]; done) | (simp only [closedL, closedT, Bool.and_true]; exact closedL_map _ (fun _ => by first | rfl | (simp only [go_sem]; done)) _)) (F69_ok m1 v6.2.1 ([59] : List UInt8) _ h10) (by repeat (first | exact leL_refl _ | refine leL_cons (by first | exact leT_refl _ | exact leT_virt | exact leT_junk _ | exact leT_sl | exact leT_sln | exact leT_nil | (refine leT_agg (by repeat (first | exact leL_refl _ | refine leL_cons (by first | exact leT_refl _ | exact leT_sl | exact leT_sln | exact leT_nil) ?_)))) ?_)) ?_
            try simp -implicitDefEqProofs (maxSteps := 4000000) (disch := first | omega | decide | (simp only [go_sem]; omega)) only [go_sem, ↓reduceIte]
            repeat (with_reducible refine And.intro (by first | assumption | omega | (simp; done) | (simp; omega)) ?_)
            refine toEnd hC ?_
            refine endX_seq ?_
            refine runX_seq ?_
            refine runX_regionC fun C hC => ?_
            obtain ⟨v11, h11, h⟩ := bnd_some h
            try simp -implicitDefEqProofs (maxSteps := 4000000) (disch := first | omega | decide | (simp only [go_sem]; omega)) only [go_sem, ↓reduceIte]
            repeat (with_reducible refine And.intro (by first | assumption | omega | (simp; done) | (simp; omega)) ?_)
            refine callG_X (by first | rfl | (simp only [go_sem]; done) | (simp only [closedL, closedT, Bool.and_true]; exact closedL_map _ (fun _ => by first | rfl | (simp only [go_sem]; done)) _)) (F70_ok m1 v10.1 _ h11) (by repeat (first | exact leL_refl _ | refine leL_cons (by first | exact leT_refl _ | exact leT_virt | exact leT_junk _ | exact leT_sl | exact leT_sln | exact leT_nil | (refine leT_agg (by repeat (first | exact leL_refl _ | refine leL_cons (by first | exact leT_refl _ | exact leT_sl | exact leT_sln | exact leT_nil) ?_)))) ?_)) ?_
            try simp -implicitDefEqProofs (maxSteps := 4000000) (disch := first | omega | decide | (simp only [go_sem]; omega)) only [go_sem, ↓reduceIte]
            repeat (with_reducible refine And.intro (by first | assumption | omega | (simp; done) | (simp; omega)) ?_)
            refine toEnd hC ?_
            refine endX_seq ?_
            refine runX_seq ?_
            refine runX_seq ?_
            refine runX_regionC fun C hC => ?_
            try simp -implicitDefEqProofs (maxSteps := 4000000) (disch := first | omega | decide | (simp only [go_sem]; omega)) only [go_sem, ↓reduceIte]
            repeat (with_reducible refine And.intro (by first | assumption | omega | (simp; done) | (simp; omega)) ?_)
            rcases iteB_some h with ⟨c12, h⟩ | ⟨c12, h⟩
            · refine guardK_F c12 ?_
              try simp -implicitDefEqProofs (maxSteps := 4000000) (disch := first | omega | decide | (simp only [go_sem]; omega)) only [go_sem, ↓reduceIte]
              repeat (with_reducible refine And.intro (by first | assumption | omega | (simp; done) | (simp; omega)) ?_)
              refine toEnd hC ?_
              refine endX_seq ?_
              refine runX_condT rfl rfl ?_
              refine runX_seq ?_
              refine runX_regionC fun C hC => ?_
              try simp -implicitDefEqProofs (maxSteps := 4000000) (disch := first | omega | decide | (simp only [go_sem]; omega)) only [go_sem, ↓reduceIte]
              repeat (with_reducible refine And.intro (by first | assumption | omega | (simp; done) | (simp; omega)) ?_)
              refine toEnd hC ?_
              refine endX_seq ?_
              refine runX_ret ?_
              refine endX_seqR ?_
              refine endX_blkR ?_
              refine endX_q (roundQ_ret ?_)
              refine endX_blkR ?_
              refine endX_q ?_
              obtain rfl := Option.some.inj h
              show RetW _ _ _ _ _
              simp only [RetW]
              (try simp -implicitDefEqProofs (maxSteps := 4000000) (disch := first | omega | decide | (simp only [go_sem]; omega)) only [go_sem, ↓reduceIte])
              (try simp (disch := omega) only [if_pos, Nat.sub_zero])
              exact leT_refl _
            · refine guardK_T c12 ?_
              try simp -implicitDefEqProofs (maxSteps := 4000000) (disch := first | omega | decide | (simp only [go_sem]; omega)) only [go_sem, ↓reduceIte]
              repeat (with_reducible refine And.intro (by first | assumption | omega | (simp; done) | (simp; omega)) ?_)
              refine toEnd hC ?_
              refine endX_seq ?_
              rcases iteB_some h with ⟨c13, h⟩ | ⟨c13, h⟩
              · refine runX_condT rfl c13 ?_
                refine runX_seq ?_
                refine runX_regionC fun C hC => ?_
                try simp -implicitDefEqProofs (maxSteps := 4000000) (disch := first | omega | decide | (simp only [go_sem]; omega)) only [go_sem, ↓reduceIte]
                repeat (with_reducible refine And.intro (by first | assumption | omega | (simp; done) | (simp; omega)) ?_)
                refine toEnd hC ?_
                refine endX_seq ?_
                refine runX_ret ?_
                refine endX_seqR ?_
                refine endX_blkR ?_
                refine endX_q (roundQ_ret ?_)
                refine endX_blkR ?_
                refine endX_q ?_
                obtain rfl := Option.some.inj h
                show RetW _ _ _ _ _
                simp only [RetW]
                (try simp -implicitDefEqProofs (maxSteps := 4000000) (disch := first | omega | decide | (simp only [go_sem]; omega)) only [go_sem, ↓reduceIte])
                (try simp (disch := omega) only [if_pos, Nat.sub_zero])
                exact leT_refl _
              · refine runX_condF rfl c13 ?_
                refine runX_skip ?_
                refine endX_seq ?_
                refine runX_seq ?_
                refine runX_regionC fun C hC => ?_
                obtain ⟨v14, h14, h⟩ := bnd_some h
                try simp -implicitDefEqProofs (maxSteps := 4000000) (disch := first | omega | decide | (simp only [go_sem]; omega)) only [go_sem, ↓reduceIte]
                repeat (with_reducible refine And.intro (by first | assumption | omega | (simp; done) | (simp; omega)) ?_)
                refine callR_X [0, 1] (F45_ok m1 (v7.2.2.1, v7.2.2.2) v11.1 _ h14) (by decide) (by (try simp -implicitDefEqProofs (maxSteps := 4000000) (disch := first | omega | decide | (simp only [go_sem]; omega)) only [go_sem, ↓reduceIte]); repeat (first | exact trivial | refine And.intro ?_ ?_ | exact fun _ => trivial | exact fun _ _ => trivial | exact fun _ _ h => h | rfl | decide)) (by (try simp -implicitDefEqProofs (maxSteps := 4000000) (disch := first | omega | decide | (simp only [go_sem]; omega)) only [go_sem, ↓reduceIte]); repeat (first | exact leL_refl _ | refine leL_cons (by first | exact leT_refl _ | exact leT_virt | exact leT_junk _ | exact leT_sl | exact leT_sln | exact leT_nil | (refine leT_agg (by repeat (first | exact leL_refl _ | refine leL_cons (by first | exact leT_refl _ | exact leT_sl | exact leT_sln | exact leT_nil) ?_)))) ?_)) ?_
                try simp -implicitDefEqProofs (maxSteps := 4000000) (disch := first | omega | decide | (simp only [go_sem]; omega)) only [go_sem, ↓reduceIte]
                repeat (with_reducible refine And.intro (by first | assumption | omega | (simp; done) | (simp; omega)) ?_)
                refine toEnd hC ?_
                refine endX_seq ?_
                refine runX_regionC fun C hC => ?_
                try simp -implicitDefEqProofs (maxSteps := 4000000) (disch := first | omega | decide | (simp only [go_sem]; omega)) only [go_sem, ↓reduceIte]
                repeat (with_reducible refine And.intro (by first | assumption | omega | (simp; done) | (simp; omega)) ?_)
                refine toEnd hC ?_
                refine endX_blk ?_
                refine endX_q (roundQ_normal ⟨m1, by omega, F31_S1 v10.2.1 v14.2.2.1 v14.2.2.2, ?_, v10.2.1, v14.2.2.1, v14.2.2.2, rfl, by omega, h⟩)
                simp only [F31_S1]
                (try simp -implicitDefEqProofs (maxSteps := 4000000) (disch := first | omega | decide | (simp only [go_sem]; omega)) only [go_sem, ↓reduceIte])
                first | exact leS_refl _ | (refine leS_le ?_ ?_ <;> first | exact leL_refl _ | exact leOs_refl _ | (repeat (first | exact leL_refl _ | refine leL_cons (by first | exact leT_refl _ | exact leT_virt | exact leT_junk _ | exact leT_sl | exact leT_sln | exact leT_nil | (refine leT_agg (by repeat (first | exact leL_refl _ | refine leL_cons (by first | exact leT_refl _ | exact leT_sl | exact leT_sln | exact leT_nil) ?_)))) ?_)))
end Go.Proofs.YtbamlphgolldlaaX

set_option linter.unusedVariables false
set_option linter.unusedSimpArgs false
namespace Go.Proofs.YtbamlphgolldlaaX
open Go Go.RowKit Go.Proofs
set_option maxRecDepth 100000
attribute [local go_sem ↓] stepsK_build stepsK_build0 stepsK_bs stepsK_bs0 appendS
attribute [local go_sem] String.reduceEq String.reduceNe reduceCtorEq Int.reduceEq Nat.reduceAdd Nat.reduceSub Nat.reduceMul Nat.reduceLT Nat.reduceLeDiff Nat.reduceEqDiff Nat.reduceBEq Int.reduceToNat Int.reduceLT Int.reduceLE Int.reduceGT Int.reduceGE Int.reduceAdd Int.reduceSub Int.reduceMul Int.reduceNeg Int.reduceBEq Int.reduceBNe Int.reducePow Int.reduceDiv Int.reduceMod Int.reduceTDiv Int.reduceTMod Int.reduceNatCast
/-! ### shadowboxlaw35.told -/
def F32_S2 (x3 : Bool) (x4 : Int) (a0 : N43) (x10 : Bool) : St := ⟨[.junk, .ref 0 0 0 0, .ref 1 0 0 0, .junk, .ref 2 0 0 0, .imm (.bool x10), .imm (.bool x3), .imm (.int .i64 x4), .imm (.int .u8 ((a0.p1.getD x4.toNat 0).toNat : Int)), .junk, .junk, .junk, .junk, .junk, .junk, .junk, .junk, .junk, .junk, .junk, .junk, .junk, .junk, .junk, .junk, .junk, .junk, .junk, .junk, .junk, .junk, .junk, .junk, .junk, .junk, .junk, .junk, .junk, .junk, .junk, .junk, .junk, .junk, .junk, .junk, .junk, .junk, .junk, .junk, .junk, .junk, .junk, .junk, .junk, .junk, .junk, .junk, .junk, .junk, .junk, .junk, .junk, .junk, .junk, .junk, .junk, .junk, .junk, .junk, .junk, .junk, .junk, .junk, .junk, .junk, .junk, .junk, .junk, .junk, .junk, .junk, .junk, .junk, .junk, .junk, .junk, .junk, .junk, .junk, .junk, .junk, .junk, .junk, .junk, .junk, .junk], [some (.box 44 (.agg [.imm (.string (bs a0.p0)), .imm (.string (bs a0.p1)), .sl 3 false (List.map eT43 a0.p2)]) false), some (.box 44 (.agg [.imm (.string (bs [])), .imm (.string (bs [])), .sl 0 true []]) false), some (.box 44 (.agg [.imm (.string (bs a0.p0)), .imm (.string (bs [])), .sl 0 true []]) false)]⟩
def F32_S4 (a0 : N43) (x17 : List UInt8) (x18 : Bool) (x19 : Int) (x20 : List (N43)) : St := ⟨[.junk, .ref 0 0 0 0, .ref 1 0 0 0, .junk, .ref 2 0 0 0, .junk, .imm (.bool x18), .junk, .junk, .imm (.int .i64 x19), .junk, .junk, .junk, .junk, .junk, .junk, .junk, .junk, .junk, .junk, .junk, .junk, .junk, .junk, .junk, .junk, .junk, .junk, .junk, .junk, .junk, .junk, .junk, .junk, .junk, .junk, .junk, .junk, .junk, .junk, .junk, .junk, .junk, .junk, .junk, .junk, .junk, .junk, .junk, .junk, .junk, .junk, .junk, .junk, .junk, .junk, .junk, .junk, .junk, .junk, .junk, .junk, .junk, .junk, .junk, .junk, .junk, .junk, .junk, .junk, .junk, .junk, .junk, .junk, .junk, .junk, .junk, .junk, .junk, .junk, .junk, .junk, .junk, .junk, .junk, .junk, .junk, .junk, .junk, .junk, .junk, .junk, .junk, .junk, .junk, .junk], [some (.box 44 (.agg [.imm (.string (bs a0.p0)), .imm (.string (bs a0.p1)), .sl 3 false (List.map eT43 a0.p2)]) false), some (.box 44 (.agg [.imm (.string (bs [])), .imm (.string (bs [])), .sl 0 true []]) false), some (.box 44 (.agg [.imm (.string (bs a0.p0)), .imm (.string (bs x17)), .rsl 3 3 0 x20.length]) false), some (.buf 44 3 (List.map eT43 x20) 0)]⟩
def F32_S3 (x3 : Bool) (a0 : N43) (x17 : List UInt8) : St := ⟨[.junk, .ref 0 0 0 0, .ref 1 0 0 0, .junk, .ref 2 0 0 0, .junk, .imm (.bool x3), .junk, .junk, .junk, .junk, .junk, .junk, .junk, .junk, .junk, .junk, .junk, .junk, .junk, .junk, .junk, .junk, .junk, .junk, .junk, .junk, .junk, .junk, .junk, .junk, .junk, .junk, .junk, .junk, .junk, .junk, .junk, .junk, .junk, .junk, .junk, .junk, .junk, .junk, .junk, .junk, .junk, .junk, .junk, .junk, .junk, .junk, .junk, .junk, .junk, .junk, .junk, .junk, .junk, .junk, .junk, .junk, .junk, .junk, .junk, .junk, .junk, .junk, .junk, .junk, .junk, .junk, .junk, .junk, .junk, .junk, .junk, .junk, .junk, .junk, .junk, .junk, .junk, .junk, .junk, .junk, .junk, .junk, .junk, .junk, .junk, .junk, .junk, .junk, .junk], [some (.box 44 (.agg [.imm (.string (bs a0.p0)), .imm (.string (bs a0.p1)), .sl 3 false (List.map eT43 a0.p2)]) false), some (.box 44 (.agg [.imm (.string (bs [])), .imm (.string (bs [])), .sl 0 true []]) false), some (.box 44 (.agg [.imm (.string (bs a0.p0)), .imm (.string (bs x17)), .sl 0 true []]) false)]⟩
def F32_S1 (a0 : N43) (x2 : Bool) (x3 : Bool) (x4 : Int) : St := ⟨[.junk, .ref 0 0 0 0, .ref 1 0 0 0, .junk, .ref 2 0 0 0, .imm (.bool x2), .imm (.bool x3), .imm (.int .i64 x4), .junk, .junk, .junk, .junk, .junk, .junk, .junk, .junk, .junk, .junk, .junk, .junk, .junk, .junk, .junk, .junk, .junk, .junk, .junk, .junk, .junk, .junk, .junk, .junk, .junk, .junk, .junk, .junk, .junk, .junk, .junk, .junk, .junk, .junk, .junk, .junk, .junk, .junk, .junk, .junk, .junk, .junk, .junk, .junk, .junk, .junk, .junk, .junk, .junk, .junk, .junk, .junk, .junk, .junk, .junk, .junk, .junk, .junk, .junk, .junk, .junk, .junk, .junk, .junk, .junk, .junk, .junk, .junk, .junk, .junk, .junk, .junk, .junk, .junk, .junk, .junk, .junk, .junk, .junk, .junk, .junk, .junk, .junk, .junk, .junk, .junk, .junk, .junk], [some (.box 44 (.agg [.imm (.string (bs a0.p0)), .imm (.string (bs a0.p1)), .sl 3 false (List.map eT43 a0.p2)]) false), some (.box 44 (.agg [.imm (.string (bs [])), .imm (.string (bs [])), .sl 0 true []]) false), some (.box 44 (.agg [.imm (.string (bs a0.p0)), .imm (.string (bs [])), .sl 0 true []]) false)]⟩
mutual
def F32_J2 (m1 : Nat) (x3 : Bool) (x4 : Int) (a0 : N43) (x10 : Bool) : Option ((N43) × (Bool)) := iteB x3 (iteB (decide ((32 : Int) ≤ ((a0.p1.getD x4.toNat 0).toNat : Int))) (F32_L1 m1 a0 x10 (((a0.p1.getD x4.toNat 0).toNat : Int) != (239 : Int)) (IntKind.wrap .i64 (x4 + (1 : Int)))) (iteB (((a0.p1.getD x4.toNat 0).toNat : Int) == (9 : Int)) (F32_L1 m1 a0 x10 (((a0.p1.getD x4.toNat 0).toNat : Int) != (239 : Int)) (IntKind.wrap .i64 (x4 + (1 : Int)))) (iteB (((a0.p1.getD x4.toNat 0).toNat : Int) == (10 : Int)) (F32_L1 m1 a0 x10 (((a0.p1.getD x4.toNat 0).toNat : Int) != (239 : Int)) (IntKind.wrap .i64 (x4 + (1 : Int)))) (iteB (((a0.p1.getD x4.toNat 0).toNat : Int) == (13 : Int)) (F32_L1 m1 a0 x10 (((a0.p1.getD x4.toNat 0).toNat : Int) != (239 : Int)) (IntKind.wrap .i64 (x4 + (1 : Int)))) (F32_L1 m1 a0 x10 false (IntKind.wrap .i64 (x4 + (1 : Int)))))))) (F32_L1 m1 a0 x10 false (IntKind.wrap .i64 (x4 + (1 : Int))))
def F32_L4 : Nat → (N43) → (List UInt8) → (Bool) → (Int) → (List (N43)) → Option ((N43) × (Bool))
  | 0, _, _, _, _, _ => none
  | m4 + 1, a0, x17, x18, x19, x20 => iteB (decide (x19 < (a0.p2.length : Int))) (grd (0 ≤ x19 ∧ x19 < (a0.p2.length : Int)) ((F32 m4 (a0.p2.getD x19.toNat default)).bind fun v23 => grd ((x20.length + 1) ≤ 549755813888) (iteB x18 (F32_L4 m4 a0 x17 v23.2 (IntKind.wrap .i64 (x19 + (1 : Int))) (x20 ++ [v23.1])) (F32_L4 m4 a0 x17 false (IntKind.wrap .i64 (x19 + (1 : Int))) (x20 ++ [v23.1]))))) (some ((N43.mk a0.p0 x17 x20), x18))
def F32_J3 (m1 : Nat) (x3 : Bool) (a0 : N43) (x17 : List UInt8) : Option ((N43) × (Bool)) := F32_L4 m1 a0 x17 x3 (0 : Int) []
def F32_L1 : Nat → (N43) → (Bool) → (Bool) → (Int) → Option ((N43) × (Bool))
  | 0, _, _, _, _ => none
  | m1 + 1, a0, x2, x3, x4 => iteB (decide (x4 < (a0.p1.length : Int))) (grd (0 ≤ x4 ∧ x4 < (a0.p1.length : Int)) (iteB x2 (iteB (((a0.p1.getD x4.toNat 0).toNat : Int) == (9 : Int)) (F32_J2 m1 x3 x4 a0 true) (iteB (((a0.p1.getD x4.toNat 0).toNat : Int) == (10 : Int)) (F32_J2 m1 x3 x4 a0 true) (F32_J2 m1 x3 x4 a0 (((a0.p1.getD x4.toNat 0).toNat : Int) == (32 : Int))))) (F32_J2 m1 x3 x4 a0 false))) (iteB (!x2) (F32_J3 m1 x3 a0 a0.p1) (F32_J3 m1 x3 a0 []))
def F32 : Nat → (N43) → Option ((N43) × (Bool))
  | 0, _ => none
  | n + 1, a0 => (F13 n a0.p1).bind fun v1 => F32_L1 n a0 true v1 (0 : Int)
end
set_option maxHeartbeats 4000000 in
theorem F32_okB : ∀ (N n : Nat), n ≤ N → ∀ (a0 : N43) (r : (N43) × (Bool)), F32 n a0 = some r → FnC Try.prog 32 [.agg [.imm (.string (bs a0.p0)), .imm (.string (bs a0.p1)), .sl 3 false (List.map eT43 a0.p2)]] (.tup [.agg [.imm (.string (bs r.1.p0)), .imm (.string (bs r.1.p1)), .sl 3 false (List.map eT43 r.1.p2)], .imm (.bool r.2)]) := by
  intro N
  induction N with
  | zero =>
    intro n hN a0 r h
    obtain rfl : n = 0 := by omega
    first | cases (show (none : Option _) = some _ from h) | (rw [F32] at h; cases h)
  | succ N IH =>
    intro n hN a0 r h
    cases n with
    | zero => first | cases (show (none : Option _) = some _ from h) | (rw [F32] at h; cases h)
    | succ n =>
      rw [F32] at h
      refine FnC.goX mixed Try.func32 (by kernel_rfl) rfl ?_
      simp only [Try.ntmps32, List.length_cons, List.length_nil, List.replicate, List.cons_append, List.nil_append, Nat.reduceAdd, Nat.reduceSub]
      refine runX_seq ?_
      refine runX_regionC fun C hC => ?_
      try simp -implicitDefEqProofs (maxSteps := 4000000) (disch := first | omega | decide | (simp only [go_sem]; omega)) only [go_sem, ↓reduceIte]
      repeat (with_reducible refine And.intro (by first | assumption | omega | (simp; done) | (simp; omega)) ?_)
      refine toEnd hC ?_
      refine endX_seq ?_
      refine runX_seq ?_
      refine runX_regionC fun C hC => ?_
      try simp -implicitDefEqProofs (maxSteps := 4000000) (disch := first | omega | decide | (simp only [go_sem]; omega)) only [go_sem, ↓reduceIte]
      repeat (with_reducible refine And.intro (by first | assumption | omega | (simp; done) | (simp; omega)) ?_)
      refine bldG_of [.imm (.string (bs a0.p0)), .imm (.string (bs [])), .sl 0 true []] (by kernel_rfl) ?_
      try simp -implicitDefEqProofs (maxSteps := 4000000) (disch := first | omega | decide | (simp only [go_sem]; omega)) only [go_sem, ↓reduceIte]
      repeat (with_reducible refine And.intro (by first | assumption | omega | (simp; done) | (simp; omega)) ?_)
      refine toEnd hC ?_
      refine endX_seq ?_
      refine runX_seq ?_
      refine runX_regionC fun C hC => ?_
      try simp -implicitDefEqProofs (maxSteps := 4000000) (disch := first | omega | decide | (simp only [go_sem]; omega)) only [go_sem, ↓reduceIte]
      repeat (with_reducible refine And.intro (by first | assumption | omega | (simp; done) | (simp; omega)) ?_)
      refine toEnd hC ?_
      refine endX_seq ?_
      refine runX_seq ?_
      refine runX_regionC fun C hC => ?_
      obtain ⟨v1, h1, h⟩ := bnd_some h
      try simp -implicitDefEqProofs (maxSteps := 4000000) (disch := first | omega | decide | (simp only [go_sem]; omega)) only [go_sem, ↓reduceIte]
      repeat (with_reducible refine And.intro (by first | assumption | omega | (simp; done) | (simp; omega)) ?_)
      refine callG_X (by first | rfl | (simp only [go_sem]; done) | (simp only [closedL, closedT, Bool.and_true]; exact closedL_map _ (fun _ => by first | rfl | (simp only [go_sem]; done)) _)) (F13_ok n a0.p1 _ h1) (by repeat (first | exact leL_refl _ | refine leL_cons (by first | exact leT_refl _ | exact leT_virt | exact leT_junk _ | exact leT_sl | exact leT_sln | exact leT_nil | (refine leT_agg (by repeat (first | exact leL_refl _ | refine leL_cons (by first | exact leT_refl _ | exact leT_sl | exact leT_sln | exact leT_nil) ?_)))) ?_)) ?_
      try simp -implicitDefEqProofs (maxSteps := 4000000) (disch := first | omega | decide | (simp only [go_sem]; omega)) only [go_sem, ↓reduceIte]
      repeat (with_reducible refine And.intro (by first | assumption | omega | (simp; done) | (simp; omega)) ?_)
      refine toEnd hC ?_
      refine endX_seq ?_
      refine runX_seq ?_
      refine runX_seq ?_
      refine runX_regionC fun C hC => ?_
      try simp -implicitDefEqProofs (maxSteps := 4000000) (disch := first | omega | decide | (simp only [go_sem]; omega)) only [go_sem, ↓reduceIte]
      repeat (with_reducible refine And.intro (by first | assumption | omega | (simp; done) | (simp; omega)) ?_)
      refine toEnd hC ?_
      refine endX_seq ?_
      refine runX_block ?_
      refine runX_loop [1, 2, 4, 5, 6, 7] (fun m S => ∃ (x2 : Bool) (x3 : Bool) (x4 : Int), S = F32_S1 a0 x2 x3 x4 ∧ m ≤ n ∧ F32_L1 m a0 x2 x3 x4 = some r) n ⟨F32_S1 a0 true v1 (0 : Int), ?_, true, v1, (0 : Int), rfl, Nat.le_refl _, h⟩ ?_
      · simp only [F32_S1]
        (try simp -implicitDefEqProofs (maxSteps := 4000000) (disch := first | omega | decide | (simp only [go_sem]; omega)) only [go_sem, ↓reduceIte])
        first | exact leS_refl _ | (refine leS_le ?_ ?_ <;> first | exact leL_refl _ | exact leOs_refl _ | (repeat (first | exact leL_refl _ | refine leL_cons (by first | exact leT_refl _ | exact leT_virt | exact leT_junk _ | exact leT_sl | exact leT_sln | exact leT_nil | (refine leT_agg (by repeat (first | exact leL_refl _ | refine leL_cons (by first | exact leT_refl _ | exact leT_sl | exact leT_sln | exact leT_nil) ?_)))) ?_)))
      · clear h
        rintro m1 S ⟨x2, x3, x4, rfl, hm1, h⟩
        cases m1 with
        | zero => first | cases (show (none : Option _) = some _ from h) | (rw [F32_L1] at h; cases h)
        | succ m1 =>
          rw [F32_L1] at h
          simp only [F32_S1]
          refine runX_seq ?_
          refine runX_seq ?_
          refine runX_regionC fun C hC => ?_
          try simp -implicitDefEqProofs (maxSteps := 4000000) (disch := first | omega | decide | (simp only [go_sem]; omega)) only [go_sem, ↓reduceIte]
          repeat (with_reducible refine And.intro (by first | assumption | omega | (simp; done) | (simp; omega)) ?_)
          refine toEnd hC ?_
          refine endX_seq ?_
          rcases iteB_some h with ⟨c5, h⟩ | ⟨c5, h⟩
          · refine runX_condT rfl c5 ?_
            refine runX_skip ?_
            refine endX_seq ?_
            refine runX_seq ?_
            refine runX_block ?_
            refine runX_seq ?_
            refine runX_regionC fun C hC => ?_
            obtain ⟨g6, h⟩ := grd_some h
            try simp -implicitDefEqProofs (maxSteps := 4000000) (disch := first | omega | decide | (simp only [go_sem]; omega)) only [go_sem, ↓reduceIte]
            repeat (with_reducible refine And.intro (by first | assumption | omega | (simp; done) | (simp; omega)) ?_)
            refine toEnd hC ?_
            refine endX_seq ?_
            refine runX_meet [1, 2, 4, 5, 6, 7, 8] (fun S => ∃ (x10 : Bool), S = F32_S2 x3 x4 a0 x10 ∧ F32_J2 m1 x3 x4 a0 x10 = some r) ?_ ?_
            · refine runX_regionC fun C hC => ?_
              try simp -implicitDefEqProofs (maxSteps := 4000000) (disch := first | omega | decide | (simp only [go_sem]; omega)) only [go_sem, ↓reduceIte]
              repeat (with_reducible refine And.intro (by first | assumption | omega | (simp; done) | (simp; omega)) ?_)
              rcases iteB_some h with ⟨c7, h⟩ | ⟨c7, h⟩
              · refine guardK_T c7 ?_
                try simp -implicitDefEqProofs (maxSteps := 4000000) (disch := first | omega | decide | (simp only [go_sem]; omega)) only [go_sem, ↓reduceIte]
                repeat (with_reducible refine And.intro (by first | assumption | omega | (simp; done) | (simp; omega)) ?_)
                rcases iteB_some h with ⟨c8, h⟩ | ⟨c8, h⟩
                · refine guardK_F c8 ?_
                  try simp -implicitDefEqProofs (maxSteps := 4000000) (disch := first | omega | decide | (simp only [go_sem]; omega)) only [go_sem, ↓reduceIte]
                  repeat (with_reducible refine And.intro (by first | assumption | omega | (simp; done) | (simp; omega)) ?_)
                  refine toEnd hC ?_
                  refine endX_q (meetQ_normal ⟨F32_S2 x3 x4 a0 true, ?_, true, rfl, h⟩)
                  simp only [F32_S2]
                  (try simp -implicitDefEqProofs (maxSteps := 4000000) (disch := first | omega | decide | (simp only [go_sem]; omega)) only [go_sem, ↓reduceIte])
                  first | exact leS_refl _ | (refine leS_le ?_ ?_ <;> first | exact leL_refl _ | exact leOs_refl _ | (repeat (first | exact leL_refl _ | refine leL_cons (by first | exact leT_refl _ | exact leT_virt | exact leT_junk _ | exact leT_sl | exact leT_sln | exact leT_nil | (refine leT_agg (by repeat (first | exact leL_refl _ | refine leL_cons (by first | exact leT_refl _ | exact leT_sl | exact leT_sln | exact leT_nil) ?_)))) ?_)))
                · refine guardK_T c8 ?_
                  try simp -implicitDefEqProofs (maxSteps := 4000000) (disch := first | omega | decide | (simp only [go_sem]; omega)) only [go_sem, ↓reduceIte]
                  repeat (with_reducible refine And.intro (by first | assumption | omega | (simp; done) | (simp; omega)) ?_)
                  rcases iteB_some h with ⟨c9, h⟩ | ⟨c9, h⟩
                  · refine guardK_F c9 ?_
                    try simp -implicitDefEqProofs (maxSteps := 4000000) (disch := first | omega | decide | (simp only [go_sem]; omega)) only [go_sem, ↓reduceIte]
                    repeat (with_reducible refine And.intro (by first | assumption | omega | (simp; done) | (simp; omega)) ?_)
                    refine toEnd hC ?_
                    refine endX_q (meetQ_normal ⟨F32_S2 x3 x4 a0 true, ?_, true, rfl, h⟩)
                    simp only [F32_S2]
                    (try simp -implicitDefEqProofs (maxSteps := 4000000) (disch := first | omega | decide | (simp only [go_sem]; omega)) only [go_sem, ↓reduceIte])
                    first | exact leS_refl _ | (refine leS_le ?_ ?_ <;> first | exact leL_refl _ | exact leOs_refl _ | (repeat (first | exact leL_refl _ | refine leL_cons (by first | exact leT_refl _ | exact leT_virt | exact leT_junk _ | exact leT_sl | exact leT_sln | exact leT_nil | (refine leT_agg (by repeat (first | exact leL_refl _ | refine leL_cons (by first | exact leT_refl _ | exact leT_sl | exact leT_sln | exact leT_nil) ?_)))) ?_)))
                  · refine guardK_T c9 ?_
                    try simp -implicitDefEqProofs (maxSteps := 4000000) (disch := first | omega | decide | (simp only [go_sem]; omega)) only [go_sem, ↓reduceIte]
                    repeat (with_reducible refine And.intro (by first | assumption | omega | (simp; done) | (simp; omega)) ?_)
                    refine toEnd hC ?_
                    refine endX_q (meetQ_normal ⟨F32_S2 x3 x4 a0 (((a0.p1.getD x4.toNat 0).toNat : Int) == (32 : Int)), ?_, (((a0.p1.getD x4.toNat 0).toNat : Int) == (32 : Int)), rfl, h⟩)
                    simp only [F32_S2]
                    (try simp -implicitDefEqProofs (maxSteps := 4000000) (disch := first | omega | decide | (simp only [go_sem]; omega)) only [go_sem, ↓reduceIte])
                    first | exact leS_refl _ | (refine leS_le ?_ ?_ <;> first | exact leL_refl _ | exact leOs_refl _ | (repeat (first | exact leL_refl _ | refine leL_cons (by first | exact leT_refl _ | exact leT_virt | exact leT_junk _ | exact leT_sl | exact leT_sln | exact leT_nil | (refine leT_agg (by repeat (first | exact leL_refl _ | refine leL_cons (by first | exact leT_refl _ | exact leT_sl | exact leT_sln | exact leT_nil) ?_)))) ?_)))
              · refine guardK_F c7 ?_
                try simp -implicitDefEqProofs (maxSteps := 4000000) (disch := first | omega | decide | (simp only [go_sem]; omega)) only [go_sem, ↓reduceIte]
                repeat (with_reducible refine And.intro (by first | assumption | omega | (simp; done) | (simp; omega)) ?_)
                refine toEnd hC ?_
                refine endX_q (meetQ_normal ⟨F32_S2 x3 x4 a0 false, ?_, false, rfl, h⟩)
                simp only [F32_S2]
                (try simp -implicitDefEqProofs (maxSteps := 4000000) (disch := first | omega | decide | (simp only [go_sem]; omega)) only [go_sem, ↓reduceIte])
                first | exact leS_refl _ | (refine leS_le ?_ ?_ <;> first | exact leL_refl _ | exact leOs_refl _ | (repeat (first | exact leL_refl _ | refine leL_cons (by first | exact leT_refl _ | exact leT_virt | exact leT_junk _ | exact leT_sl | exact leT_sln | exact leT_nil | (refine leT_agg (by repeat (first | exact leL_refl _ | refine leL_cons (by first | exact leT_refl _ | exact leT_sl | exact leT_sln | exact leT_nil) ?_)))) ?_)))
            · clear h
              rintro S ⟨x10, rfl, h⟩
              rw [F32_J2] at h
              simp only [F32_S2]
              refine runX_regionC fun C hC => ?_
              try simp -implicitDefEqProofs (maxSteps := 4000000) (disch := first | omega | decide | (simp only [go_sem]; omega)) only [go_sem, ↓reduceIte]
              repeat (with_reducible refine And.intro (by first | assumption | omega | (simp; done) | (simp; omega)) ?_)
              rcases iteB_some h with ⟨c11, h⟩ | ⟨c11, h⟩
              · refine guardK_T c11 ?_
                try simp -implicitDefEqProofs (maxSteps := 4000000) (disch := first | omega | decide | (simp only [go_sem]; omega)) only [go_sem, ↓reduceIte]
                repeat (with_reducible refine And.intro (by first | assumption | omega | (simp; done) | (simp; omega)) ?_)
                rcases iteB_some h with ⟨c12, h⟩ | ⟨c12, h⟩
                · refine guardK_F c12 ?_
                  try simp -implicitDefEqProofs (maxSteps := 4000000) (disch := first | omega | decide | (simp only [go_sem]; omega)) only [go_sem, ↓reduceIte]
                  repeat (with_reducible refine And.intro (by first | assumption | omega | (simp; done) | (simp; omega)) ?_)
                  refine toEnd hC ?_
                  refine endX_blk ?_
                  refine endX_seq ?_
                  refine runX_regionC fun C hC => ?_
                  try simp -implicitDefEqProofs (maxSteps := 4000000) (disch := first | omega | decide | (simp only [go_sem]; omega)) only [go_sem, ↓reduceIte]
                  repeat (with_reducible refine And.intro (by first | assumption | omega | (simp; done) | (simp; omega)) ?_)
                  refine toEnd hC ?_
                  refine endX_q (roundQ_normal ⟨m1, by omega, F32_S1 a0 x10 (((a0.p1.getD x4.toNat 0).toNat : Int) != (239 : Int)) (IntKind.wrap .i64 (x4 + (1 : Int))), ?_, x10, (((a0.p1.getD x4.toNat 0).toNat : Int) != (239 : Int)), (IntKind.wrap .i64 (x4 + (1 : Int))), rfl, by omega, h⟩)
                  simp only [F32_S1]
                  (try simp -implicitDefEqProofs (maxSteps := 4000000) (disch := first | omega | decide | (simp only [go_sem]; omega)) only [go_sem, ↓reduceIte])
                  first | exact leS_refl _ | (refine leS_le ?_ ?_ <;> first | exact leL_refl _ | exact leOs_refl _ | (repeat (first | exact leL_refl _ | refine leL_cons (by first | exact leT_refl _ | exact leT_virt | exact leT_junk _ | exact leT_sl | exact leT_sln | exact leT_nil | (refine leT_agg (by repeat (first | exact leL_refl _ | refine leL_cons (by first | exact leT_refl _ | exact leT_sl | exact leT_sln | exact leT_nil) ?_)))) ?_)))
                · refine guardK_T c12 ?_
                  try simp -implicitDefEqProofs (maxSteps := 4000000) (disch := first | omega | decide | (simp only [go_sem]; omega)) only [go_sem, ↓reduceIte]
                  repeat (with_reducible refine And.intro (by first | assumption | omega | (simp; done) | (simp; omega)) ?_)
                  rcases iteB_some h with ⟨c13, h⟩ | ⟨c13, h⟩
                  · refine guardK_F c13 ?_
                    try simp -implicitDefEqProofs (maxSteps := 4000000) (disch := first | omega | decide | (simp only [go_sem]; omega)) only [go_sem, ↓reduceIte]
                    repeat (with_reducible refine And.intro (by first | assumption | omega | (simp; done) | (simp; omega)) ?_)
                    refine toEnd hC ?_
                    refine endX_blk ?_
                    refine endX_seq ?_
                    refine runX_regionC fun C hC => ?_
                    try simp -implicitDefEqProofs (maxSteps := 4000000) (disch := first | omega | decide | (simp only [go_sem]; omega)) only [go_sem, ↓reduceIte]
                    repeat (with_reducible refine And.intro (by first | assumption | omega | (simp; done) | (simp; omega)) ?_)
                    refine toEnd hC ?_
                    refine endX_q (roundQ_normal ⟨m1, by omega, F32_S1 a0 x10 (((a0.p1.getD x4.toNat 0).toNat : Int) != (239 : Int)) (IntKind.wrap .i64 (x4 + (1 : Int))), ?_, x10, (((a0.p1.getD x4.toNat 0).toNat : Int) != (239 : Int)), (IntKind.wrap .i64 (x4 + (1 : Int))), rfl, by omega, h⟩)
                    simp only [F32_S1]
                    (try simp -implicitDefEqProofs (maxSteps := 4000000) (disch := first | omega | decide | (simp only [go_sem]; omega)) only [go_sem, ↓reduceIte])
                    first | exact leS_refl _ | (refine leS_le ?_ ?_ <;> first | exact leL_refl _ | exact leOs_refl _ | (repeat (first | exact leL_refl _ | refine leL_cons (by first | exact leT_refl _ | exact leT_virt | exact leT_junk _ | exact leT_sl | exact leT_sln | exact leT_nil | (refine leT_agg (by repeat (first | exact leL_refl _ | refine leL_cons (by first | exact leT_refl _ | exact leT_sl | exact leT_sln | exact leT_nil) ?_)))) ?_)))
                  · refine guardK_T c13 ?_
                    try simp -implicitDefEqProofs (maxSteps := 4000000) (disch := first | omega | decide | (simp only [go_sem]; omega)) only [go_sem, ↓reduceIte]
                    repeat (with_reducible refine And.intro (by first | assumption | omega | (simp; done) | (simp; omega)) ?_)
                    rcases iteB_some h with ⟨c14, h⟩ | ⟨c14, h⟩
                    · refine guardK_F c14 ?_
                      try simp -implicitDefEqProofs (maxSteps := 4000000) (disch := first | omega | decide | (simp only [go_sem]; omega)) only [go_sem, ↓reduceIte]
                      repeat (with_reducible refine And.intro (by first | assumption | omega | (simp; done) | (simp; omega)) ?_)
                      refine toEnd hC ?_
                      refine endX_blk ?_
                      refine endX_seq ?_
                      refine runX_regionC fun C hC => ?_
                      try simp -implicitDefEqProofs (maxSteps := 4000000) (disch := first | omega | decide | (simp only [go_sem]; omega)) only [go_sem, ↓reduceIte]
                      repeat (with_reducible refine And.intro (by first | assumption | omega | (simp; done) | (simp; omega)) ?_)
                      refine toEnd hC ?_
                      refine endX_q (roundQ_normal ⟨m1, by omega, F32_S1 a0 x10 (((a0.p1.getD x4.toNat 0).toNat : Int) != (239 : Int)) (IntKind.wrap .i64 (x4 + (1 : Int))), ?_, x10, (((a0.p1.getD x4.toNat 0).toNat : Int) != (239 : Int)), (IntKind.wrap .i64 (x4 + (1 : Int))), rfl, by omega, h⟩)
                      simp only [F32_S1]
                      (try simp -implicitDefEqProofs (maxSteps := 4000000) (disch := first | omega | decide | (simp only [go_sem]; omega)) only [go_sem, ↓reduceIte])
                      first | exact leS_refl _ | (refine leS_le ?_ ?_ <;> first | exact leL_refl _ | exact leOs_refl _ | (repeat (first | exact leL_refl _ | refine leL_cons (by first | exact leT_refl _ | exact leT_virt | exact leT_junk _ | exact leT_sl | exact leT_sln | exact leT_nil | (refine leT_agg (by repeat (first | exact leL_refl _ | refine leL_cons (by first | exact leT_refl _ | exact leT_sl | exact leT_sln | exact leT_nil) ?_)))) ?_)))
                    · refine guardK_T c14 ?_
                      try simp -implicitDefEqProofs (maxSteps := 4000000) (disch := first | omega | decide | (simp only [go_sem]; omega)) only [go_sem, ↓reduceIte]
                      repeat (with_reducible refine And.intro (by first | assumption | omega | (simp; done) | (simp; omega)) ?_)
                      rcases iteB_some h with ⟨c15, h⟩ | ⟨c15, h⟩
                      · refine guardK_T c15 ?_
                        try simp -implicitDefEqProofs (maxSteps := 4000000) (disch := first | omega | decide | (simp only [go_sem]; omega)) only [go_sem, ↓reduceIte]
                        repeat (with_reducible refine And.intro (by first | assumption | omega | (simp; done) | (simp; omega)) ?_)
                        refine toEnd hC ?_
                        refine endX_blk ?_
                        refine endX_seq ?_
                        refine runX_regionC fun C hC => ?_
                        try simp -implicitDefEqProofs (maxSteps := 4000000) (disch := first | omega | decide | (simp only [go_sem]; omega)) only [go_sem, ↓reduceIte]
                        repeat (with_reducible refine And.intro (by first | assumption | omega | (simp; done) | (simp; omega)) ?_)
                        refine toEnd hC ?_
                        refine endX_q (roundQ_normal ⟨m1, by omega, F32_S1 a0 x10 (((a0.p1.getD x4.toNat 0).toNat : Int) != (239 : Int)) (IntKind.wrap .i64 (x4 + (1 : Int))), ?_, x10, (((a0.p1.getD x4.toNat 0).toNat : Int) != (239 : Int)), (IntKind.wrap .i64 (x4 + (1 : Int))), rfl, by omega, h⟩)
                        simp only [F32_S1]
                        (try simp -implicitDefEqProofs (maxSteps := 4000000) (disch := first | omega | decide | (simp only [go_sem]; omega)) only [go_sem, ↓reduceIte])
                        first | exact leS_refl _ | (refine leS_le ?_ ?_ <;> first | exact leL_refl _ | exact leOs_refl _ | (repeat (first | exact leL_refl _ | refine leL_cons (by first | exact leT_refl _ | exact leT_virt | exact leT_junk _ | exact leT_sl | exact leT_sln | exact leT_nil | (refine leT_agg (by repeat (first | exact leL_refl _ | refine leL_cons (by first | exact leT_refl _ | exact leT_sl | exact leT_sln | exact leT_nil) ?_)))) ?_)))
                      · refine guardK_F c15 ?_
                        try simp -implicitDefEqProofs (maxSteps := 4000000) (disch := first | omega | decide | (simp only [go_sem]; omega)) only [go_sem, ↓reduceIte]
                        repeat (with_reducible refine And.intro (by first | assumption | omega | (simp; done) | (simp; omega)) ?_)
                        refine toEnd hC ?_
                        refine endX_blk ?_
                        refine endX_seq ?_
                        refine runX_regionC fun C hC => ?_
                        try simp -implicitDefEqProofs (maxSteps := 4000000) (disch := first | omega | decide | (simp only [go_sem]; omega)) only [go_sem, ↓reduceIte]
                        repeat (with_reducible refine And.intro (by first | assumption | omega | (simp; done) | (simp; omega)) ?_)
                        refine toEnd hC ?_
                        refine endX_q (roundQ_normal ⟨m1, by omega, F32_S1 a0 x10 false (IntKind.wrap .i64 (x4 + (1 : Int))), ?_, x10, false, (IntKind.wrap .i64 (x4 + (1 : Int))), rfl, by omega, h⟩)
                        simp only [F32_S1]
                        (try simp -implicitDefEqProofs (maxSteps := 4000000) (disch := first | omega | decide | (simp only [go_sem]; omega)) only [go_sem, ↓reduceIte])
                        first | exact leS_refl _ | (refine leS_le ?_ ?_ <;> first | exact leL_refl _ | exact leOs_refl _ | (repeat (first | exact leL_refl _ | refine leL_cons (by first | exact leT_refl _ | exact leT_virt | exact leT_junk _ | exact leT_sl | exact leT_sln | exact leT_nil | (refine leT_agg (by repeat (first | exact leL_refl _ | refine leL_cons (by first | exact leT_refl _ | exact leT_sl | exact leT_sln | exact leT_nil) ?_)))) ?_)))
              · refine guardK_F c11 ?_
                try simp -implicitDefEqProofs (maxSteps := 4000000) (disch := first | omega | decide | (simp only [go_sem]; omega)) only [go_sem, ↓reduceIte]
                repeat (with_reducible refine And.intro (by first | assumption | omega | (simp; done) | (simp; omega)) ?_)
                refine toEnd hC ?_
                refine endX_blk ?_
                refine endX_seq ?_
                refine runX_regionC fun C hC => ?_
                try simp -implicitDefEqProofs (maxSteps := 4000000) (disch := first | omega | decide | (simp only [go_sem]; omega)) only [go_sem, ↓reduceIte]
                repeat (with_reducible refine And.intro (by first | assumption | omega | (simp; done) | (simp; omega)) ?_)
                refine toEnd hC ?_
                refine endX_q (roundQ_normal ⟨m1, by omega, F32_S1 a0 x10 false (IntKind.wrap .i64 (x4 + (1 : Int))), ?_, x10, false, (IntKind.wrap .i64 (x4 + (1 : Int))), rfl, by omega, h⟩)
                simp only [F32_S1]
                (try simp -implicitDefEqProofs (maxSteps := 4000000) (disch := first | omega | decide | (simp only [go_sem]; omega)) only [go_sem, ↓reduceIte])
                first | exact leS_refl _ | (refine leS_le ?_ ?_ <;> first | exact leL_refl _ | exact leOs_refl _ | (repeat (first | exact leL_refl _ | refine leL_cons (by first | exact leT_refl _ | exact leT_virt | exact leT_junk _ | exact leT_sl | exact leT_sln | exact leT_nil | (refine leT_agg (by repeat (first | exact leL_refl _ | refine leL_cons (by first | exact leT_refl _ | exact leT_sl | exact leT_sln | exact leT_nil) ?_)))) ?_)))
          · refine runX_condF rfl c5 ?_
            refine runX_exit ?_
            refine endX_seqE ?_
            refine endX_q (roundQ_exit ?_)
            refine endX_blkE ?_
            refine endX_seq ?_
            refine runX_meet [1, 2, 4, 6] (fun S => ∃ (x17 : List UInt8), S = F32_S3 x3 a0 x17 ∧ F32_J3 m1 x3 a0 x17 = some r) ?_ ?_
            · refine runX_seq ?_
              refine runX_regionC fun C hC => ?_
              try simp -implicitDefEqProofs (maxSteps := 4000000) (disch := first | omega | decide | (simp only [go_sem]; omega)) only [go_sem, ↓reduceIte]
              repeat (with_reducible refine And.intro (by first | assumption | omega | (simp; done) | (simp; omega)) ?_)
              refine toEnd hC ?_
              refine endX_seq ?_
              rcases iteB_some h with ⟨c16, h⟩ | ⟨c16, h⟩
              · refine runX_condT rfl c16 ?_
                refine runX_regionC fun C hC => ?_
                try simp -implicitDefEqProofs (maxSteps := 4000000) (disch := first | omega | decide | (simp only [go_sem]; omega)) only [go_sem, ↓reduceIte]
                repeat (with_reducible refine And.intro (by first | assumption | omega | (simp; done) | (simp; omega)) ?_)
                refine toEnd hC ?_
                refine endX_q (meetQ_normal ⟨F32_S3 x3 a0 a0.p1, ?_, a0.p1, rfl, h⟩)
                simp only [F32_S3]
                (try simp -implicitDefEqProofs (maxSteps := 4000000) (disch := first | omega | decide | (simp only [go_sem]; omega)) only [go_sem, ↓reduceIte])
                first | exact leS_refl _ | (refine leS_le ?_ ?_ <;> first | exact leL_refl _ | exact leOs_refl _ | (repeat (first | exact leL_refl _ | refine leL_cons (by first | exact leT_refl _ | exact leT_virt | exact leT_junk _ | exact leT_sl | exact leT_sln | exact leT_nil | (refine leT_agg (by repeat (first | exact leL_refl _ | refine leL_cons (by first | exact leT_refl _ | exact leT_sl | exact leT_sln | exact leT_nil) ?_)))) ?_)))
              · refine runX_condF rfl c16 ?_
                refine runX_skip ?_
                refine endX_q (meetQ_normal ⟨F32_S3 x3 a0 [], ?_, [], rfl, h⟩)
                simp only [F32_S3]
                (try simp -implicitDefEqProofs (maxSteps := 4000000) (disch := first | omega | decide | (simp only [go_sem]; omega)) only [go_sem, ↓reduceIte])
                first | exact leS_refl _ | (refine leS_le ?_ ?_ <;> first | exact leL_refl _ | exact leOs_refl _ | (repeat (first | exact leL_refl _ | refine leL_cons (by first | exact leT_refl _ | exact leT_virt | exact leT_junk _ | exact leT_sl | exact leT_sln | exact leT_nil | (refine leT_agg (by repeat (first | exact leL_refl _ | refine leL_cons (by first | exact leT_refl _ | exact leT_sl | exact leT_sln | exact leT_nil) ?_)))) ?_)))
            · clear h
              rintro S ⟨x17, rfl, h⟩
              rw [F32_J3] at h
              simp only [F32_S3]
              refine runX_seq ?_
              refine runX_seq ?_
              refine runX_regionC fun C hC => ?_
              try simp -implicitDefEqProofs (maxSteps := 4000000) (disch := first | omega | decide | (simp only [go_sem]; omega)) only [go_sem, ↓reduceIte]
              repeat (with_reducible refine And.intro (by first | assumption | omega | (simp; done) | (simp; omega)) ?_)
              refine toEnd hC ?_
              refine endX_seq ?_
              refine runX_block ?_
              refine runX_loop [1, 2, 4, 6, 9] (fun m S => ∃ (x18 : Bool) (x19 : Int) (x20 : List (N43)), S = F32_S4 a0 x17 x18 x19 x20 ∧ m ≤ m1 ∧ F32_L4 m a0 x17 x18 x19 x20 = some r) m1 ⟨F32_S4 a0 x17 x3 (0 : Int) [], ?_, x3, (0 : Int), [], rfl, Nat.le_refl _, h⟩ ?_
              · (try simp -implicitDefEqProofs (maxSteps := 4000000) (disch := first | omega | decide | (simp only [go_sem]; omega)) only [go_sem, ↓reduceIte])
                simp only [F32_S4]
                refine leS_trans (leS_pad _ _ 1) ?_
                simp only [List.replicate, List.cons_append, List.nil_append]
                refine leS_virt 3 44 3 rfl ?_ ?_ rfl
                · repeat (first | exact leL_refl _ | refine leL_cons (by first | exact leT_refl _ | exact leT_virt | exact leT_junk _ | exact leT_sl | exact leT_sln | exact leT_nil | (refine leT_agg (by repeat (first | exact leL_refl _ | refine leL_cons (by first | exact leT_refl _ | exact leT_sl | exact leT_sln | exact leT_nil) ?_)))) ?_)
                · repeat (first | exact leOs_refl _ | refine leOs.cons (by first | exact leO.same _ | (refine leO.box (leT_agg (by repeat (first | exact leL_refl _ | refine leL_cons (by first | exact leT_refl _ | exact leT_virt | exact leT_junk _ | exact leT_sl | exact leT_sln | exact leT_nil | (refine leT_agg (by repeat (first | exact leL_refl _ | refine leL_cons (by first | exact leT_refl _ | exact leT_sl | exact leT_sln | exact leT_nil) ?_)))) ?_))) rfl)) ?_)
              · clear h
                rintro m4 S ⟨x18, x19, x20, rfl, hm4, h⟩
                cases m4 with
                | zero => first | cases (show (none : Option _) = some _ from h) | (rw [F32_L4] at h; cases h)
                | succ m4 =>
                  rw [F32_L4] at h
                  simp only [F32_S4]
                  refine runX_seq ?_
                  refine runX_seq ?_
                  refine runX_regionC fun C hC => ?_
                  try simp -implicitDefEqProofs (maxSteps := 4000000) (disch := first | omega | decide | (simp only [go_sem]; omega)) only [go_sem, ↓reduceIte]
                  repeat (with_reducible refine And.intro (by first | assumption | omega | (simp; done) | (simp; omega)) ?_)
                  refine toEnd hC ?_
                  refine endX_seq ?_
                  rcases iteB_some h with ⟨c21, h⟩ | ⟨c21, h⟩
                  · refine runX_condT rfl c21 ?_
                    refine runX_skip ?_
                    refine endX_seq ?_
                    refine runX_seq ?_
                    refine runX_block ?_
                    refine runX_seq ?_
                    refine runX_regionC fun C hC => ?_
                    obtain ⟨g22, h⟩ := grd_some h
                    obtain ⟨v23, h23, h⟩ := bnd_some h
                    try simp -implicitDefEqProofs (maxSteps := 4000000) (disch := first | omega | decide | (simp only [go_sem]; omega)) only [go_sem, ↓reduceIte]
                    repeat (with_reducible refine And.intro (by first | assumption | omega | (simp; done) | (simp; omega)) ?_)
                    refine callG_X (by first | rfl | (simp only [go_sem]; done) | (simp only [closedL, closedT, Bool.and_true]; exact closedL_map _ (fun _ => by first | rfl | (simp only [go_sem]; done)) _)) (IH m4 (by omega) (a0.p2.getD x19.toNat default) _ h23) (by repeat (first | exact leL_refl _ | refine leL_cons (by first | exact leT_refl _ | exact leT_virt | exact leT_junk _ | exact leT_sl | exact leT_sln | exact leT_nil | (refine leT_agg (by repeat (first | exact leL_refl _ | refine leL_cons (by first | exact leT_refl _ | exact leT_sl | exact leT_sln | exact leT_nil) ?_)))) ?_)) ?_
                    try simp -implicitDefEqProofs (maxSteps := 4000000) (disch := first | omega | decide | (simp only [go_sem]; omega)) only [go_sem, ↓reduceIte]
                    repeat (with_reducible refine And.intro (by first | assumption | omega | (simp; done) | (simp; omega)) ?_)
                    refine toEnd hC ?_
                    refine endX_seq ?_
                    refine runX_seq ?_
                    refine runX_regionC fun C hC => ?_
                    try simp -implicitDefEqProofs (maxSteps := 4000000) (disch := first | omega | decide | (simp only [go_sem]; omega)) only [go_sem, ↓reduceIte]
                    repeat (with_reducible refine And.intro (by first | assumption | omega | (simp; done) | (simp; omega)) ?_)
                    refine bs_go <| buildX_val ?_
                    obtain ⟨g24, h⟩ := grd_some h
                    try simp -implicitDefEqProofs (maxSteps := 4000000) (disch := first | omega | decide | (simp only [go_sem]; omega)) only [go_sem, ↓reduceIte]
                    repeat (with_reducible refine And.intro (by first | assumption | omega | (simp; done) | (simp; omega)) ?_)
                    refine toEnd hC ?_
                    refine endX_seq ?_
                    refine runX_regionC fun C hC => ?_
                    try simp -implicitDefEqProofs (maxSteps := 4000000) (disch := first | omega | decide | (simp only [go_sem]; omega)) only [go_sem, ↓reduceIte]
                    repeat (with_reducible refine And.intro (by first | assumption | omega | (simp; done) | (simp; omega)) ?_)
                    rcases iteB_some h with ⟨c25, h⟩ | ⟨c25, h⟩
                    · refine guardK_T c25 ?_
                      try simp -implicitDefEqProofs (maxSteps := 4000000) (disch := first | omega | decide | (simp only [go_sem]; omega)) only [go_sem, ↓reduceIte]
                      repeat (with_reducible refine And.intro (by first | assumption | omega | (simp; done) | (simp; omega)) ?_)
                      refine toEnd hC ?_
                      refine endX_blk ?_
                      refine endX_seq ?_
                      refine runX_regionC fun C hC => ?_
                      try simp -implicitDefEqProofs (maxSteps := 4000000) (disch := first | omega | decide | (simp only [go_sem]; omega)) only [go_sem, ↓reduceIte]
                      repeat (with_reducible refine And.intro (by first | assumption | omega | (simp; done) | (simp; omega)) ?_)
                      refine toEnd hC ?_
                      refine endX_q (roundQ_normal ⟨m4, by omega, F32_S4 a0 x17 v23.2 (IntKind.wrap .i64 (x19 + (1 : Int))) (x20 ++ [v23.1]), ?_, v23.2, (IntKind.wrap .i64 (x19 + (1 : Int))), (x20 ++ [v23.1]), rfl, by omega, h⟩)
                      simp only [F32_S4]
                      (try simp -implicitDefEqProofs (maxSteps := 4000000) (disch := first | omega | decide | (simp only [go_sem]; omega)) only [go_sem, ↓reduceIte])
                      first | exact leS_refl _ | (refine leS_le ?_ ?_ <;> first | exact leL_refl _ | exact leOs_refl _ | (repeat (first | exact leL_refl _ | refine leL_cons (by first | exact leT_refl _ | exact leT_virt | exact leT_junk _ | exact leT_sl | exact leT_sln | exact leT_nil | (refine leT_agg (by repeat (first | exact leL_refl _ | refine leL_cons (by first | exact leT_refl _ | exact leT_sl | exact leT_sln | exact leT_nil) ?_)))) ?_)))
                    · refine guardK_F c25 ?_
                      try simp -implicitDefEqProofs (maxSteps := 4000000) (disch := first | omega | decide | (simp only [go_sem]; omega)) only [go_sem, ↓reduceIte]
                      repeat (with_reducible refine And.intro (by first | assumption | omega | (simp; done) | (simp; omega)) ?_)
                      refine toEnd hC ?_
                      refine endX_blk ?_
                      refine endX_seq ?_
                      refine runX_regionC fun C hC => ?_
                      try simp -implicitDefEqProofs (maxSteps := 4000000) (disch := first | omega | decide | (simp only [go_sem]; omega)) only [go_sem, ↓reduceIte]
                      repeat (with_reducible refine And.intro (by first | assumption | omega | (simp; done) | (simp; omega)) ?_)
                      refine toEnd hC ?_
                      refine endX_q (roundQ_normal ⟨m4, by omega, F32_S4 a0 x17 false (IntKind.wrap .i64 (x19 + (1 : Int))) (x20 ++ [v23.1]), ?_, false, (IntKind.wrap .i64 (x19 + (1 : Int))), (x20 ++ [v23.1]), rfl, by omega, h⟩)
                      simp only [F32_S4]
                      (try simp -implicitDefEqProofs (maxSteps := 4000000) (disch := first | omega | decide | (simp only [go_sem]; omega)) only [go_sem, ↓reduceIte])
                      first | exact leS_refl _ | (refine leS_le ?_ ?_ <;> first | exact leL_refl _ | exact leOs_refl _ | (repeat (first | exact leL_refl _ | refine leL_cons (by first | exact leT_refl _ | exact leT_virt | exact leT_junk _ | exact leT_sl | exact leT_sln | exact leT_nil | (refine leT_agg (by repeat (first | exact leL_refl _ | refine leL_cons (by first | exact leT_refl _ | exact leT_sl | exact leT_sln | exact leT_nil) ?_)))) ?_)))
                  · refine runX_condF rfl c21 ?_
                    refine runX_exit ?_
                    refine endX_seqE ?_
                    refine endX_q (roundQ_exit ?_)
                    refine endX_blkE ?_
                    refine endX_seq ?_
                    refine runX_seq ?_
                    refine runX_regionC fun C hC => ?_
                    try simp -implicitDefEqProofs (maxSteps := 4000000) (disch := first | omega | decide | (simp only [go_sem]; omega)) only [go_sem, ↓reduceIte]
                    repeat (with_reducible refine And.intro (by first | assumption | omega | (simp; done) | (simp; omega)) ?_)
                    refine toEnd hC ?_
                    refine endX_seq ?_
                    refine runX_ret ?_
                    refine endX_q ?_
                    obtain rfl := Option.some.inj h
                    show RetW _ _ _ _ _
                    simp only [RetW]
                    (try simp -implicitDefEqProofs (maxSteps := 4000000) (disch := first | omega | decide | (simp only [go_sem]; omega)) only [go_sem, ↓reduceIte])
                    (try simp (disch := omega) only [if_pos, Nat.sub_zero])
                    exact leT_refl _
theorem F32_ok : ∀ (n : Nat) (a0 : N43) (r : (N43) × (Bool)), F32 n a0 = some r → FnC Try.prog 32 [.agg [.imm (.string (bs a0.p0)), .imm (.string (bs a0.p1)), .sl 3 false (List.map eT43 a0.p2)]] (.tup [.agg [.imm (.string (bs r.1.p0)), .imm (.string (bs r.1.p1)), .sl 3 false (List.map eT43 r.1.p2)], .imm (.bool r.2)]) := fun n => F32_okB n n (Nat.le_refl n)
end Go.Proofs.YtbamlphgolldlaaX

set_option linter.unusedVariables false
set_option linter.unusedSimpArgs false
namespace Go.Proofs.YtbamlphgolldlaaX
open Go Go.RowKit Go.Proofs
set_option maxRecDepth 100000
attribute [local go_sem ↓] stepsK_build stepsK_build0 stepsK_bs stepsK_bs0 appendS
attribute [local go_sem] String.reduceEq String.reduceNe reduceCtorEq Int.reduceEq Nat.reduceAdd Nat.reduceSub Nat.reduceMul Nat.reduceLT Nat.reduceLeDiff Nat.reduceEqDiff Nat.reduceBEq Int.reduceToNat Int.reduceLT Int.reduceLE Int.reduceGT Int.reduceGE Int.reduceAdd Int.reduceSub Int.reduceMul Int.reduceNeg Int.reduceBEq Int.reduceBNe Int.reducePow Int.reduceDiv Int.reduceMod Int.reduceTDiv Int.reduceTMod Int.reduceNatCast
/-! ### shadowboxlaw35.XmlinTexts -/
def F9_S1 (x3 : List UInt8) : St := ⟨[.imm (.string (bs x3)), .junk, .junk, .junk, .junk, .junk, .junk, .junk, .junk, .junk, .junk, .junk, .junk, .junk, .junk, .junk, .junk, .junk, .junk, .junk, .junk, .junk, .junk, .junk, .junk, .junk, .junk, .junk, .junk, .junk, .junk, .junk, .junk, .junk, .junk, .junk, .junk, .junk, .junk, .junk, .junk, .junk, .junk, .junk, .junk, .junk, .junk, .junk, .junk, .junk, .junk, .junk, .junk, .junk, .junk, .junk, .junk, .junk, .junk, .junk], []⟩
def F9_J1 (n : Nat) (x3 : List UInt8) : Option (Bool) := (F12 n x3).bind fun v4 => (F31 n v4).bind fun v5 => (F32 n (N43.mk [] x3 [])).bind fun v6 => grd (1 + x3.length ≤ 9223372036854775807) ((F31 n (([38] : List UInt8) ++ x3)).bind fun v8 => (F31 n ([38, 108, 116, 59] : List UInt8)).bind fun v9 => iteB v5.2 (iteB (v5.1 == x3) (iteB v9.2 (iteB (!v8.2) (some true) (some (decide ((2 : Int) < (x3.length : Int))))) (some false)) (iteB (!v6.2) (iteB v9.2 (iteB (!v8.2) (some true) (some (decide ((2 : Int) < (x3.length : Int))))) (some false)) (some false))) (some false))
def F9 (n : Nat) (a0 : List UInt8) : Option (Bool) := iteB (decide ((1000 : Int) < (a0.length : Int))) (grd ((1000 : Int) ≤ (a0.length : Int)) (F9_J1 n (a0.take 1000))) (F9_J1 n a0)
set_option maxHeartbeats 4000000 in
theorem F9_ok : ∀ (n : Nat) (a0 : List UInt8) (r : Bool), F9 n a0 = some r → FnC Try.prog 9 [.imm (.string (bs a0))] (.imm (.bool r))
  | n, a0, r, h => by
    unfold F9 at h
    refine FnC.goX mixed Try.func9 (by kernel_rfl) rfl ?_
    simp only [Try.ntmps9, List.length_cons, List.length_nil, List.replicate, List.cons_append, List.nil_append, Nat.reduceAdd, Nat.reduceSub]
    refine runX_seq ?_
    refine runX_regionC fun C hC => ?_
    try simp -implicitDefEqProofs (maxSteps := 4000000) (disch := first | omega | decide | (simp only [go_sem]; omega)) only [go_sem, ↓reduceIte]
    repeat (with_reducible refine And.intro (by first | assumption | omega | (simp; done) | (simp; omega)) ?_)
    refine toEnd hC ?_
    refine endX_seq ?_
    refine runX_meet [0] (fun S => ∃ (x3 : List UInt8), S = F9_S1 x3 ∧ F9_J1 n x3 = some r) ?_ ?_
    · refine runX_seq ?_
      refine runX_regionC fun C hC => ?_
      try simp -implicitDefEqProofs (maxSteps := 4000000) (disch := first | omega | decide | (simp only [go_sem]; omega)) only [go_sem, ↓reduceIte]
      repeat (with_reducible refine And.intro (by first | assumption | omega | (simp; done) | (simp; omega)) ?_)
      refine toEnd hC ?_
      refine endX_seq ?_
      rcases iteB_some h with ⟨c1, h⟩ | ⟨c1, h⟩
      · refine runX_condT rfl c1 ?_
        refine runX_regionC fun C hC => ?_
        obtain ⟨g2, h⟩ := grd_some h
        try simp -implicitDefEqProofs (maxSteps := 4000000) (disch := first | omega | decide | (simp only [go_sem]; omega)) only [go_sem, ↓reduceIte]
        repeat (with_reducible refine And.intro (by first | assumption | omega | (simp; done) | (simp; omega)) ?_)
        refine toEnd hC ?_
        refine endX_q (meetQ_normal ⟨F9_S1 (a0.take 1000), ?_, (a0.take 1000), rfl, h⟩)
        simp only [F9_S1]
        (try simp -implicitDefEqProofs (maxSteps := 4000000) (disch := first | omega | decide | (simp only [go_sem]; omega)) only [go_sem, ↓reduceIte])
        first | exact leS_refl _ | (refine leS_le ?_ ?_ <;> first | exact leL_refl _ | exact leOs_refl _ | (repeat (first | exact leL_refl _ | refine leL_cons (by first | exact leT_refl _ | exact leT_virt | exact leT_junk _ | exact leT_sl | exact leT_sln | exact leT_nil | (refine leT_agg (by repeat (first | exact leL_refl _ | refine leL_cons (by first | exact leT_refl _ | exact leT_sl | exact leT_sln | exact leT_nil) ?_)))) ?_)))
      · refine runX_condF rfl c1 ?_
        refine runX_skip ?_
        refine endX_q (meetQ_normal ⟨F9_S1 a0, ?_, a0, rfl, h⟩)
        simp only [F9_S1]
        (try simp -implicitDefEqProofs (maxSteps := 4000000) (disch := first | omega | decide | (simp only [go_sem]; omega)) only [go_sem, ↓reduceIte])
        first | exact leS_refl _ | (refine leS_le ?_ ?_ <;> first | exact leL_refl _ | exact leOs_refl _ | (repeat (first | exact leL_refl _ | refine leL_cons (by first | exact leT_refl _ | exact leT_virt | exact leT_junk _ | exact leT_sl | exact leT_sln | exact leT_nil | (refine leT_agg (by repeat (first | exact leL_refl _ | refine leL_cons (by first | exact leT_refl _ | exact leT_sl | exact leT_sln | exact leT_nil) ?_)))) ?_)))
    · clear h
      rintro S ⟨x3, rfl, h⟩
      rw [F9_J1] at h
      simp only [F9_S1]
      refine runX_seq ?_
      refine runX_regionC fun C hC => ?_
      obtain ⟨v4, h4, h⟩ := bnd_some h
      try simp -implicitDefEqProofs (maxSteps := 4000000) (disch := first | omega | decide | (simp only [go_sem]; omega)) only [go_sem, ↓reduceIte]
      repeat (with_reducible refine And.intro (by first | assumption | omega | (simp; done) | (simp; omega)) ?_)
      refine callG_X (by first | rfl | (simp only [go_sem]; done) | (simp only [closedL, closedT, Bool.and_true]; exact closedL_map _ (fun _ => by first | rfl | (simp only [go_sem]; done)) _)) (F12_ok n x3 _ h4) (by repeat (first | exact leL_refl _ | refine leL_cons (by first | exact leT_refl _ | exact leT_virt | exact leT_junk _ | exact leT_sl | exact leT_sln | exact leT_nil | (refine leT_agg (by repeat (first | exact leL_refl _ | refine leL_cons (by first | exact leT_refl _ | exact leT_sl | exact leT_sln | exact leT_nil) ?_)))) ?_)) ?_
      obtain ⟨v5, h5, h⟩ := bnd_some h
      try simp -implicitDefEqProofs (maxSteps := 4000000) (disch := first | omega | decide | (simp only [go_sem]; omega)) only [go_sem, ↓reduceIte]
      repeat (with_reducible refine And.intro (by first | assumption | omega | (simp; done) | (simp; omega)) ?_)
      refine callG_X (by first | rfl | (simp only [go_sem]; done) | (simp only [closedL, closedT, Bool.and_true]; exact closedL_map _ (fun _ => by first | rfl | (simp only [go_sem]; done)) _)) (F31_ok n v4 _ h5) (by repeat (first | exact leL_refl _ | refine leL_cons (by first | exact leT_refl _ | exact leT_virt | exact leT_junk _ | exact leT_sl | exact leT_sln | exact leT_nil | (refine leT_agg (by repeat (first | exact leL_refl _ | refine leL_cons (by first | exact leT_refl _ | exact leT_sl | exact leT_sln | exact leT_nil) ?_)))) ?_)) ?_
      try simp -implicitDefEqProofs (maxSteps := 4000000) (disch := first | omega | decide | (simp only [go_sem]; omega)) only [go_sem, ↓reduceIte]
      repeat (with_reducible refine And.intro (by first | assumption | omega | (simp; done) | (simp; omega)) ?_)
      refine toEnd hC ?_
      refine endX_seq ?_
      refine runX_seq ?_
      refine runX_regionC fun C hC => ?_
      try simp -implicitDefEqProofs (maxSteps := 4000000) (disch := first | omega | decide | (simp only [go_sem]; omega)) only [go_sem, ↓reduceIte]
      repeat (with_reducible refine And.intro (by first | assumption | omega | (simp; done) | (simp; omega)) ?_)
      refine bldG_of [.imm (.string (bs [])), .imm (.string (bs x3)), .sl 0 true []] (by kernel_rfl) ?_
      obtain ⟨v6, h6, h⟩ := bnd_some h
      try simp -implicitDefEqProofs (maxSteps := 4000000) (disch := first | omega | decide | (simp only [go_sem]; omega)) only [go_sem, ↓reduceIte]
      repeat (with_reducible refine And.intro (by first | assumption | omega | (simp; done) | (simp; omega)) ?_)
      refine callG_X (by first | rfl | (simp only [go_sem]; done) | (simp only [closedL, closedT, Bool.and_true]; exact closedL_map _ (fun _ => by first | rfl | (simp only [go_sem]; done)) _)) (F32_ok n (N43.mk [] x3 []) _ h6) (by repeat (first | exact leL_refl _ | refine leL_cons (by first | exact leT_refl _ | exact leT_virt | exact leT_junk _ | exact leT_sl | exact leT_sln | exact leT_nil | (refine leT_agg (by repeat (first | exact leL_refl _ | refine leL_cons (by first | exact leT_refl _ | exact leT_sl | exact leT_sln | exact leT_nil) ?_)))) ?_)) ?_
      try simp -implicitDefEqProofs (maxSteps := 4000000) (disch := first | omega | decide | (simp only [go_sem]; omega)) only [go_sem, ↓reduceIte]
      repeat (with_reducible refine And.intro (by first | assumption | omega | (simp; done) | (simp; omega)) ?_)
      refine toEnd hC ?_
      refine endX_seq ?_
      refine runX_seq ?_
      refine runX_regionC fun C hC => ?_
      obtain ⟨g7, h⟩ := grd_some h
      obtain ⟨v8, h8, h⟩ := bnd_some h
      try simp -implicitDefEqProofs (maxSteps := 4000000) (disch := first | omega | decide | (simp only [go_sem]; omega)) only [go_sem, ↓reduceIte]
      repeat (with_reducible refine And.intro (by first | assumption | omega | (simp; done) | (simp; omega)) ?_)
      refine callG_X (by first | rfl | (simp only [go_sem]; done) | (simp only [closedL, closedT, Bool.and_true]; exact closedL_map _ (fun _ => by first | rfl | (simp only [go_sem]; done)) _)) (F31_ok n (([38] : List UInt8) ++ x3) _ h8) (by repeat (first | exact leL_refl _ | refine leL_cons (by first | exact leT_refl _ | exact leT_virt | exact leT_junk _ | exact leT_sl | exact leT_sln | exact leT_nil | (refine leT_agg (by repeat (first | exact leL_refl _ | refine leL_cons (by first | exact leT_refl _ | exact leT_sl | exact leT_sln | exact leT_nil) ?_)))) ?_)) ?_
      try simp -implicitDefEqProofs (maxSteps := 4000000) (disch := first | omega | decide | (simp only [go_sem]; omega)) only [go_sem, ↓reduceIte]
      repeat (with_reducible refine And.intro (by first | assumption | omega | (simp; done) | (simp; omega)) ?_)
      refine toEnd hC ?_
      refine endX_seq ?_
      refine runX_seq ?_
      refine runX_regionC fun C hC => ?_
      simp only [runK_region, runK_draw, liteL, liteL2, dstsL, gL, List.getD_cons_zero, List.getD_cons_succ]
      obtain ⟨v9, h9, h⟩ := bnd_some h
      try simp -implicitDefEqProofs (maxSteps := 4000000) (disch := first | omega | decide | (simp only [go_sem]; omega)) only [go_sem, ↓reduceIte]
      repeat (with_reducible refine And.intro (by first | assumption | omega | (simp; done) | (simp; omega)) ?_)
      refine callG_X (by first | rfl | (simp only [go_sem]; done) | (simp only [closedL, closedT, Bool.and_true]; exact closedL_map _ (fun _ => by first | rfl | (simp only [go_sem]; done)) _)) (F31_ok n ([38, 108, 116, 59] : List UInt8) _ h9) (by repeat (first | exact leL_refl _ | refine leL_cons (by first | exact leT_refl _ | exact leT_virt | exact leT_junk _ | exact leT_sl | exact leT_sln | exact leT_nil | (refine leT_agg (by repeat (first | exact leL_refl _ | refine leL_cons (by first | exact leT_refl _ | exact leT_sl | exact leT_sln | exact leT_nil) ?_)))) ?_)) ?_
      try simp -implicitDefEqProofs (maxSteps := 4000000) (disch := first | omega | decide | (simp only [go_sem]; omega)) only [go_sem, ↓reduceIte]
      repeat (with_reducible refine And.intro (by first | assumption | omega | (simp; done) | (simp; omega)) ?_)
      refine toEnd hC ?_
      refine endX_seq ?_
      refine runX_seq ?_
      refine runX_regionC fun C hC => ?_
      try simp -implicitDefEqProofs (maxSteps := 4000000) (disch := first | omega | decide | (simp only [go_sem]; omega)) only [go_sem, ↓reduceIte]
      repeat (with_reducible refine And.intro (by first | assumption | omega | (simp; done) | (simp; omega)) ?_)
      rcases iteB_some h with ⟨c10, h⟩ | ⟨c10, h⟩
      · refine guardK_T c10 ?_
        try simp -implicitDefEqProofs (maxSteps := 4000000) (disch := first | omega | decide | (simp only [go_sem]; omega)) only [go_sem, ↓reduceIte]
        repeat (with_reducible refine And.intro (by first | assumption | omega | (simp; done) | (simp; omega)) ?_)
        rcases iteB_some h with ⟨c11, h⟩ | ⟨c11, h⟩
        · refine guardK_F c11 ?_
          try simp -implicitDefEqProofs (maxSteps := 4000000) (disch := first | omega | decide | (simp only [go_sem]; omega)) only [go_sem, ↓reduceIte]
          repeat (with_reducible refine And.intro (by first | assumption | omega | (simp; done) | (simp; omega)) ?_)
          rcases iteB_some h with ⟨c12, h⟩ | ⟨c12, h⟩
          · refine guardK_T c12 ?_
            try simp -implicitDefEqProofs (maxSteps := 4000000) (disch := first | omega | decide | (simp only [go_sem]; omega)) only [go_sem, ↓reduceIte]
            repeat (with_reducible refine And.intro (by first | assumption | omega | (simp; done) | (simp; omega)) ?_)
            rcases iteB_some h with ⟨c13, h⟩ | ⟨c13, h⟩
            · refine guardK_F c13 ?_
              try simp -implicitDefEqProofs (maxSteps := 4000000) (disch := first | omega | decide | (simp only [go_sem]; omega)) only [go_sem, ↓reduceIte]
              repeat (with_reducible refine And.intro (by first | assumption | omega | (simp; done) | (simp; omega)) ?_)
              refine toEnd hC ?_
              refine endX_seq ?_
              refine runX_ret ?_
              refine endX_q ?_
              obtain rfl := Option.some.inj h
              show RetW _ _ _ _ _
              simp only [RetW]
              (try simp -implicitDefEqProofs (maxSteps := 4000000) (disch := first | omega | decide | (simp only [go_sem]; omega)) only [go_sem, ↓reduceIte])
              (try simp (disch := omega) only [if_pos, Nat.sub_zero])
              exact leT_refl _
            · refine guardK_T c13 ?_
              try simp -implicitDefEqProofs (maxSteps := 4000000) (disch := first | omega | decide | (simp only [go_sem]; omega)) only [go_sem, ↓reduceIte]
              repeat (with_reducible refine And.intro (by first | assumption | omega | (simp; done) | (simp; omega)) ?_)
              refine toEnd hC ?_
              refine endX_seq ?_
              refine runX_ret ?_
              refine endX_q ?_
              obtain rfl := Option.some.inj h
              show RetW _ _ _ _ _
              simp only [RetW]
              (try simp -implicitDefEqProofs (maxSteps := 4000000) (disch := first | omega | decide | (simp only [go_sem]; omega)) only [go_sem, ↓reduceIte])
              (try simp (disch := omega) only [if_pos, Nat.sub_zero])
              exact leT_refl _
          · refine guardK_F c12 ?_
            try simp -implicitDefEqProofs (maxSteps := 4000000) (disch := first | omega | decide | (simp only [go_sem]; omega)) only [go_sem, ↓reduceIte]
            repeat (with_reducible refine And.intro (by first | assumption | omega | (simp; done) | (simp; omega)) ?_)
            refine toEnd hC ?_
            refine endX_seq ?_
            refine runX_ret ?_
            refine endX_q ?_
            obtain rfl := Option.some.inj h
            show RetW _ _ _ _ _
            simp only [RetW]
            (try simp -implicitDefEqProofs (maxSteps := 4000000) (disch := first | omega | decide | (simp only [go_sem]; omega)) only [go_sem, ↓reduceIte])
            (try simp (disch := omega) only [if_pos, Nat.sub_zero])
            exact leT_refl _
        · refine guardK_T c11 ?_
          try simp -implicitDefEqProofs (maxSteps := 4000000) (disch := first | omega | decide | (simp only [go_sem]; omega)) only [go_sem, ↓reduceIte]
          repeat (with_reducible refine And.intro (by first | assumption | omega | (simp; done) | (simp; omega)) ?_)
          rcases iteB_some h with ⟨c14, h⟩ | ⟨c14, h⟩
          · refine guardK_T c14 ?_
            try simp -implicitDefEqProofs (maxSteps := 4000000) (disch := first | omega | decide | (simp only [go_sem]; omega)) only [go_sem, ↓reduceIte]
            repeat (with_reducible refine And.intro (by first | assumption | omega | (simp; done) | (simp; omega)) ?_)
            rcases iteB_some h with ⟨c15, h⟩ | ⟨c15, h⟩
            · refine guardK_T c15 ?_
              try simp -implicitDefEqProofs (maxSteps := 4000000) (disch := first | omega | decide | (simp only [go_sem]; omega)) only [go_sem, ↓reduceIte]
              repeat (with_reducible refine And.intro (by first | assumption | omega | (simp; done) | (simp; omega)) ?_)
              rcases iteB_some h with ⟨c16, h⟩ | ⟨c16, h⟩
              · refine guardK_F c16 ?_
                try simp -implicitDefEqProofs (maxSteps := 4000000) (disch := first | omega | decide | (simp only [go_sem]; omega)) only [go_sem, ↓reduceIte]
                repeat (with_reducible refine And.intro (by first | assumption | omega | (simp; done) | (simp; omega)) ?_)
                refine toEnd hC ?_
                refine endX_seq ?_
                refine runX_ret ?_
                refine endX_q ?_
                obtain rfl := Option.some.inj h
                show RetW _ _ _ _ _
                simp only [RetW]
                (try simp -implicitDefEqProofs (maxSteps := 4000000) (disch := first | omega | decide | (simp only [go_sem]; omega)) only [go_sem, ↓reduceIte])
                (try simp (disch := omega) only [if_pos, Nat.sub_zero])
                exact leT_refl _
              · refine guardK_T c16 ?_
                try simp -implicitDefEqProofs (maxSteps := 4000000) (disch := first | omega | decide | (simp only [go_sem]; omega)) only [go_sem, ↓reduceIte]
                repeat (with_reducible refine And.intro (by first | assumption | omega | (simp; done) | (simp; omega)) ?_)
                refine toEnd hC ?_
                refine endX_seq ?_
                refine runX_ret ?_
                refine endX_q ?_
                obtain rfl := Option.some.inj h
                show RetW _ _ _ _ _
                simp only [RetW]
                (try simp -implicitDefEqProofs (maxSteps := 4000000) (disch := first | omega | decide | (simp only [go_sem]; omega)) only [go_sem, ↓reduceIte])
                (try simp (disch := omega) only [if_pos, Nat.sub_zero])
                exact leT_refl _
            · refine guardK_F c15 ?_
              try simp -implicitDefEqProofs (maxSteps := 4000000) (disch := first | omega | decide | (simp only [go_sem]; omega)) only [go_sem, ↓reduceIte]
              repeat (with_reducible refine And.intro (by first | assumption | omega | (simp; done) | (simp; omega)) ?_)
              refine toEnd hC ?_
              refine endX_seq ?_
              refine runX_ret ?_
              refine endX_q ?_
              obtain rfl := Option.some.inj h
              show RetW _ _ _ _ _
              simp only [RetW]
              (try simp -implicitDefEqProofs (maxSteps := 4000000) (disch := first | omega | decide | (simp only [go_sem]; omega)) only [go_sem, ↓reduceIte])
              (try simp (disch := omega) only [if_pos, Nat.sub_zero])
              exact leT_refl _
          · refine guardK_F c14 ?_
            try simp -implicitDefEqProofs (maxSteps := 4000000) (disch := first | omega | decide | (simp only [go_sem]; omega)) only [go_sem, ↓reduceIte]
            repeat (with_reducible refine And.intro (by first | assumption | omega | (simp; done) | (simp; omega)) ?_)
            refine toEnd hC ?_
            refine endX_seq ?_
            refine runX_ret ?_
            refine endX_q ?_
            obtain rfl := Option.some.inj h
            show RetW _ _ _ _ _
            simp only [RetW]
            (try simp -implicitDefEqProofs (maxSteps := 4000000) (disch := first | omega | decide | (simp only [go_sem]; omega)) only [go_sem, ↓reduceIte])
            (try simp (disch := omega) only [if_pos, Nat.sub_zero])
            exact leT_refl _
      · refine guardK_F c10 ?_
        try simp -implicitDefEqProofs (maxSteps := 4000000) (disch := first | omega | decide | (simp only [go_sem]; omega)) only [go_sem, ↓reduceIte]
        repeat (with_reducible refine And.intro (by first | assumption | omega | (simp; done) | (simp; omega)) ?_)
        refine toEnd hC ?_
        refine endX_seq ?_
        refine runX_ret ?_
        refine endX_q ?_
        obtain rfl := Option.some.inj h
        show RetW _ _ _ _ _
        simp only [RetW]
        (try simp -implicitDefEqProofs (maxSteps := 4000000) (disch := first | omega | decide | (simp only [go_sem]; omega)) only [go_sem, ↓reduceIte])
        (try simp (disch := omega) only [if_pos, Nat.sub_zero])
        exact leT_refl _
end Go.Proofs.YtbamlphgolldlaaX

/- Shapes of arguments, as plain values. Of no program. -/
set_option linter.unusedVariables false
namespace Go.Proofs.YtbamlphgolldlaaX
open Go Go.RowKit
theorem RepR.le {E : Env} {sz : Nat} : ∀ {l l' : List T} {c : List Value}, l.length = l'.length → (∀ i, leT anyE (l.getD i .junk) (l'.getD i .junk)) → RepR E sz l c → RepR E sz l' c
  | [], [], c, _, _, h => h
  | x :: l, y :: l', c, hl, hi, h => by
    simp only [RepR] at h ⊢
    obtain ⟨u, c', h1, h2, h3, h4⟩ := h
    exact ⟨u, c', h1, h2, by simpa using hi 0 E true u trivial (by simpa using h3), RepR.le (by simpa using hl) (fun i => by simpa using hi (i + 1)) h4⟩
  | [], _ :: _, c, hl, _, _ => by simp at hl
  | _ :: _, [], c, hl, _, _ => by simp at hl
theorem leT_slE {sz : Nat} {f : Bool} {l l' : List T} (hl : l.length = l'.length) (h : ∀ i, leT anyE (l.getD i .junk) (l'.getD i .junk)) : leT anyE (.sl sz f l) (.sl sz false l') := fun E cl v hp k => by
  simp only [Rep] at k ⊢
  obtain ⟨a, cap, c, h1, h2, h3, h4, h5⟩ := k
  exact ⟨a, cap, c, by rw [h1, hl], by rw [← hl]; exact h2, (fun h => by cases h), RepR.le hl h h4, h5⟩
theorem elems_shape {α : Type} (enc : α → T) (ok : α → Prop) : ∀ (l : List T), (∀ y ∈ l, ∃ v, leT anyE y (enc v) ∧ ok v) → ∃ vs : List α, vs.length = l.length ∧ (∀ i, leT anyE (l.getD i .junk) ((vs.map enc).getD i .junk)) ∧ ∀ v ∈ vs, ok v
  | [], _ => ⟨[], rfl, fun i => by simp [leT_refl], fun v hv => by simp at hv⟩
  | y :: l, h => by
    obtain ⟨v, h1, h2⟩ := h y (by simp)
    obtain ⟨vs, h3, h4, h5⟩ := elems_shape enc ok l fun z hz => h z (by simp [hz])
    refine ⟨v :: vs, by simp [h3], fun i => ?_, fun w hw => ?_⟩
    · cases i with
      | zero => simpa using h1
      | succ i => simpa using h4 i
    · rcases List.mem_cons.1 hw with rfl | hw
      · exact h2
      · exact h5 w hw
theorem sl_shape {α : Type} (enc : α → T) (ok : α → Prop) (l : List T) (h : ∀ y ∈ l, ∃ v, leT anyE y (enc v) ∧ ok v) {sz : Nat} {f : Bool} : ∃ vs : List α, leT anyE (.sl sz f l) (.sl sz false (vs.map enc)) ∧ vs.length = l.length ∧ ∀ v ∈ vs, ok v := by
  obtain ⟨vs, h1, h2, h3⟩ := elems_shape enc ok l h
  exact ⟨vs, leT_slE (by simp [h1]) h2, h1, h3⟩
theorem arr_shape {α : Type} (enc : α → T) (ok : α → Prop) : ∀ (l : List T), (∀ y ∈ l, ∃ v, y = enc v ∧ T.cells y = [y] ∧ ok v) → ∃ vs : List α, l.flatMap T.cells = vs.map enc ∧ vs.length = l.length ∧ ∀ v ∈ vs, ok v
  | [], _ => ⟨[], rfl, rfl, fun v hv => by simp at hv⟩
  | y :: l, h => by
    obtain ⟨v, rfl, hc, h2⟩ := h y (by simp)
    obtain ⟨vs, h3, h4, h5⟩ := arr_shape enc ok l fun z hz => h z (by simp [hz])
    refine ⟨v :: vs, by rw [List.flatMap_cons, hc, h3]; rfl, by simp [h4], fun w hw => ?_⟩
    rcases List.mem_cons.1 hw with rfl | hw
    · exact h2
    · exact h5 w hw
end Go.Proofs.YtbamlphgolldlaaX

set_option linter.unusedVariables false
set_option linter.unusedSimpArgs false
namespace Go.Proofs.YtbamlphgolldlaaX
open Go Go.RowKit Go.Proofs
set_option maxRecDepth 100000
def okT9 (v : List UInt8) : Prop := v.length ≤ 9223372036854775807
theorem shp9 : ∀ (n : Nat) (x : T), ShapeW Try.prog n 9 x → ∃ v : List UInt8, x = .imm (.string (bs v)) ∧ okT9 v
  | 0, x, h => h.elim
  | n + 1, x, h => by
    simp only [ShapeW, Try.underlying9] at h
    obtain ⟨s, rfl, hs⟩ := h
    exact ⟨s.data.toList, by rw [← of_bs], hs⟩
theorem shapedXmlinTexts (main : ∀ (v0 : List UInt8), okT9 v0 → ∃ n, F9 n v0 = some true) (xs : List T) (h : ShapesW Try.prog [9] xs) : FnC Try.prog 9 xs (tb true) := by
  obtain ⟨x0, xs0, rfl, ⟨n0, h0⟩, rfl⟩ := h
  obtain ⟨v0, rfl, k0⟩ := shp9 _ _ h0
  obtain ⟨N, hN⟩ := main v0 k0
  exact (F9_ok N v0 true hN).le (leL_cons (leT_refl _) (leL_nil)) (leT_refl _)

end Go.Proofs.YtbamlphgolldlaaX

/- Plain functions with fuel: what they come to. Of no program. -/
set_option linter.unusedVariables false
set_option linter.unusedSimpArgs false
namespace Go.Proofs.YtbamlphgolldlaaX
open Go

/-- With fuel enough the answer is this. -/
def Ev {α : Type} (f : Nat → Option α) (r : α) : Prop := ∃ N, ∀ n, N ≤ n → f n = some r
theorem Ev.pure {α : Type} {r : α} : Ev (fun _ => some r) r := ⟨0, fun _ _ => rfl⟩
theorem Ev.const {α : Type} {x : Option α} {r : α} (h : x = some r) : Ev (fun _ => x) r := ⟨0, fun _ _ => h⟩
theorem Ev.bind {α β : Type} {f : Nat → Option α} {g : Nat → α → Option β} {v : α} {r : β} (h : Ev f v) (h' : Ev (fun n => g n v) r) : Ev (fun n => (f n).bind (g n)) r := by
  obtain ⟨N, h⟩ := h
  obtain ⟨M, h'⟩ := h'
  exact ⟨max N M, fun n hn => by show (f n).bind (g n) = _; rw [h n (by omega)]; exact h' n (by omega)⟩
theorem Ev.step {α : Type} {f : Nat → Option α} {r : α} (h : Ev (fun n => f (n + 1)) r) : Ev f r := by
  obtain ⟨N, h⟩ := h
  refine ⟨N + 1, fun n hn => ?_⟩
  obtain ⟨m, rfl⟩ : ∃ m, n = m + 1 := ⟨n - 1, by omega⟩
  exact h m (by omega)
theorem Ev.congr {α : Type} {f g : Nat → Option α} {r : α} (h : Ev g r) (e : ∀ n, f n = g n) : Ev f r := by
  obtain ⟨N, h⟩ := h
  exact ⟨N, fun n hn => (e n).trans (h n hn)⟩
theorem Ev.grd {α : Type} {p : Prop} [Decidable p] {f : Nat → Option α} {r : α} (hp : p) (h : Ev f r) : Ev (fun n => grd p (f n)) r := h.congr fun n => if_pos hp
theorem Ev.ofT {α : Type} {b : Bool} {f g : Nat → Option α} {r : α} (hb : b = true) (h : Ev f r) : Ev (fun n => iteB b (f n) (g n)) r := h.congr fun n => by rw [hb]; rfl
theorem Ev.ofF {α : Type} {b : Bool} {f g : Nat → Option α} {r : α} (hb : b = false) (h : Ev g r) : Ev (fun n => iteB b (f n) (g n)) r := h.congr fun n => by rw [hb]; rfl
theorem Ev.ite {α : Type} {b : Bool} {f g : Nat → Option α} {r : α} (h1 : b = true → Ev f r) (h2 : b = false → Ev g r) : Ev (fun n => iteB b (f n) (g n)) r := by
  cases hb : b with
  | true => exact (h1 hb).congr fun n => rfl
  | false => exact (h2 hb).congr fun n => rfl
theorem iteB_t {α : Type} (x y : Option α) : iteB true x y = x := rfl
theorem iteB_f {α : Type} (x y : Option α) : iteB false x y = y := rfl
theorem grd_t {α : Type} {p : Prop} [Decidable p] (x : Option α) (h : p) : grd p x = x := if_pos h
theorem grd_True {α : Type} [Decidable True] (x : Option α) : grd True x = x := if_pos trivial
theorem bind_some' {α β : Type} (v : α) (g : α → Option β) : (some v).bind g = g v := rfl
theorem w64 {n : Int} (h : -9223372036854775808 ≤ n ∧ n ≤ 9223372036854775807) : IntKind.wrap .i64 n = n := Go.IntWalk.i64_in _ h
theorem w32 {n : Int} (h : -2147483648 ≤ n ∧ n ≤ 2147483647) : IntKind.wrap .i32 n = n := Go.IntWalk.i32_in _ h
theorem wu8 {n : Int} (h : 0 ≤ n ∧ n ≤ 255) : IntKind.wrap .u8 n = n := Go.IntWalk.u8_in _ h
theorem wu32 {n : Int} (h : 0 ≤ n ∧ n ≤ 4294967295) : IntKind.wrap .u32 n = n := Go.IntWalk.u32_in _ h
theorem wu64 {n : Int} (h : 0 ≤ n ∧ n ≤ 18446744073709551615) : IntKind.wrap .u64 n = n := Go.IntWalk.u64_in _ h
/-- Bytes as numbers. -/
theorem u8_beq (a b : UInt8) : ((a.toNat : Int) == (b.toNat : Int)) = (a == b) := by
  rw [Bool.eq_iff_iff, beq_iff_eq, beq_iff_eq]
  exact ⟨fun h => UInt8.toNat_inj.1 (by omega), fun h => by rw [h]⟩
theorem u8_lit (a : UInt8) (k : Nat) (hk : k < 256) : ((a.toNat : Int) == ((k : Nat) : Int)) = (a == UInt8.ofNat k) := by
  rw [Bool.eq_iff_iff, beq_iff_eq, beq_iff_eq]
  constructor
  · intro h
    apply UInt8.toNat_inj.1
    rw [UInt8.toNat_ofNat']
    omega
  · intro h
    subst h
    rw [UInt8.toNat_ofNat']
    omega
theorem u8_lt (a : UInt8) : (0 : Int) ≤ (a.toNat : Int) ∧ (a.toNat : Int) ≤ 255 := by
  have := a.toNat_lt; omega
theorem drop_cons {α : Type} (l : List α) (i : Nat) (d : α) (h : i < l.length) : l.drop i = l.getD i d :: l.drop (i + 1) := by
  rw [List.drop_eq_getElem_cons h, List.getD_eq_getElem?_getD, List.getElem?_eq_getElem h]; rfl
theorem toNat_nat (n : Nat) : ((n : Int)).toNat = n := rfl
end Go.Proofs.YtbamlphgolldlaaX

/- Bytes as numbers. Of no program. -/
set_option linter.unusedVariables false
set_option linter.unusedSimpArgs false
namespace Go.Proofs.YtbamlphgolldlaaX
open Go

def Bytes (l : List Int) : Prop := ∀ x ∈ l, 0 ≤ x ∧ x ≤ 255
theorem Bytes.nil : Bytes [] := by intro x hx; cases hx
theorem Bytes.cons {a : Int} {r : List Int} (h : 0 ≤ a ∧ a ≤ 255) (hr : Bytes r) : Bytes (a :: r) := by
  intro x hx
  rcases List.mem_cons.1 hx with rfl | hx
  · exact h
  · exact hr x hx
theorem Bytes.head {a : Int} {r : List Int} (h : Bytes (a :: r)) : 0 ≤ a ∧ a ≤ 255 := h a (by simp)
theorem Bytes.tail {a : Int} {r : List Int} (h : Bytes (a :: r)) : Bytes r := fun x hx => h x (by simp [hx])
theorem Bytes.drop {l : List Int} (h : Bytes l) (n : Nat) : Bytes (l.drop n) := fun x hx => h x (List.mem_of_mem_drop hx)
theorem Bytes.append {l r : List Int} (h : Bytes l) (h' : Bytes r) : Bytes (l ++ r) := fun x hx => by
  rcases List.mem_append.1 hx with hx | hx
  · exact h x hx
  · exact h' x hx
def bt (s : List UInt8) (i : Nat) : Int := ((s.getD i 0).toNat : Int)
def ints (s : List UInt8) : List Int := s.map ofB
theorem ints_len (s : List UInt8) : (ints s).length = s.length := by simp [ints]
theorem ints_bytes (s : List UInt8) : Bytes (ints s) := by
  intro x hx
  unfold ints at hx
  obtain ⟨c, _, rfl⟩ := List.mem_map.1 hx
  exact u8_lt c
theorem ints_drop (s : List UInt8) (i : Nat) : ints (s.drop i) = (ints s).drop i := by simp [ints, List.map_drop]
theorem ints_take (s : List UInt8) (i : Nat) : ints (s.take i) = (ints s).take i := by simp [ints, List.map_take]
theorem bt_bd (s : List UInt8) (i : Nat) : 0 ≤ bt s i ∧ bt s i ≤ 255 := u8_lt _
theorem ints_get (s : List UInt8) (i : Nat) : (ints s).getD i 0 = bt s i := by
  unfold ints bt
  rw [List.getD_eq_getElem?_getD, List.getElem?_map, List.getD_eq_getElem?_getD]
  cases s[i]? <;> rfl
theorem drop_bt (s : List UInt8) (i : Nat) (h : i < s.length) : (ints s).drop i = bt s i :: (ints s).drop (i + 1) := by
  rw [drop_cons (ints s) i 0 (by rw [ints_len]; exact h), ints_get]
theorem ofB_toB {x : Int} (h : 0 ≤ x ∧ x ≤ 255) : ofB (toB x) = x := by
  unfold ofB toB
  rw [UInt8.toNat_ofNat']
  omega
theorem map_toB_eq {l : List Int} (hl : Bytes l) (t : List UInt8) : (l.map toB == t) = decide (l = ints t) := by
  rw [Bool.eq_iff_iff, beq_iff_eq, decide_eq_true_eq]
  constructor
  · rintro rfl
    unfold ints
    rw [List.map_map]
    conv => lhs; rw [← List.map_id l]
    exact List.map_congr_left fun x hx => (ofB_toB (hl x hx)).symm
  · rintro rfl
    unfold ints
    rw [List.map_map]
    conv => rhs; rw [← List.map_id t]
    refine List.map_congr_left fun x _ => ?_
    show UInt8.ofNat ((x.toNat : Int)).toNat = x
    rw [toNat_nat]; simp
theorem ints_cons (s : List UInt8) (h : s.length ≠ 0) : ∃ a r, ints s = a :: r := by
  cases hb : ints s with
  | nil => have := ints_len s; rw [hb] at this; simp at this; omega
  | cons a r => exact ⟨a, r, rfl⟩
theorem of_ints {s : List UInt8} {l : List Int} (h : ints s = l) : s = l.map toB := by
  have hb : Bytes l := h ▸ ints_bytes s
  have := map_toB_eq hb s
  rw [h, decide_eq_true rfl] at this
  exact (beq_iff_eq.1 this).symm
theorem ints_toB {l : List Int} (h : Bytes l) : ints (l.map toB) = l := by
  have := map_toB_eq h (l.map toB)
  rw [beq_self_eq_true] at this
  exact (of_decide_eq_true this.symm).symm
theorem toB_inj : ∀ {a b : List Int}, Bytes a → Bytes b → a.map toB = b.map toB → a = b := fun ha hb h => by
  have := congrArg ints h
  rwa [ints_toB ha, ints_toB hb] at this
theorem bq {a b : Int} (h : ¬ a = b) : (a == b) = false := beq_eq_false_iff_ne.2 h
theorem bqt {a b : Int} (h : a = b) : (a == b) = true := by rw [h]; exact beq_self_eq_true b
theorem all_bytes {l : List Int} (h : Bytes l) : (l.all fun x => decide (0 ≤ x) && decide (x < 256)) = true := by
  rw [List.all_eq_true]
  intro x hx
  have := h x hx
  simp only [Bool.and_eq_true, decide_eq_true_eq]
  omega
theorem bs_bool {p : Prop} [Decidable p] {b : Bool} (h : (b = true) ↔ p) : b = decide p := by
  cases b with
  | true => exact (decide_eq_true (h.1 rfl)).symm
  | false => exact (decide_eq_false (fun e => by cases h.2 e)).symm
theorem g64 (i : Nat) (h : i ≤ 1000000000) : IntKind.wrap .i64 ((i : Int) + 1) = ((i + 1 : Nat) : Int) := by rw [w64 (by omega)]; omega
end Go.Proofs.YtbamlphgolldlaaX

/- Characters: plain words and laws (what is put is next). -/
set_option linter.unusedVariables false
set_option linter.unusedSimpArgs false
namespace Go.Proofs.YtbamlphgolldlaaX
open Go

def utfSize (c : Int) : Int := if c < 128 then 1 else if c < 2048 then 2 else if c < 65536 then 3 else 4
def rightU (c : Int) : Prop := 0 ≤ c ∧ c ≤ 1114111 ∧ (c < 55296 ∨ 57343 < c)
instance (c : Int) : Decidable (rightU c) := by unfold rightU; exact inferInstance
/-- A character's bytes. -/
def putU (c : Int) : List Int :=
  if ¬ rightU c then [] else if c < 128 then [c] else if c < 2048 then [192 + c / 64, 128 + c % 64]
  else if c < 65536 then [224 + c / 4096, 128 + c / 64 % 64, 128 + c % 64]
  else [240 + c / 262144, 128 + c / 4096 % 64, 128 + c / 64 % 64, 128 + c % 64]
def lenU (a : Int) : Nat := if a < 128 then 1 else if a < 192 then 0 else if a < 224 then 2 else if a < 240 then 3 else if a < 248 then 4 else 0
def leadU (n : Nat) : Int := if n = 1 then 0 else if n = 2 then 192 else if n = 3 then 224 else 240
def finU (n : Nat) (c : Int) : Int × Int := if rightU c ∧ utfSize c = (n : Int) then (c, (n : Int)) else (0, 0)
def contU (n : Nat) : Int → List Int → Nat → Int × Int
  | c, _, 0 => finU n c
  | c, b :: r, m + 1 => if 128 ≤ b ∧ b ≤ 191 then contU n (c * 64 + b % 64) r m else (0, 0)
  | _, [], _ + 1 => (0, 0)
/-- The character that bytes begin with, and how many bytes it has. -/
def nextU : List Int → Int × Int
  | [] => (0, 0)
  | a :: r => if lenU a = 0 ∨ lenU a > (a :: r).length then (0, 0) else contU (lenU a) (a - leadU (lenU a)) r (lenU a - 1)

theorem putU_1 {c : Int} (h : rightU c) (h1 : c < 128) : putU c = [c] := by unfold putU; rw [if_neg (fun e => e h), if_pos h1]
theorem putU_2 {c : Int} (h : rightU c) (h0 : 128 ≤ c) (h1 : c < 2048) : putU c = [192 + c / 64, 128 + c % 64] := by unfold putU; rw [if_neg (fun e => e h), if_neg (by omega), if_pos h1]
theorem putU_3 {c : Int} (h : rightU c) (h0 : 2048 ≤ c) (h1 : c < 65536) : putU c = [224 + c / 4096, 128 + c / 64 % 64, 128 + c % 64] := by unfold putU; rw [if_neg (fun e => e h), if_neg (by omega), if_neg (by omega), if_pos h1]
theorem putU_4 {c : Int} (h : rightU c) (h0 : 65536 ≤ c) : putU c = [240 + c / 262144, 128 + c / 4096 % 64, 128 + c / 64 % 64, 128 + c % 64] := by unfold putU; rw [if_neg (fun e => e h), if_neg (by omega), if_neg (by omega), if_neg (by omega)]
theorem putU_no {c : Int} (h : ¬ rightU c) : putU c = [] := by unfold putU; rw [if_pos h]
theorem size_1 {c : Int} (h : c < 128) : utfSize c = 1 := by unfold utfSize; rw [if_pos h]
theorem size_2 {c : Int} (h0 : 128 ≤ c) (h : c < 2048) : utfSize c = 2 := by unfold utfSize; rw [if_neg (by omega), if_pos h]
theorem size_3 {c : Int} (h0 : 2048 ≤ c) (h : c < 65536) : utfSize c = 3 := by unfold utfSize; rw [if_neg (by omega), if_neg (by omega), if_pos h]
theorem size_4 {c : Int} (h0 : 65536 ≤ c) : utfSize c = 4 := by unfold utfSize; rw [if_neg (by omega), if_neg (by omega), if_neg (by omega)]
theorem len_1 {a : Int} (h : a < 128) : lenU a = 1 := by unfold lenU; rw [if_pos h]
theorem len_2 {a : Int} (h0 : 192 ≤ a) (h : a < 224) : lenU a = 2 := by unfold lenU; rw [if_neg (by omega), if_neg (by omega), if_pos h]
theorem len_3 {a : Int} (h0 : 224 ≤ a) (h : a < 240) : lenU a = 3 := by unfold lenU; rw [if_neg (by omega), if_neg (by omega), if_neg (by omega), if_pos h]
theorem len_4 {a : Int} (h0 : 240 ≤ a) (h : a < 248) : lenU a = 4 := by unfold lenU; rw [if_neg (by omega), if_neg (by omega), if_neg (by omega), if_neg (by omega), if_pos h]
theorem len_0 {a : Int} (h : (128 ≤ a ∧ a < 192) ∨ 248 ≤ a) : lenU a = 0 := by
  unfold lenU
  rcases h with h | h
  · rw [if_neg (by omega), if_pos (by omega)]
  · rw [if_neg (by omega), if_neg (by omega), if_neg (by omega), if_neg (by omega), if_neg (by omega)]
theorem contU_step {n m : Nat} {c b : Int} {r : List Int} (h : 128 ≤ b ∧ b ≤ 191) : contU n c (b :: r) (m + 1) = contU n (c * 64 + b % 64) r m := by rw [contU, if_pos h]
theorem contU_no {n m : Nat} {c b : Int} {r : List Int} (h : ¬ (128 ≤ b ∧ b ≤ 191)) : contU n c (b :: r) (m + 1) = (0, 0) := by rw [contU, if_neg h]
theorem contU_fin {n : Nat} {c : Int} {r : List Int} : contU n c r 0 = finU n c := by cases r <;> rw [contU]

/-- What is put is next, whatever stands behind it. -/
theorem next_put {c : Int} (h : rightU c) (rest : List Int) : nextU (putU c ++ rest) = (c, ((putU c).length : Int)) := by
  obtain ⟨h0, h1, h2⟩ := id h
  rcases (show c < 128 ∨ (128 ≤ c ∧ c < 2048) ∨ (2048 ≤ c ∧ c < 65536) ∨ 65536 ≤ c by omega) with a | ⟨a, b⟩ | ⟨a, b⟩ | a
  · rw [putU_1 h a]
    show nextU (c :: rest) = (c, 1)
    rw [nextU, len_1 a, if_neg (by simp), contU_fin, finU]
    rw [show c - leadU 1 = c by unfold leadU; rw [if_pos rfl]; omega, if_pos ⟨h, size_1 a⟩]
    rfl
  · rw [putU_2 h a b]
    show nextU ((192 + c / 64) :: (128 + c % 64) :: rest) = (c, 2)
    rw [nextU, len_2 (by omega) (by omega), if_neg (by simp)]
    rw [contU_step (by omega), contU_fin, finU, show (192 + c / 64 - leadU 2) * 64 + (128 + c % 64) % 64 = c by unfold leadU; rw [if_neg (by omega), if_pos rfl]; omega, if_pos ⟨h, size_2 a b⟩]
    rfl
  · rw [putU_3 h a b]
    show nextU ((224 + c / 4096) :: (128 + c / 64 % 64) :: (128 + c % 64) :: rest) = (c, 3)
    rw [nextU, len_3 (by omega) (by omega), if_neg (by simp)]
    rw [contU_step (by omega), contU_step (by omega), contU_fin, finU, show ((224 + c / 4096 - leadU 3) * 64 + (128 + c / 64 % 64) % 64) * 64 + (128 + c % 64) % 64 = c by unfold leadU; rw [if_neg (by omega), if_neg (by omega), if_pos rfl]; omega, if_pos ⟨h, size_3 a b⟩]
    rfl
  · rw [putU_4 h a]
    show nextU ((240 + c / 262144) :: (128 + c / 4096 % 64) :: (128 + c / 64 % 64) :: (128 + c % 64) :: rest) = (c, 4)
    rw [nextU, len_4 (by omega) (by omega), if_neg (by simp)]
    rw [contU_step (by omega), contU_step (by omega), contU_step (by omega), contU_fin, finU, show (((240 + c / 262144 - leadU 4) * 64 + (128 + c / 4096 % 64) % 64) * 64 + (128 + c / 64 % 64) % 64) * 64 + (128 + c % 64) % 64 = c by unfold leadU; rw [if_neg (by omega), if_neg (by omega), if_neg (by omega)]; omega, if_pos ⟨h, size_4 a⟩]
    rfl
theorem finU_some {n : Nat} {c x k : Int} (h : finU n c = (x, k)) (hk : k ≠ 0) : x = c ∧ k = n ∧ rightU c ∧ utfSize c = n := by
  unfold finU at h
  by_cases h1 : rightU c ∧ utfSize c = (n : Int)
  · rw [if_pos h1] at h
    simp only [Prod.mk.injEq] at h
    exact ⟨h.1.symm, h.2.symm, h1.1, h1.2⟩
  · rw [if_neg h1] at h
    simp only [Prod.mk.injEq] at h
    exact absurd h.2.symm hk
/-- What is next has been put. -/
theorem put_next : ∀ (l : List Int) (c k : Int), Bytes l → nextU l = (c, k) → k ≠ 0 → rightU c ∧ k = ((putU c).length : Int) ∧ ∃ rest, l = putU c ++ rest
  | [], c, k, hb, h, hk => by rw [nextU] at h; simp only [Prod.mk.injEq] at h; exact absurd h.2.symm hk
  | a :: r, c, k, hb, h, hk => by
    have ha := hb.head
    rw [nextU] at h
    by_cases h0 : lenU a = 0 ∨ lenU a > (a :: r).length
    · rw [if_pos h0] at h; simp only [Prod.mk.injEq] at h; exact absurd h.2.symm hk
    rw [if_neg h0] at h
    have z : ∀ (P : Prop), ((0 : Int), (0 : Int)) = (c, k) → P := fun P e => by simp only [Prod.mk.injEq] at e; exact absurd e.2.symm hk
    rcases (show a < 128 ∨ (192 ≤ a ∧ a < 224) ∨ (224 ≤ a ∧ a < 240) ∨ (240 ≤ a ∧ a < 248) ∨ ((128 ≤ a ∧ a < 192) ∨ 248 ≤ a) by omega) with e | ⟨e1, e2⟩ | ⟨e1, e2⟩ | ⟨e1, e2⟩ | e
    · rw [len_1 e, contU_fin] at h
      obtain ⟨rfl, rfl, hr, hs⟩ := finU_some h hk
      have el : a - leadU 1 = a := by unfold leadU; rw [if_pos rfl]; omega
      rw [el] at hr ⊢
      exact ⟨hr, by rw [putU_1 hr e]; rfl, r, by rw [putU_1 hr e]; rfl⟩
    · rw [len_2 e1 e2] at h h0
      match r, h, h0, hb with
      | [], h, h0, hb => exact absurd (show (2 : Nat) > 1 by omega) (fun q => h0 (.inr q))
      | b :: r, h, h0, hb =>
        have hbb := hb.tail.head
        by_cases hc : 128 ≤ b ∧ b ≤ 191
        · rw [contU_step hc, contU_fin] at h
          obtain ⟨rfl, rfl, hr, hs⟩ := finU_some h hk
          have el : (a - leadU 2) * 64 + b % 64 = (a - 192) * 64 + (b - 128) := by unfold leadU; rw [if_neg (by omega), if_pos rfl]; omega
          rw [el] at hr hs ⊢
          have hlo : 128 ≤ (a - 192) * 64 + (b - 128) := by
            rcases Int.lt_or_le ((a - 192) * 64 + (b - 128)) 128 with q | q
            · rw [size_1 q] at hs; omega
            · exact q
          have hp := putU_2 hr hlo (by omega)
          rw [hp]
          exact ⟨hr, rfl, r, by show _ = _ :: _ :: r; congr 1; omega; congr 1; omega⟩
        · rw [contU_no hc] at h; exact z _ h
    · rw [len_3 e1 e2] at h h0
      match r, h, h0, hb with
      | [], h, h0, hb => exact absurd (show (3 : Nat) > 1 by omega) (fun q => h0 (.inr q))
      | [b], h, h0, hb => exact absurd (show (3 : Nat) > 2 by omega) (fun q => h0 (.inr q))
      | b :: d :: r, h, h0, hb =>
        have hbb := hb.tail.head
        have hdd := hb.tail.tail.head
        by_cases hc : 128 ≤ b ∧ b ≤ 191
        · rw [contU_step hc] at h
          by_cases hd : 128 ≤ d ∧ d ≤ 191
          · rw [contU_step hd, contU_fin] at h
            obtain ⟨rfl, rfl, hr, hs⟩ := finU_some h hk
            have el : ((a - leadU 3) * 64 + b % 64) * 64 + d % 64 = (a - 224) * 4096 + (b - 128) * 64 + (d - 128) := by unfold leadU; rw [if_neg (by omega), if_neg (by omega), if_pos rfl]; omega
            rw [el] at hr hs ⊢
            have hlo : 2048 ≤ (a - 224) * 4096 + (b - 128) * 64 + (d - 128) := by
              rcases Int.lt_or_le ((a - 224) * 4096 + (b - 128) * 64 + (d - 128)) 2048 with q | q
              · rcases Int.lt_or_le ((a - 224) * 4096 + (b - 128) * 64 + (d - 128)) 128 with q1 | q1
                · rw [size_1 q1] at hs; omega
                · rw [size_2 q1 q] at hs; omega
              · exact q
            have hp := putU_3 hr hlo (by omega)
            rw [hp]
            exact ⟨hr, rfl, r, by show _ = _ :: _ :: _ :: r; congr 1; omega; congr 1; omega; congr 1; omega⟩
          · rw [contU_no hd] at h; exact z _ h
        · rw [contU_no hc] at h; exact z _ h
    · rw [len_4 e1 e2] at h h0
      match r, h, h0, hb with
      | [], h, h0, hb => exact absurd (show (4 : Nat) > 1 by omega) (fun q => h0 (.inr q))
      | [b], h, h0, hb => exact absurd (show (4 : Nat) > 2 by omega) (fun q => h0 (.inr q))
      | [b, d], h, h0, hb => exact absurd (show (4 : Nat) > 3 by omega) (fun q => h0 (.inr q))
      | b :: d :: f :: r, h, h0, hb =>
        have hbb := hb.tail.head
        have hdd := hb.tail.tail.head
        have hff := hb.tail.tail.tail.head
        by_cases hc : 128 ≤ b ∧ b ≤ 191
        · rw [contU_step hc] at h
          by_cases hd : 128 ≤ d ∧ d ≤ 191
          · rw [contU_step hd] at h
            by_cases hf : 128 ≤ f ∧ f ≤ 191
            · rw [contU_step hf, contU_fin] at h
              obtain ⟨rfl, rfl, hr, hs⟩ := finU_some h hk
              have el : (((a - leadU 4) * 64 + b % 64) * 64 + d % 64) * 64 + f % 64 = (a - 240) * 262144 + (b - 128) * 4096 + (d - 128) * 64 + (f - 128) := by unfold leadU; rw [if_neg (by omega), if_neg (by omega), if_neg (by omega)]; omega
              rw [el] at hr hs ⊢
              generalize hv : (a - 240) * 262144 + (b - 128) * 4096 + (d - 128) * 64 + (f - 128) = v at hr hs ⊢
              have hlo : 65536 ≤ v := by
                rcases Int.lt_or_le v 65536 with q | q
                · rcases Int.lt_or_le v 2048 with q2 | q2
                  · rcases Int.lt_or_le v 128 with q1 | q1
                    · rw [size_1 q1] at hs; omega
                    · rw [size_2 q1 q2] at hs; omega
                  · rw [size_3 q2 q] at hs; omega
                · exact q
              have hp := putU_4 hr hlo
              rw [hp]
              exact ⟨hr, rfl, r, by show _ = _ :: _ :: _ :: _ :: r; congr 1; omega; congr 1; omega; congr 1; omega; congr 1; omega⟩
            · rw [contU_no hf] at h; exact z _ h
          · rw [contU_no hd] at h; exact z _ h
        · rw [contU_no hc] at h; exact z _ h
    · exact absurd (len_0 e) (fun q => h0 (.inl q))
theorem putU_bytes (c : Int) : Bytes (putU c) := by
  by_cases h : rightU c
  · obtain ⟨h0, h1, h2⟩ := id h
    rcases (show c < 128 ∨ (128 ≤ c ∧ c < 2048) ∨ (2048 ≤ c ∧ c < 65536) ∨ 65536 ≤ c by omega) with a | ⟨a, b⟩ | ⟨a, b⟩ | a
    · rw [putU_1 h a]; exact Bytes.cons (by omega) Bytes.nil
    · rw [putU_2 h a b]; exact Bytes.cons (by omega) (Bytes.cons (by omega) Bytes.nil)
    · rw [putU_3 h a b]; exact Bytes.cons (by omega) (Bytes.cons (by omega) (Bytes.cons (by omega) Bytes.nil))
    · rw [putU_4 h a]; exact Bytes.cons (by omega) (Bytes.cons (by omega) (Bytes.cons (by omega) (Bytes.cons (by omega) Bytes.nil)))
  · rw [putU_no h]; exact Bytes.nil
theorem putU_len {c : Int} (h : rightU c) : ((putU c).length : Int) = utfSize c := by
  obtain ⟨h0, h1, h2⟩ := id h
  rcases (show c < 128 ∨ (128 ≤ c ∧ c < 2048) ∨ (2048 ≤ c ∧ c < 65536) ∨ 65536 ≤ c by omega) with a | ⟨a, b⟩ | ⟨a, b⟩ | a
  · rw [putU_1 h a, size_1 a]; rfl
  · rw [putU_2 h a b, size_2 a b]; rfl
  · rw [putU_3 h a b, size_3 a b]; rfl
  · rw [putU_4 h a, size_4 a]; rfl
theorem putU_bd (c : Int) : (putU c).length ≤ 4 := by
  by_cases h : rightU c
  · have := putU_len h
    unfold utfSize at this
    split at this
    · omega
    · split at this
      · omega
      · split at this <;> omega
  · rw [putU_no h]; simp
theorem next_zero (l : List Int) (h : (nextU l).2 = 0) : nextU l = (0, 0) := by
  have key : ∀ (n : Nat) (m : Nat) (c : Int) (r : List Int), n ≠ 0 → (contU n c r m).2 = 0 → contU n c r m = (0, 0) := by
    intro n m
    induction m with
    | zero =>
      intro c r hn h
      rw [contU_fin] at h ⊢
      unfold finU at h ⊢
      by_cases hc : rightU c ∧ utfSize c = (n : Int)
      · rw [if_pos hc] at h; simp only at h; omega
      · rw [if_neg hc]
    | succ m ih =>
      intro c r hn h
      cases r with
      | nil => rw [contU]
      | cons b r =>
        by_cases hb : 128 ≤ b ∧ b ≤ 191
        · rw [contU_step hb] at h ⊢; exact ih _ _ hn h
        · rw [contU_no hb]
  cases l with
  | nil => rw [nextU]
  | cons a r =>
    rw [nextU] at h ⊢
    by_cases h0 : lenU a = 0 ∨ lenU a > (a :: r).length
    · rw [if_pos h0]
    · rw [if_neg h0] at h ⊢
      exact key _ _ _ _ (fun e => h0 (.inl e)) h
theorem put_next' (l : List Int) (hb : Bytes l) (h : (nextU l).2 ≠ 0) : rightU (nextU l).1 ∧ (nextU l).2 = ((putU (nextU l).1).length : Int) ∧ ∃ rest, l = putU (nextU l).1 ++ rest := put_next l (nextU l).1 (nextU l).2 hb rfl h
def leadR (a : Int) : Int := if a ≥ 240 then 240 else if a ≥ 224 then 224 else if a ≥ 192 then 192 else 0
/-- A text's characters, U+FFFD for each byte that begins none. -/
def charsU (l : List Int) : List Int := match l with
  | [] => []
  | a :: r => if (nextU (a :: r)).2 = 0 then 65533 :: charsU r else (nextU (a :: r)).1 :: charsU (r.drop ((nextU (a :: r)).2.toNat - 1))
  termination_by l.length
  decreasing_by all_goals (simp only [List.length_cons, List.length_drop]; omega)
/-- Is each of its bytes a part of a character? -/
def wellU (l : List Int) : Prop := match l with
  | [] => True
  | a :: r => (nextU (a :: r)).2 ≠ 0 ∧ wellU (r.drop ((nextU (a :: r)).2.toNat - 1))
  termination_by l.length
  decreasing_by all_goals (simp only [List.length_cons, List.length_drop]; omega)
def flatU (cs : List Int) : List Int := cs.flatMap putU
theorem chars_nil : charsU [] = [] := by rw [charsU]
theorem chars_bad {a : Int} {r : List Int} (h : (nextU (a :: r)).2 = 0) : charsU (a :: r) = 65533 :: charsU r := by rw [charsU, if_pos h]
theorem chars_good {a : Int} {r : List Int} (h : (nextU (a :: r)).2 ≠ 0) : charsU (a :: r) = (nextU (a :: r)).1 :: charsU (r.drop ((nextU (a :: r)).2.toNat - 1)) := by rw [charsU, if_neg h]
theorem well_nil : wellU [] := by rw [wellU]; trivial
theorem well_cons {a : Int} {r : List Int} : wellU (a :: r) ↔ (nextU (a :: r)).2 ≠ 0 ∧ wellU (r.drop ((nextU (a :: r)).2.toNat - 1)) := by rw [wellU]
theorem right_fffd : rightU 65533 := by decide
theorem next_pos {a : Int} {r : List Int} (hb : Bytes (a :: r)) (h : (nextU (a :: r)).2 ≠ 0) : 1 ≤ (nextU (a :: r)).2 ∧ (nextU (a :: r)).2 ≤ ((a :: r).length : Int) := by
  obtain ⟨h1, h2, rest, h3⟩ := put_next' (a :: r) hb h
  generalize (nextU (a :: r)).1 = c at h1 h2 h3
  have := congrArg List.length h3
  rw [List.length_append] at this
  omega
theorem drop_pos {a : Int} {r : List Int} {k : Int} (h : 1 ≤ k) : (a :: r).drop k.toNat = r.drop (k.toNat - 1) := by
  obtain ⟨n, hn⟩ : ∃ n, k.toNat = n + 1 := ⟨k.toNat - 1, by omega⟩
  rw [hn]; rfl
theorem good_split {a : Int} {r : List Int} (hb : Bytes (a :: r)) (h : (nextU (a :: r)).2 ≠ 0) : a :: r = putU (nextU (a :: r)).1 ++ r.drop ((nextU (a :: r)).2.toNat - 1) := by
  have hp := next_pos hb h
  obtain ⟨h1, h2, rest, h3⟩ := put_next' (a :: r) hb h
  rw [← drop_pos (a := a) hp.1]
  generalize (nextU (a :: r)).2 = k at h2 hp ⊢
  generalize (nextU (a :: r)).1 = c at h1 h2 h3 ⊢
  rw [h3]
  have : k.toNat = (putU c).length := by omega
  rw [this, List.drop_left]
theorem chars_right : ∀ (n : Nat) (l : List Int), l.length ≤ n → Bytes l → ∀ c ∈ charsU l, rightU c
  | n, [], hn, hb => by rw [chars_nil]; intro c hc; cases hc
  | 0, a :: r, hn, hb => by simp at hn
  | n + 1, a :: r, hn, hb => by
    by_cases h : (nextU (a :: r)).2 = 0
    · rw [chars_bad h]
      intro c hc
      rcases List.mem_cons.1 hc with rfl | hc
      · exact right_fffd
      · exact chars_right n r (by simp at hn; omega) hb.tail c hc
    · rw [chars_good h]
      intro c hc
      rcases List.mem_cons.1 hc with rfl | hc
      · exact (put_next' (a :: r) hb h).1
      · exact chars_right n _ (by simp at hn ⊢; omega) (hb.tail.drop _) c hc
theorem chars_len : ∀ (n : Nat) (l : List Int), l.length ≤ n → (charsU l).length ≤ l.length
  | n, [], hn => by rw [chars_nil]; simp
  | 0, a :: r, hn => by simp at hn
  | n + 1, a :: r, hn => by
    by_cases h : (nextU (a :: r)).2 = 0
    · rw [chars_bad h]
      have := chars_len n r (by simp at hn; omega)
      simp; omega
    · rw [chars_good h]
      have := chars_len n (r.drop ((nextU (a :: r)).2.toNat - 1)) (by simp at hn ⊢; omega)
      simp at this ⊢; omega
theorem putU_ne {c : Int} (h : rightU c) : ∃ a r, putU c = a :: r := by
  cases hp : putU c with
  | nil =>
    have := putU_len h
    rw [hp] at this
    unfold utfSize at this
    simp at this
    split at this
    · omega
    · split at this
      · omega
      · split at this <;> omega
  | cons a r => exact ⟨a, r, rfl⟩
/-- Characters that are put, one behind the other, are those characters. -/
theorem chars_flat : ∀ (cs : List Int), (∀ c ∈ cs, rightU c) → charsU (flatU cs) = cs ∧ wellU (flatU cs)
  | [], _ => ⟨chars_nil, well_nil⟩
  | c :: cs, h => by
    have hc := h c List.mem_cons_self
    obtain ⟨h1, h2⟩ := chars_flat cs (fun x hx => h x (List.mem_cons_of_mem _ hx))
    have hn := next_put hc (flatU cs)
    obtain ⟨a, r, hp⟩ := putU_ne hc
    have e : flatU (c :: cs) = a :: (r ++ flatU cs) := by show putU c ++ flatU cs = _; rw [hp]; rfl
    rw [hp] at hn
    have hn' : nextU (a :: (r ++ flatU cs)) = (c, ((a :: r).length : Int)) := hn
    have hd : (r ++ flatU cs).drop (((a :: r).length : Int).toNat - 1) = flatU cs := by
      rw [Int.toNat_natCast, List.length_cons, Nat.add_sub_cancel, List.drop_left]
    rw [e]
    have hne : (nextU (a :: (r ++ flatU cs))).2 ≠ 0 := by rw [hn']; simp; omega
    constructor
    · rw [chars_good hne, hn']
      simp only
      rw [hd, h1]
    · rw [well_cons, hn']
      simp only
      rw [hd]
      exact ⟨by simp; omega, h2⟩
theorem flat_of_well : ∀ (n : Nat) (l : List Int), l.length ≤ n → Bytes l → wellU l → flatU (charsU l) = l
  | n, [], hn, hb, hw => by rw [chars_nil]; rfl
  | 0, a :: r, hn, hb, hw => by simp at hn
  | n + 1, a :: r, hn, hb, hw => by
    obtain ⟨h, h2⟩ := well_cons.1 hw
    rw [chars_good h]
    show putU _ ++ flatU _ = _
    rw [flat_of_well n _ (by simp at hn ⊢; omega) (hb.tail.drop _) h2]
    exact (good_split hb h).symm
theorem well_iff {l : List Int} (hb : Bytes l) : wellU l ↔ flatU (charsU l) = l := by
  constructor
  · exact flat_of_well l.length l (Nat.le_refl _) hb
  · intro h
    have := (chars_flat (charsU l) (chars_right l.length l (Nat.le_refl _) hb)).2
    rwa [h] at this
theorem flatU_bytes (cs : List Int) : Bytes (flatU cs) := by
  intro x hx
  obtain ⟨c, _, hc⟩ := List.mem_flatMap.1 hx
  exact putU_bytes c x hc
theorem flatU_len (cs : List Int) : (flatU cs).length ≤ 4 * cs.length := by
  induction cs with
  | nil => simp [flatU]
  | cons c cs ih =>
    show (putU c ++ flatU cs).length ≤ _
    have := putU_bd c
    simp
    omega
/-- How many characters; below nought: it isn't right. -/
noncomputable def countU (n : Int) (l : List Int) : Int := open Classical in if wellU l then n + (charsU l).length else -1
theorem count_nil (n : Int) : countU n [] = n := by unfold countU; rw [if_pos well_nil, chars_nil]; simp
theorem count_bad {n : Int} {a : Int} {r : List Int} (h : (nextU (a :: r)).2 = 0) : countU n (a :: r) = -1 := by unfold countU; rw [if_neg (fun e => (well_cons.1 e).1 h)]
theorem count_good {n : Int} {a : Int} {r : List Int} (h : (nextU (a :: r)).2 ≠ 0) : countU n (a :: r) = countU (n + 1) (r.drop ((nextU (a :: r)).2.toNat - 1)) := by
  unfold countU
  by_cases hw : wellU (r.drop ((nextU (a :: r)).2.toNat - 1))
  · rw [if_pos hw, if_pos (well_cons.2 ⟨h, hw⟩), chars_good h]
    simp
    omega
  · rw [if_neg hw, if_neg (fun e => hw (well_cons.1 e).2)]
theorem count_ge {l : List Int} : countU 0 l ≥ 0 ↔ wellU l := by
  unfold countU
  by_cases h : wellU l
  · rw [if_pos h]; exact ⟨fun _ => h, fun _ => by omega⟩
  · rw [if_neg h]; exact ⟨fun e => by omega, fun e => absurd e h⟩
end Go.Proofs.YtbamlphgolldlaaX

/- Characters: what utf.Next, Count and Right answer, the words on bytes. -/
set_option linter.unusedVariables false
set_option linter.unusedSimpArgs false
namespace Go.Proofs.YtbamlphgolldlaaX
open Go

theorem right_eq (n : Nat) (c : Int) : F85 n c = some (decide (rightU c)) := by
  rw [F85]
  by_cases h0 : 0 ≤ c
  · rw [decide_eq_true h0, iteB_t]
    by_cases h1 : c ≤ 1114111
    · rw [decide_eq_true h1, iteB_t]
      by_cases h2 : c < 55296
      · rw [decide_eq_true h2, iteB_t, decide_eq_true (show rightU c from ⟨h0, h1, .inl h2⟩)]
      · rw [decide_eq_false h2, iteB_f]
        congr 1
        rw [decide_eq_decide]; unfold rightU; omega
    · rw [decide_eq_false h1, iteB_f, decide_eq_false (fun e : rightU c => h1 e.2.1)]
  · rw [decide_eq_false h0, iteB_f, decide_eq_false (fun e : rightU c => h0 e.1)]
theorem size_eq (n : Nat) (c : Int) : F86 n c = some (utfSize c) := by
  rw [F86]
  rcases (show c < 128 ∨ (128 ≤ c ∧ c < 2048) ∨ (2048 ≤ c ∧ c < 65536) ∨ 65536 ≤ c by omega) with a | ⟨a, b⟩ | ⟨a, b⟩ | a
  · rw [size_1 a, decide_eq_false (by omega), iteB_f, F86_J1, decide_eq_false (by omega), iteB_f, F86_J2, decide_eq_false (by omega), iteB_f]; rfl
  · rw [size_2 a b, decide_eq_true (by omega), iteB_t, F86_J1, decide_eq_false (by omega), iteB_f, F86_J2, decide_eq_false (by omega), iteB_f]; rfl
  · rw [size_3 a b, decide_eq_true (by omega), iteB_t, F86_J1, decide_eq_true (by omega), iteB_t, F86_J2, decide_eq_false (by omega), iteB_f]; rfl
  · rw [size_4 a, decide_eq_true (by omega), iteB_t, F86_J1, decide_eq_true (by omega), iteB_t, F86_J2, decide_eq_true (by omega), iteB_t]; rfl
theorem length_eq (n : Nat) (a : Int) : F82 n a = some (lenU a : Int) := by
  rw [F82]
  unfold lenU
  by_cases h1 : a < 128
  · rw [decide_eq_true h1, if_pos h1]; rfl
  · rw [decide_eq_false h1, if_neg h1, iteB_f]
    by_cases h2 : a < 192
    · rw [decide_eq_true h2, if_pos h2]; rfl
    · rw [decide_eq_false h2, if_neg h2, iteB_f]
      by_cases h3 : a < 224
      · rw [decide_eq_true h3, if_pos h3]; rfl
      · rw [decide_eq_false h3, if_neg h3, iteB_f]
        by_cases h4 : a < 240
        · rw [decide_eq_true h4, if_pos h4]; rfl
        · rw [decide_eq_false h4, if_neg h4, iteB_f]
          by_cases h5 : a < 248
          · rw [decide_eq_true h5, if_pos h5]; rfl
          · rw [decide_eq_false h5, if_neg h5, iteB_f]; rfl
theorem lead_eq (k n : Nat) (h0 : 1 ≤ n) (h1 : n ≤ 4) : F84 k (n : Int) = some (leadU n) := by
  rw [F84]
  rcases (show n = 1 ∨ n = 2 ∨ n = 3 ∨ n = 4 by omega) with rfl | rfl | rfl | rfl <;> decide +kernel
theorem off_fin : ∀ a : Fin 256, lenU (a.val : Int) ≠ 0 → IntKind.wrap .i32 (bAndNot .i32 (a.val : Int) (leadU (lenU (a.val : Int)))) = (a.val : Int) - leadU (lenU (a.val : Int)) := by decide +kernel
theorem lead_off {a : Int} (h0 : 0 ≤ a) (h1 : a ≤ 255) (h : lenU a ≠ 0) : IntKind.wrap .i32 (bAndNot .i32 a (leadU (lenU a))) = a - leadU (lenU a) := by
  obtain ⟨m, rfl⟩ := Int.eq_ofNat_of_zero_le h0
  exact off_fin ⟨m, by omega⟩ h
theorem goes_fin : ∀ b : Fin 256, (IntKind.wrap .u8 (bAndNot .u8 (b.val : Int) 63) == (128 : Int)) = decide (128 ≤ (b.val : Int) ∧ (b.val : Int) ≤ 191) := by decide +kernel
theorem goes_eq (k : Nat) {b : Int} (h0 : 0 ≤ b) (h1 : b ≤ 255) : F83 k b = some (decide (128 ≤ b ∧ b ≤ 191)) := by
  obtain ⟨m, rfl⟩ := Int.eq_ofNat_of_zero_le h0
  rw [F83]
  exact congrArg some (goes_fin ⟨m, by omega⟩)
theorem acc_step {c b : Int} {m : Nat} (h0 : 0 ≤ c) (hb : 0 ≤ b) (hc : c * 64 ^ (m + 1) + 64 ^ (m + 1) ≤ 2097152) : c * 64 + 64 ≤ 2097152 ∧ (c * 64 + b % 64) * 64 ^ m + 64 ^ m ≤ 2097152 := by
  have hp : (0 : Int) < 64 ^ m := Int.pow_pos (by omega)
  have hpe : (64 : Int) ^ (m + 1) = 64 ^ m * 64 := Int.pow_succ ..
  rw [hpe] at hc
  generalize (64 : Int) ^ m = P at hc hp
  clear hpe
  have e1 : c * (P * 64) = c * 64 * P := by rw [Int.mul_comm P 64, Int.mul_assoc]
  rw [e1] at hc
  have h1 : (c * 64 + 64) * 1 ≤ (c * 64 + 64) * P := Int.mul_le_mul_of_nonneg_left (by omega) (by omega)
  have h2 : (c * 64 + 64) * P = c * 64 * P + 64 * P := Int.add_mul ..
  have e5 : (c * 64 + b % 64) * P ≤ (c * 64 + 63) * P := Int.mul_le_mul_of_nonneg_right (by omega) (by omega)
  have e6 : (c * 64 + 63) * P = c * 64 * P + 63 * P := Int.add_mul ..
  rw [h2] at h1
  rw [e6] at e5
  generalize c * 64 * P = X at *
  generalize (c * 64 + b % 64) * P = Y at *
  exact ⟨by omega, by omega⟩
theorem acc_eq {c b : Int} (h0 : 0 ≤ c) (hb : 0 ≤ b) (hb1 : b ≤ 255) (hc : c * 64 + 64 ≤ 2097152) : IntKind.wrap .i32 (bOr .i32 (IntKind.wrap .i32 (bShl .i32 c 6)) (IntKind.wrap .i32 (IntKind.wrap .u8 (bAnd .u8 b (63 : Int))))) = c * 64 + b % 64 := by
  have e1 : bAnd .u8 b 63 = b % 64 := bAnd_low .u8 6 b hb (by show b < 256; omega) (by decide) 63 (by decide)
  have e2 : bShl .i32 c 6 = c * 64 := by
    unfold bShl
    rw [show (2 : Int) ^ min 6 (IntKind.bits .i32) = 64 by decide]
  rw [e1, e2, wu8 (by omega), w32 (n := b % 64) (by omega), w32 (n := c * 64) (by omega)]
  rw [bOr_add .i32 6 (c * 64) (b % 64) (by omega) (by show c * 64 < 4294967296; omega) (by show c * 64 % 64 = 0; omega) (by omega) (by show b % 64 < 64; omega) (by decide), w32 (by omega)]

/-! ### Next -/
theorem ev_Next_loop (s : List UInt8) (n : Nat) (hn : n ≤ 4) (hns : n ≤ s.length) : ∀ (m i : Nat) (c : Int), i + m = n → 0 ≤ c → c * 64 ^ m + 64 ^ m ≤ 2097152 →
    Ev (fun k => F44_L1 k s (n : Int) c (i : Int)) (contU n c ((ints s).drop i) m) := by
  intro m
  induction m with
  | zero =>
    intro i c hi h0 hc
    rw [contU_fin]
    unfold finU
    by_cases hr : rightU c
    · by_cases hz : utfSize c = (n : Int)
      · rw [if_pos (show rightU c ∧ utfSize c = (n : Int) from ⟨hr, hz⟩)]
        refine Ev.step (Ev.pure.congr fun k => ?_)
        rw [F44_L1, decide_eq_false (by omega), iteB_f, right_eq, bind_some', decide_eq_true hr]
        show iteB false _ _ = _
        rw [iteB_f, size_eq, bind_some', show (utfSize c != (n : Int)) = false by rw [hz]; simp, iteB_f]
      · rw [if_neg (show ¬ (rightU c ∧ utfSize c = (n : Int)) from fun e => hz e.2)]
        refine Ev.step (Ev.pure.congr fun k => ?_)
        rw [F44_L1, decide_eq_false (by omega), iteB_f, right_eq, bind_some', decide_eq_true hr]
        show iteB false _ _ = _
        rw [iteB_f, size_eq, bind_some', show (utfSize c != (n : Int)) = true by rw [bne_iff_ne]; exact hz, iteB_t]
    · rw [if_neg (show ¬ (rightU c ∧ utfSize c = (n : Int)) from fun e => hr e.1)]
      refine Ev.step (Ev.pure.congr fun k => ?_)
      rw [F44_L1, decide_eq_false (by omega), iteB_f, right_eq, bind_some', decide_eq_false hr]
      rfl
  | succ m ih =>
    intro i c hi h0 hc
    rw [drop_bt s i (by omega)]
    have hb := bt_bd s i
    have hbe : ((s.getD i 0).toNat : Int) = bt s i := rfl
    have hw : IntKind.wrap .i64 ((i : Int) + 1) = ((i + 1 : Nat) : Int) := by rw [w64 (by omega)]; omega
    have hg := fun k => goes_eq k hb.1 hb.2
    generalize bt s i = b at *
    by_cases hcn : 128 ≤ b ∧ b ≤ 191
    · obtain ⟨k1, k2⟩ := acc_step h0 hb.1 hc
      rw [contU_step hcn]
      refine Ev.step ((ih (i + 1) (c * 64 + b % 64) (by omega) (by omega) k2).congr fun k => ?_)
      rw [F44_L1, decide_eq_true (by omega), iteB_t, grd_t _ (by omega), toNat_nat, hbe, hg, bind_some', decide_eq_true hcn]
      show iteB false _ _ = _
      rw [iteB_f, grd_t _ (by omega), acc_eq h0 hb.1 hb.2 k1, hw]
    · rw [contU_no hcn]
      refine Ev.step (Ev.pure.congr fun k => ?_)
      rw [F44_L1, decide_eq_true (by omega), iteB_t, grd_t _ (by omega), toNat_nat, hbe, hg, bind_some', decide_eq_false hcn]
      rfl
theorem lenU_le (a : Int) : lenU a ≤ 4 := by
  unfold lenU
  repeat' split
  all_goals omega
theorem ev_Next (s : List UInt8) : Ev (fun k => F44 k s) (nextU (ints s)) := by
  by_cases h0 : s.length = 0
  · obtain rfl := List.eq_nil_of_length_eq_zero h0
    refine Ev.pure.congr fun k => ?_
    rw [F44]; rfl
  · have hd := drop_bt s 0 (by omega)
    rw [List.drop_zero] at hd
    have hb := bt_bd s 0
    have hbe : ((s.getD 0 0).toNat : Int) = bt s 0 := rfl
    have hne : (s == []) = false := by rw [beq_eq_false_iff_ne]; rintro rfl; exact h0 rfl
    have z0 : ((0 : Int)).toNat = 0 := rfl
    rw [hd]
    have hlen : (bt s 0 :: (ints s).drop 1).length = s.length := by simp [ints_len]; omega
    show Ev _ (nextU (bt s 0 :: (ints s).drop 1))
    rw [nextU, hlen]
    have h4 := lenU_le (bt s 0)
    generalize hB : bt s 0 = b at *
    by_cases hz : lenU b = 0
    · rw [if_pos (.inl hz)]
      refine Ev.pure.congr fun k => ?_
      rw [F44, hne, iteB_f, grd_t _ (by omega), z0, hbe, length_eq, bind_some', hz]; rfl
    · by_cases hg : lenU b > s.length
      · rw [if_pos (.inr hg)]
        refine Ev.pure.congr fun k => ?_
        rw [F44, hne, iteB_f, grd_t _ (by omega), z0, hbe, length_eq, bind_some', show (((lenU b : Nat) : Int) == 0) = false by rw [beq_eq_false_iff_ne]; omega, iteB_f, decide_eq_true (by omega), iteB_t]
      · rw [if_neg (by omega)]
        have hlead : 0 ≤ b - leadU (lenU b) ∧ (b - leadU (lenU b)) * 64 ^ (lenU b - 1) + 64 ^ (lenU b - 1) ≤ 2097152 := by
          rcases (show b < 128 ∨ (192 ≤ b ∧ b < 224) ∨ (224 ≤ b ∧ b < 240) ∨ (240 ≤ b ∧ b < 248) ∨ ((128 ≤ b ∧ b < 192) ∨ 248 ≤ b) by omega) with e | ⟨e1, e2⟩ | ⟨e1, e2⟩ | ⟨e1, e2⟩ | e
          · rw [len_1 e, show leadU 1 = 0 from rfl]; simp; omega
          · rw [len_2 e1 e2, show leadU 2 = 192 from rfl]; simp; omega
          · rw [len_3 e1 e2, show leadU 3 = 224 from rfl]; simp; omega
          · rw [len_4 e1 e2, show leadU 4 = 240 from rfl]; simp; omega
          · exact absurd (len_0 e) hz
        have e := ev_Next_loop s (lenU b) h4 (by omega) (lenU b - 1) 1 (b - leadU (lenU b)) (by omega) hlead.1 hlead.2
        refine e.congr fun k => ?_
        rw [F44, hne, iteB_f, grd_t _ (by omega), z0, hbe, length_eq, bind_some', show (((lenU b : Nat) : Int) == 0) = false by rw [beq_eq_false_iff_ne]; omega, iteB_f, decide_eq_false (by omega), iteB_f, grd_t _ (by omega), lead_eq k (lenU b) (by omega) (by omega), bind_some', w32 (n := b) (by omega), lead_off hb.1 hb.2 hz]
        rfl

end Go.Proofs.YtbamlphgolldlaaX

/- Characters: Count and Right. -/
set_option linter.unusedVariables false
set_option linter.unusedSimpArgs false
namespace Go.Proofs.YtbamlphgolldlaaX
open Go
theorem ev_Count_loop : ∀ (d : Nat) (s : List UInt8) (n : Int), s.length ≤ d → s.length ≤ 1000000000 → 0 ≤ n → n + s.length ≤ 1000000000 →
    Ev (fun k => F48_L1 k s n) (countU n (ints s)) := by
  intro d
  have zero : ∀ (s : List UInt8) (n : Int), s.length = 0 → Ev (fun k => F48_L1 k s n) (countU n (ints s)) := by
    intro s n hz
    obtain rfl := List.eq_nil_of_length_eq_zero hz
    rw [show ints [] = [] from rfl, count_nil]
    exact Ev.step (Ev.pure.congr fun k => by rw [F48_L1]; rfl)
  induction d with
  | zero => intro s n hd hs h0 hn; exact zero s n (by omega)
  | succ d ih =>
    intro s n hd hs h0 hn
    by_cases hz : s.length = 0
    · exact zero s n hz
    · obtain ⟨a, r, hl⟩ := ints_cons s hz
      have hb := ints_bytes s
      have hlen := ints_len s
      obtain ⟨N1, e1⟩ := ev_Next s
      have hne : (s == []) = false := by rw [beq_eq_false_iff_ne]; rintro rfl; exact hz rfl
      rw [hl] at hb hlen e1 ⊢
      by_cases h : (nextU (a :: r)).2 = 0
      · rw [count_bad h]
        have hzb : ((nextU (a :: r)).2 == (0 : Int)) = true := by rw [h]; rfl
        refine Ev.step ⟨N1, fun n' hn' => ?_⟩
        have q := e1 n' hn'
        dsimp only at q
        show F48_L1 (n' + 1) s n = _
        rw [F48_L1, hne, Bool.not_false, iteB_t, q, bind_some', hzb, iteB_t]
      · have hp := next_pos hb h
        rw [count_good h]
        have hzb : ((nextU (a :: r)).2 == (0 : Int)) = false := by rw [beq_eq_false_iff_ne]; exact h
        have hdr : ints (s.drop (nextU (a :: r)).2.toNat) = r.drop ((nextU (a :: r)).2.toNat - 1) := by rw [ints_drop, hl, drop_pos hp.1]
        have hw : IntKind.wrap .i64 (n + 1) = n + 1 := w64 (by omega)
        obtain ⟨M2, i2⟩ := ih (s.drop (nextU (a :: r)).2.toNat) (n + 1) (by rw [List.length_drop]; omega) (by rw [List.length_drop]; omega) (by omega) (by rw [List.length_drop]; omega)
        rw [hdr] at i2
        have q1 : (nextU (a :: r)).2 ≤ (s.length : Int) := by rw [← hlen]; exact hp.2
        refine Ev.step ⟨N1 + M2, fun n' hn' => ?_⟩
        have q := e1 n' (by omega)
        have q' := i2 n' (by omega)
        dsimp only at q q'
        show F48_L1 (n' + 1) s n = _
        rw [F48_L1, hne, Bool.not_false, iteB_t, q, bind_some', hzb, iteB_f, grd_t _ (by omega), hw, q']
theorem ev_Count (s : List UInt8) (hs : s.length ≤ 1000000000) : Ev (fun k => F48 k s) (countU 0 (ints s)) := (ev_Count_loop s.length s 0 (Nat.le_refl _) hs (by omega) (by omega)).congr fun k => rfl
theorem ev_Right (s : List UInt8) (hs : s.length ≤ 1000000000) : Ev (fun k => F13 k s) (decide ((0 : Int) ≤ countU 0 (ints s))) :=
  (Ev.bind (g := fun _ v => some (decide ((0 : Int) ≤ v))) (ev_Count s hs) Ev.pure).congr fun k => rfl
end Go.Proofs.YtbamlphgolldlaaX

/- Characters: what utf.Put and Clean answer. -/
set_option linter.unusedVariables false
set_option linter.unusedSimpArgs false
namespace Go.Proofs.YtbamlphgolldlaaX
open Go

theorem leadB (L d : Int) (i : Nat) (hi : i ≤ 8) (h0 : 0 ≤ d) (h1 : d < 2 ^ i) (hL : L % 2 ^ i = 0) (hL0 : 0 ≤ L) (hs : L + d ≤ 255) : IntKind.u8.wrap (IntKind.i32.wrap (bOr .i32 L d)) = L + d := by
  have e : (2 : Int) ^ IntKind.i32.bits = 4294967296 := by decide
  rw [bOr_add .i32 i L d hL0 (by omega) hL h0 h1 (by show i ≤ 32; omega), Go.IntWalk.i32_in _ (by omega), Go.IntWalk.u8_in _ (by omega)]
theorem followB (d : Int) (h0 : 0 ≤ d) (h1 : d < 2147483648) : IntKind.u8.wrap (IntKind.i32.wrap (bOr .i32 128 (IntKind.i32.wrap (bAnd .i32 d 63)))) = 128 + d % 64 := by
  have e : (2 : Int) ^ IntKind.i32.bits = 4294967296 := by decide
  rw [bAnd_low .i32 6 d h0 (by omega) (by decide) 63 (by decide), Go.IntWalk.i32_in (d % 2 ^ 6) (by omega)]
  exact leadB 128 (d % 2 ^ 6) 6 (by omega) (by omega) (by omega) (by decide) (by decide) (by omega)
/-- The bytes behind the first one. -/
def tailU (c : Int) : Nat → List Int
  | 0 => []
  | k + 1 => (128 + c / 64 ^ k % 64) :: tailU c k
theorem put_loop (c : Int) (h0 : 0 ≤ c) (h1 : c ≤ 1114111) : ∀ (k : Nat) (l : List Int), k ≤ 3 → l.length + k ≤ 549755813000 → Ev (fun n => F81_L1 n c ((k : Int) - 1) l) (l ++ tailU c k)
  | 0, l, hk, hl => Ev.step (Ev.pure.congr fun n => by
      rw [F81_L1, decide_eq_false (by omega), iteB_f]; simp [tailU])
  | k + 1, l, hk, hl => by
    have e1 : (((k + 1 : Nat) : Int) - 1) = (k : Int) := by omega
    have e2 : IntKind.wrap .i64 ((k : Int) - 1) = (k : Int) - 1 := w64 (by omega)
    have e3 : IntKind.wrap .i64 (6 * (k : Int)) = 6 * (k : Int) := w64 (by omega)
    have hp : (1 : Int) ≤ 64 ^ k := by
      match k, hk with
      | 0, _ => decide
      | 1, _ => decide
      | 2, _ => decide
    have e4 : bShr .i32 c (6 * (k : Int)).toNat = c / 64 ^ k := by
      refine bShr_div .i32 c _ _ ?_ (by omega)
      match k, hk with
      | 0, _ => decide
      | 1, _ => decide
      | 2, _ => decide
    have q0 : 0 ≤ c / 64 ^ k := Int.ediv_nonneg h0 (by omega)
    have q1 : c / 64 ^ k ≤ c := Int.ediv_le_self _ h0
    have ih := put_loop c h0 h1 k (l ++ [128 + c / 64 ^ k % 64]) (by omega) (by simp; omega)
    rw [show l ++ tailU c (k + 1) = l ++ [128 + c / 64 ^ k % 64] ++ tailU c k by simp [tailU]]
    refine Ev.step (ih.congr fun n => ?_)
    show F81_L1 (n + 1) c (((k + 1 : Nat) : Int) - 1) l = _
    rw [e1, F81_L1, decide_eq_true (show (0 : Int) ≤ (k : Int) by omega), iteB_t, e3, e2, e4, followB _ q0 (by omega)]
    rw [grd_t _ (by omega), grd_t _ (by omega)]
theorem ev_Put (l : List Int) (c : Int) (hc0 : -2147483648 ≤ c) (hc1 : c ≤ 2147483647) (hl : l.length ≤ 549755800000) : Ev (fun n => F81 n l c) (l ++ putU c) := by
  by_cases hr : rightU c
  case neg =>
    refine Ev.pure.congr fun n => ?_
    rw [F81, grd_t _ (by omega), right_eq, bind_some', decide_eq_false hr, Bool.not_false, iteB_t, putU_no hr, List.append_nil]
  obtain ⟨h0, h1, _⟩ := id hr
  have key : ∀ (k : Nat) (L m : Int), k ≤ 3 → utfSize c = (k : Int) + 1 → leadU (k + 1) = L → 64 ^ k = m → IntKind.u8.wrap (IntKind.i32.wrap (bOr .i32 L (c / m))) = L + c / m → putU c = (L + c / m) :: tailU c k → Ev (fun n => F81 n l c) (l ++ putU c) := by
    intro k L m hk hs hL hm hb hp
    have ih := put_loop c h0 h1 k (l ++ [L + c / m]) hk (by simp; omega)
    rw [hp]
    rw [List.append_assoc] at ih
    refine ih.congr fun n => ?_
    have e1 : IntKind.wrap .i64 ((k : Int) + 1 - 1) = (k : Int) := by rw [w64 (by omega)]; omega
    have e2 : IntKind.wrap .i64 ((k : Int) + 1 - 2) = (k : Int) - 1 := by rw [w64 (by omega)]; omega
    have e3 : IntKind.wrap .i64 (6 * (k : Int)) = 6 * (k : Int) := w64 (by omega)
    have e4 : bShr .i32 c (6 * (k : Int)).toNat = c / m := by
      subst hm
      refine bShr_div .i32 c _ _ ?_ ?_
      · match k, hk with
        | 0, _ => decide
        | 1, _ => decide
        | 2, _ => decide
        | 3, _ => decide
      · match k, hk with
        | 0, _ => decide
        | 1, _ => decide
        | 2, _ => decide
        | 3, _ => decide
    have hle := lead_eq n (k + 1) (by omega) (by omega)
    rw [show (((k + 1 : Nat)) : Int) = (k : Int) + 1 from by omega, hL] at hle
    rw [F81, grd_t _ (by omega), right_eq, bind_some', decide_eq_true hr, Bool.not_true, iteB_f, size_eq, bind_some', hs, hle, bind_some', e1, e2, e3, grd_t _ (by omega), grd_t _ (by omega), e4, hb]
  rcases (show c < 128 ∨ (128 ≤ c ∧ c < 2048) ∨ (2048 ≤ c ∧ c < 65536) ∨ 65536 ≤ c by omega) with a | ⟨a, b⟩ | ⟨a, b⟩ | a
  · exact key 0 0 1 (by omega) (size_1 a) (by decide) (by decide) (leadB 0 (c / 1) 7 (by omega) (by omega) (by omega) (by decide) (by decide) (by omega)) (by rw [putU_1 hr a]; simp [tailU])
  · exact key 1 192 64 (by omega) (size_2 a b) (by decide) (by decide) (leadB 192 (c / 64) 5 (by omega) (by omega) (by omega) (by decide) (by decide) (by omega)) (by rw [putU_2 hr a b]; simp [tailU])
  · exact key 2 224 4096 (by omega) (size_3 a b) (by decide) (by decide) (leadB 224 (c / 4096) 4 (by omega) (by omega) (by omega) (by decide) (by decide) (by omega)) (by rw [putU_3 hr a b]; simp [tailU])
  · exact key 3 240 262144 (by omega) (size_4 a) (by decide) (by decide) (leadB 240 (c / 262144) 3 (by omega) (by omega) (by omega) (by decide) (by decide) (by omega)) (by rw [putU_4 hr a]; simp [tailU])
theorem clean_loop : ∀ (d : Nat) (s : List UInt8) (l : List Int), s.length ≤ d → d ≤ 1000000000 → l.length + 4 * d ≤ 10000000000 → Ev (fun n => F43_L1 n s l) ((l ++ flatU (charsU (ints s))).map toB) := by
  intro d
  induction d with
  | zero =>
    intro s l hd _ _
    obtain rfl := List.eq_nil_of_length_eq_zero (by omega : s.length = 0)
    rw [show ints [] = [] from rfl, chars_nil]
    exact Ev.step (Ev.pure.congr fun n => by rw [F43_L1]; simp [flatU, iteB])
  | succ d ih =>
    intro s l hd hd1 hl
    by_cases hz : s.length = 0
    · obtain rfl := List.eq_nil_of_length_eq_zero hz
      rw [show ints [] = [] from rfl, chars_nil]
      exact Ev.step (Ev.pure.congr fun n => by rw [F43_L1]; simp [flatU, iteB])
    · obtain ⟨a, r, hi⟩ := ints_cons s hz
      have hb := ints_bytes s
      have hlen := ints_len s
      obtain ⟨N1, e1⟩ := ev_Next s
      have hne : (s == []) = false := by rw [beq_eq_false_iff_ne]; rintro rfl; exact hz rfl
      rw [hi] at hb hlen e1 ⊢
      by_cases h : (nextU (a :: r)).2 = 0
      · have hzb : ((nextU (a :: r)).2 == (0 : Int)) = true := by rw [h]; rfl
        rw [chars_bad h]
        obtain ⟨N2, e2⟩ := ev_Put l 65533 (by omega) (by omega) (by omega)
        obtain ⟨N3, e3⟩ := ih (s.drop 1) (l ++ putU 65533) (by rw [List.length_drop]; omega) (by omega) (by have := putU_bd 65533; simp; omega)
        have hdr : ints (s.drop 1) = r := by rw [ints_drop, hi]; rfl
        rw [hdr, List.append_assoc] at e3
        refine Ev.step ⟨N1 + N2 + N3, fun n hn => ?_⟩
        have q1 := e1 n (by omega)
        have q2 := e2 n (by omega)
        have q3 := e3 n (by omega)
        dsimp only at q1 q2 q3
        show F43_L1 (n + 1) s l = _
        rw [F43_L1, hne, Bool.not_false, iteB_t, q1, bind_some', hzb, iteB_t, F43_J2, q2, bind_some', grd_t _ (by omega)]
        exact q3
      · have hzb : ((nextU (a :: r)).2 == (0 : Int)) = false := by rw [beq_eq_false_iff_ne]; exact h
        have hp := next_pos hb h
        have hr := (put_next' _ hb h).1
        obtain ⟨g0, g1, _⟩ := id hr
        rw [chars_good h]
        obtain ⟨N2, e2⟩ := ev_Put l (nextU (a :: r)).1 (by omega) (by omega) (by omega)
        obtain ⟨N3, e3⟩ := ih (s.drop (nextU (a :: r)).2.toNat) (l ++ putU (nextU (a :: r)).1) (by rw [List.length_drop]; omega) (by omega) (by have := putU_bd (nextU (a :: r)).1; simp; omega)
        have hdr : ints (s.drop (nextU (a :: r)).2.toNat) = r.drop ((nextU (a :: r)).2.toNat - 1) := by rw [ints_drop, hi, drop_pos hp.1]
        rw [hdr, List.append_assoc] at e3
        refine Ev.step ⟨N1 + N2 + N3, fun n hn => ?_⟩
        have q1 := e1 n (by omega)
        have q2 := e2 n (by omega)
        have q3 := e3 n (by omega)
        dsimp only at q1 q2 q3
        show F43_L1 (n + 1) s l = _
        rw [F43_L1, hne, Bool.not_false, iteB_t, q1, bind_some', hzb, iteB_f, F43_J2, q2, bind_some', grd_t _ (by omega)]
        exact q3
theorem ev_Clean (s : List UInt8) (hs : s.length ≤ 1000000000) : Ev (fun n => F43 n s) ((flatU (charsU (ints s))).map toB) := by
  have := clean_loop s.length s [] (Nat.le_refl _) hs (by simp; omega)
  rw [List.nil_append] at this
  exact this.congr fun n => rfl
end Go.Proofs.YtbamlphgolldlaaX

/- What stands between elements, in characters: its bytes, and when it is as it was. -/
set_option linter.unusedVariables false
set_option linter.unusedSimpArgs false
namespace Go.Proofs.YtbamlphgolldlaaX
open Go

def escC (c : Int) : List Int :=
  if c = 60 then [38, 108, 116, 59] else if c = 62 then [38, 103, 116, 59] else if c = 38 then [38, 97, 109, 112, 59] else if c = 34 then [38, 113, 117, 111, 116, 59]
  else if c = 13 then [38, 35, 49, 51, 59] else if c = 9 ∨ c = 10 then [c] else if c = 65534 ∨ c = 65535 then [65533] else if c < 32 then [65533] else [c]
/-- Of one character. -/
def esc1 (c : Int) : List Int := flatU (escC c)
def escU (cs : List Int) : List Int := cs.flatMap esc1
theorem flatU_one (c : Int) : flatU [c] = putU c := by simp [flatU]
theorem flatU_append (l r : List Int) : flatU (l ++ r) = flatU l ++ flatU r := by simp [flatU]
theorem escU_flat : ∀ cs : List Int, escU cs = flatU (cs.flatMap escC)
  | [] => rfl
  | c :: cs => by rw [List.flatMap_cons, flatU_append, ← escU_flat cs]; rfl
theorem escC_right {c : Int} (h : rightU c) : ∀ x ∈ escC c, rightU x := by
  intro x hx
  unfold escC at hx
  repeat' split at hx
  all_goals simp only [List.mem_cons, List.not_mem_nil, or_false] at hx
  all_goals (first | (subst hx; first | exact h | decide) | (rcases hx with h | h | h | h | h | h <;> (subst h; decide)) | (rcases hx with h | h | h | h | h <;> (subst h; decide)) | (rcases hx with h | h | h | h <;> (subst h; decide)))
theorem escU_well {cs : List Int} (h : ∀ c ∈ cs, rightU c) : wellU (escU cs) := by
  rw [escU_flat]
  refine (chars_flat _ fun x hx => ?_).2
  obtain ⟨c, hc, hx⟩ := List.mem_flatMap.1 hx
  exact escC_right (h c hc) x hx
/-- A sign that may not stand there. -/
def badS (x : Int) : Prop := x = 60 ∨ x = 62 ∨ x = 34 ∨ (x < 32 ∧ x ≠ 9 ∧ x ≠ 10)
theorem putU_hi {c : Int} (h : rightU c) (h1 : 128 ≤ c) : ∀ x ∈ putU c, 128 ≤ x := by
  intro x hx
  obtain ⟨h0, h2, h3⟩ := id h
  rcases (show (128 ≤ c ∧ c < 2048) ∨ (2048 ≤ c ∧ c < 65536) ∨ 65536 ≤ c by omega) with ⟨a, b⟩ | ⟨a, b⟩ | a
  · rw [putU_2 h a b] at hx; simp only [List.mem_cons, List.not_mem_nil, or_false] at hx; rcases hx with e | e <;> omega
  · rw [putU_3 h a b] at hx; simp only [List.mem_cons, List.not_mem_nil, or_false] at hx; rcases hx with e | e | e <;> omega
  · rw [putU_4 h a] at hx; simp only [List.mem_cons, List.not_mem_nil, or_false] at hx; rcases hx with e | e | e | e <;> omega
/-- The characters of an escaped text: none is a sign that may not stand there. -/
theorem escC_ok {c : Int} (h : rightU c) : ∀ x ∈ escC c, ¬ badS x := by
  intro x hx
  unfold escC at hx
  obtain ⟨g0, g1, g2⟩ := h
  repeat' split at hx
  all_goals simp only [List.mem_cons, List.not_mem_nil, or_false] at hx
  all_goals unfold badS
  all_goals omega
theorem escU_ok {cs : List Int} (h : ∀ c ∈ cs, rightU c) : ∀ x ∈ escU cs, ¬ badS x := by
  intro x hx
  rw [escU_flat] at hx
  obtain ⟨y, hy, hx⟩ := List.mem_flatMap.1 hx
  obtain ⟨c, hc, hy⟩ := List.mem_flatMap.1 hy
  have hr := escC_right (h c hc) y hy
  by_cases h8 : y < 128
  · rw [putU_1 hr h8] at hx
    simp only [List.mem_cons, List.not_mem_nil, or_false] at hx
    subst hx
    exact escC_ok (h c hc) x hy
  · have := putU_hi hr (by omega) x hx
    unfold badS; omega
/-- A byte that is special. -/
def spec (x : Int) : Prop := x = 60 ∨ x = 62 ∨ x = 38 ∨ x = 34 ∨ (x < 32 ∧ x ≠ 9 ∧ x ≠ 10) ∨ x = 239
theorem esc1_same {c : Int} (h : rightU c) (hs : ∀ x ∈ putU c, ¬ spec x) : esc1 c = putU c := by
  have key : escC c = [c] := by
    obtain ⟨h0, h2, h3⟩ := id h
    by_cases h8 : c < 128
    · rw [putU_1 h h8] at hs
      have := hs c (by simp)
      unfold spec at this
      unfold escC
      rw [if_neg (by omega), if_neg (by omega), if_neg (by omega), if_neg (by omega), if_neg (by omega)]
      split
      · rfl
      · rw [if_neg (by omega), if_neg (by omega)]
    · have hn : ¬ (c = 65534 ∨ c = 65535) := by
        intro e
        have e3 : putU c = [224 + c / 4096, 128 + c / 64 % 64, 128 + c % 64] := putU_3 h (by omega) (by omega)
        rw [e3] at hs
        have := hs (224 + c / 4096) (by simp)
        unfold spec at this
        omega
      unfold escC
      rw [if_neg (by omega), if_neg (by omega), if_neg (by omega), if_neg (by omega), if_neg (by omega), if_neg (by omega), if_neg hn, if_neg (by omega)]
  unfold esc1
  rw [key, flatU_one]
theorem escU_same : ∀ {cs : List Int}, (∀ c ∈ cs, rightU c) → (∀ x ∈ flatU cs, ¬ spec x) → escU cs = flatU cs
  | [], _, _ => rfl
  | c :: cs, h, hs => by
    show esc1 c ++ escU cs = putU c ++ flatU cs
    rw [esc1_same (h c (by simp)) (fun x hx => hs x (by show x ∈ putU c ++ flatU cs; exact List.mem_append_left _ hx)), escU_same (fun x hx => h x (by simp [hx])) (fun x hx => hs x (by show x ∈ putU c ++ flatU cs; exact List.mem_append_right _ hx))]
theorem esc1_len (c : Int) : (esc1 c).length ≤ 24 := by
  have : (escC c).length ≤ 6 := by unfold escC; repeat' split
                                   all_goals simp
  have := flatU_len (escC c)
  unfold esc1; omega
theorem escU_len : ∀ cs : List Int, (escU cs).length ≤ 24 * cs.length
  | [] => by simp [escU]
  | c :: cs => by
    show (esc1 c ++ escU cs).length ≤ _
    have := esc1_len c
    have := escU_len cs
    simp; omega
theorem escU_bytes (cs : List Int) : Bytes (escU cs) := by rw [escU_flat]; exact flatU_bytes _
end Go.Proofs.YtbamlphgolldlaaX

/- strings.Builder, plain. -/
set_option linter.unusedVariables false
set_option linter.unusedSimpArgs false
namespace Go.Proofs.YtbamlphgolldlaaX
open Go

theorem bld_String (n : Nat) (b : Bool) (l : List Int) (h : Bytes l) (hl : l.length ≤ 549755813888) : F47 n (b, l) = some (l.map toB, (b, l)) := by
  unfold F47
  exact if_pos ⟨hl, all_bytes h⟩
theorem bld_Write (n : Nat) (b : Bool) (l : List Int) (s : List UInt8) (hl : l.length + s.length ≤ 549755813888) : F45 n (b, l) s = some ((s.length : Int), (), true, l ++ ints s) := by
  unfold F45
  rw [show F87 n (b, l) = some (true, l) from rfl, bind_some', grd_t _ hl]
  rfl
end Go.Proofs.YtbamlphgolldlaaX

/- What xmlout.Escape answers. -/
set_option linter.unusedVariables false
set_option linter.unusedSimpArgs false
namespace Go.Proofs.YtbamlphgolldlaaX
open Go

theorem esc1_of {c : Int} {l : List Int} (h : escC c = l) (hf : flatU l = l) : esc1 c = l := by unfold esc1; rw [h, hf]
theorem sign_eq (n : Nat) (c : Int) : F46 n c ((putU c).map toB) = some ((esc1 c).map toB) := by
  unfold F46
  by_cases h1 : c = 60
  · subst h1; rfl
  by_cases h2 : c = 62
  · subst h2; rfl
  by_cases h3 : c = 38
  · subst h3; rfl
  by_cases h4 : c = 34
  · subst h4; rfl
  by_cases h5 : c = 13
  · subst h5; rfl
  rw [bq h1, iteB_f, bq h2, iteB_f, bq h3, iteB_f, bq h4, iteB_f, bq h5, iteB_f]
  by_cases h6 : c = 9
  · subst h6; rfl
  by_cases h7 : c = 10
  · subst h7; rfl
  rw [bq h6, bq h7, iteB_f]
  unfold F46_J1
  rw [iteB_f]
  by_cases h8 : c = 65534
  · subst h8; rfl
  by_cases h9 : c = 65535
  · subst h9; rfl
  rw [bq h8, bq h9, iteB_f, iteB_f]
  have e : esc1 c = if c < 32 then [239, 191, 189] else putU c := by
    unfold esc1 escC
    rw [if_neg h1, if_neg h2, if_neg h3, if_neg h4, if_neg h5, if_neg (by omega), if_neg (by omega)]
    split
    · rfl
    · exact flatU_one c
  rw [e]
  by_cases ha : c < 32
  · rw [decide_eq_true ha, iteB_t, if_pos ha]; rfl
  · rw [decide_eq_false ha, iteB_f, if_neg ha]
theorem esc1_bytes (c : Int) : Bytes (esc1 c) := flatU_bytes _
theorem escape_loop : ∀ (cs : List Int) (s : List UInt8) (b : Bool) (l : List Int), (∀ c ∈ cs, rightU c) → ints s = flatU cs → Bytes l → l.length + 24 * cs.length ≤ 549755813000 → s.length ≤ 4000000000 →
    Ev (fun n => F12_L1 n s b l) ((l ++ escU cs).map toB)
  | [], s, b, l, hr, hs, hb, hl, hsl => by
    obtain rfl : s = [] := of_ints hs
    rw [show escU [] = [] from rfl, List.append_nil]
    exact Ev.step (Ev.pure.congr fun n => by
      rw [F12_L1, show (!(([] : List UInt8) == [])) = false from rfl, iteB_f, bld_String n b l hb (by simp at hl; omega), bind_some'])
  | c :: cs, s, b, l, hr, hs, hb, hl, hsl => by
    have hc := hr c (by simp)
    have hs' : ints s = putU c ++ flatU cs := hs
    obtain ⟨N1, e1⟩ := ev_Next s
    rw [hs', next_put hc] at e1
    have hlen := ints_len s
    rw [hs', List.length_append] at hlen
    obtain ⟨x, r, hp⟩ := putU_ne hc
    have hp1 : 1 ≤ (putU c).length := by rw [hp]; simp
    have hne : (s == []) = false := by
      rw [beq_eq_false_iff_ne]; rintro rfl
      rw [List.length_nil] at hlen; omega
    have htake : s.take (putU c).length = (putU c).map toB := of_ints (by rw [ints_take, hs', List.take_left])
    have hdrop : ints (s.drop (putU c).length) = flatU cs := by rw [ints_drop, hs', List.drop_left]
    have h24 := esc1_len c
    have hl' : l.length + 24 * (cs.length + 1) ≤ 549755813000 := hl
    obtain ⟨N2, e2⟩ := escape_loop cs (s.drop (putU c).length) true (l ++ esc1 c) (fun y hy => hr y (by simp [hy])) hdrop (hb.append (esc1_bytes c)) (by simp; omega) (by rw [List.length_drop]; omega)
    refine Ev.step ⟨N1 + N2, fun n hn => ?_⟩
    have q1 := e1 n (by omega)
    have q2 := e2 n (by omega)
    dsimp only at q1 q2
    show F12_L1 (n + 1) s b l = _
    rw [F12_L1, hne, Bool.not_false, iteB_t, q1, bind_some', grd_t _ (by dsimp only; omega)]
    dsimp only
    rw [toNat_nat, htake, sign_eq, bind_some', bld_Write n b l _ (by rw [List.length_map]; omega), bind_some', grd_t _ (by omega)]
    dsimp only
    rw [ints_toB (esc1_bytes c), q2, List.append_assoc]
    rfl
/-- The characters of a text. -/
def chs (s : List UInt8) : List Int := charsU (ints s)
theorem chs_right (s : List UInt8) : ∀ c ∈ chs s, rightU c := chars_right _ _ (Nat.le_refl _) (ints_bytes s)
theorem chs_len (s : List UInt8) : (chs s).length ≤ s.length := by
  have := chars_len (ints s).length (ints s) (Nat.le_refl _)
  rwa [ints_len] at this
theorem ev_Escape (s : List UInt8) (hs : s.length ≤ 1000000000) : Ev (fun n => F12 n s) ((escU (chs s)).map toB) := by
  have hl := chs_len s
  have hfl := flatU_len (chs s)
  have := escape_loop (chs s) ((flatU (chs s)).map toB) false [] (chs_right s) (ints_toB (flatU_bytes _)) Bytes.nil (by simp; omega) (by rw [List.length_map]; omega)
  rw [List.nil_append] at this
  exact (Ev.bind (g := fun n v => F12_L1 n v false []) (ev_Clean s hs) this).congr fun n => rfl
end Go.Proofs.YtbamlphgolldlaaX

/- Texts cut at a byte. -/
set_option linter.unusedVariables false
set_option linter.unusedSimpArgs false
namespace Go.Proofs.YtbamlphgolldlaaX
open Go

def splitB (c : UInt8) : List UInt8 → List (List UInt8)
  | [] => [[]]
  | x :: l => if x = c then [] :: splitB c l else match splitB c l with
    | [] => [[x]]
    | y :: ys => (x :: y) :: ys
theorem split_ne (c : UInt8) : ∀ l, splitB c l ≠ []
  | [] => by simp [splitB]
  | x :: l => by
    rw [splitB]
    split
    · simp
    · split <;> simp
/-- Where a byte first stands. -/
theorem idx_cases (c : UInt8) : ∀ s : List UInt8, (Lib.indexByte s c = -1 ∧ c ∉ s ∧ s.count c = 0 ∧ splitB c s = [s]) ∨
    ∃ m : Nat, m < s.length ∧ Lib.indexByte s c = (m : Int) ∧ c ∉ s.take m ∧ s = s.take m ++ c :: s.drop (m + 1) ∧ s.count c = 1 + (s.drop (m + 1)).count c ∧ splitB c s = s.take m :: splitB c (s.drop (m + 1))
  | [] => .inl ⟨rfl, by simp, rfl, rfl⟩
  | x :: l => by
    by_cases h : x = c
    · subst h
      refine .inr ⟨0, by simp, ?_, by simp, by simp, by simp; omega, by simp [splitB]⟩
      rw [Lib.indexByte, beq_self_eq_true, if_pos rfl]; rfl
    · have hb : (x == c) = false := by rw [beq_eq_false_iff_ne]; exact h
      rcases idx_cases c l with ⟨h1, h2, h3, h4⟩ | ⟨m, h1, h2, h3, h4, h5, h6⟩
      · refine .inl ⟨?_, ?_, ?_, ?_⟩
        · rw [Lib.indexByte, hb, h1]; rfl
        · simp only [List.mem_cons, not_or]; exact ⟨fun e => h e.symm, h2⟩
        · rw [List.count_cons_of_ne h, h3]
        · rw [splitB, if_neg h, h4]
      · refine .inr ⟨m + 1, by simp; omega, ?_, ?_, ?_, ?_, ?_⟩
        · rw [Lib.indexByte, hb, h2]
          simp only [Bool.false_eq_true, if_false]
          rw [if_neg (by rw [beq_iff_eq]; omega)]; omega
        · rw [List.take_succ_cons]; simp only [List.mem_cons, not_or]; exact ⟨fun e => h e.symm, h3⟩
        · rw [List.take_succ_cons, List.drop_succ_cons, List.cons_append, ← h4]
        · rw [List.count_cons_of_ne h, List.drop_succ_cons, h5]
        · rw [splitB, if_neg h, h6, List.take_succ_cons, List.drop_succ_cons]
theorem Index_eq (n : Nat) (s : List UInt8) (c : UInt8) : F110 n s [c] = some (Lib.indexByte s c) := by
  rw [F110]
  show iteB false _ _ = _
  rw [iteB_f]
  by_cases h : ([c] : List UInt8) = s
  · rw [show (([c] : List UInt8) == s) = true by rw [beq_iff_eq]; exact h, iteB_t, ← h, Lib.indexByte, beq_self_eq_true]; rfl
  · rw [show (([c] : List UInt8) == s) = false by rw [beq_eq_false_iff_ne]; exact h, iteB_f]
    show iteB true _ _ = _
    rw [iteB_t, grd_t _ (by simp), F109, bind_some']
    show some (Lib.indexByte s (((c.toNat : Nat) : Int).toNat.toUInt8)) = _
    rw [toNat_nat, show c.toNat.toUInt8 = c by simp]
def cutB (c : UInt8) (s : List UInt8) : List UInt8 × List UInt8 × Bool := if c ∈ s then (s.take (Lib.indexByte s c).toNat, s.drop ((Lib.indexByte s c).toNat + 1), true) else (s, [], false)
theorem Cut_eq (n : Nat) (s : List UInt8) (c : UInt8) (hs : s.length ≤ 1000000) : F69 n s [c] = some (cutB c s) := by
  unfold cutB
  rw [F69, F94, Index_eq, bind_some', show (([c] : List UInt8).length : Int) = 1 from rfl]
  rcases idx_cases c s with ⟨h1, h2, h3, h4⟩ | ⟨m, h1, h2, h3, h4, h5, h6⟩
  · rw [if_neg h2, h1]; rfl
  · have hm : c ∈ s := by rw [h4]; simp
    rw [if_pos hm, h2, decide_eq_true (by omega), iteB_t, w64 (by omega), grd_t _ (by omega), grd_t _ (by omega), bind_some', show ((m : Int) + 1).toNat = m + 1 by omega, toNat_nat]
/-- Where a byte is not ahead of its first place. -/
theorem idx_app (c : UInt8) (b : List UInt8) : ∀ a : List UInt8, c ∉ a → Lib.indexByte (a ++ c :: b) c = (a.length : Int)
  | [], _ => by rw [List.nil_append, Lib.indexByte, beq_self_eq_true, if_pos rfl]; rfl
  | x :: a, h => by
    simp only [List.mem_cons, not_or] at h
    rw [List.cons_append, Lib.indexByte, show (x == c) = false by (rw [beq_eq_false_iff_ne]; exact fun e => h.1 e.symm), idx_app c b a h.2]
    simp only [Bool.false_eq_true, if_false]
    rw [if_neg (by rw [beq_iff_eq]; omega), List.length_cons]; omega
theorem cut_app (c : UInt8) (a b : List UInt8) (h : c ∉ a) : cutB c (a ++ c :: b) = (a, b, true) := by
  unfold cutB
  rw [if_pos (by simp), idx_app c b a h, toNat_nat, List.take_left']
  · rw [show a.length + 1 = (a ++ [c]).length by simp, show a ++ c :: b = (a ++ [c]) ++ b by simp, List.drop_left']; rfl
  · rfl
theorem cut_none (c : UInt8) (a : List UInt8) (h : c ∉ a) : cutB c a = (a, [], false) := by unfold cutB; rw [if_neg h]
end Go.Proofs.YtbamlphgolldlaaX

/- hex.ReadDecimal. -/
set_option linter.unusedVariables false
set_option linter.unusedSimpArgs false
namespace Go.Proofs.YtbamlphgolldlaaX
open Go

def decP : List UInt8 → Int → Int × Bool
  | [], n => (n, true)
  | c :: l, n => if kindOf (c.toNat : Int) = 1 then decP l (n * 10 + ((c.toNat : Int) - 48)) else (0, false)
theorem kind_one {c : Int} (h : kindOf c = 1) : 48 ≤ c ∧ c ≤ 57 := by
  unfold kindOf at h
  split at h
  · assumption
  · split at h
    · omega
    · split at h
      · omega
      · split at h <;> omega
theorem pow10 (i : Nat) (h : i ≤ 17) : 1 ≤ (10 : Int) ^ i ∧ (10 : Int) ^ i ≤ 100000000000000000 ∧ (10 : Int) ^ (i + 1) = 10 ^ i * 10 := by
  have h1 : (10 : Nat) ^ i ≤ 10 ^ 17 := Nat.pow_le_pow_right (by omega) h
  have h2 : 1 ≤ (10 : Nat) ^ i := Nat.pos_of_ne_zero (by simp)
  have h3 : ((10 : Nat) ^ i : Nat) = ((10 : Int) ^ i) := by simp
  refine ⟨by omega, by omega, Int.pow_succ _ _⟩
theorem ev_dec_l (l : List UInt8) (hl : l.length ≤ 18) : ∀ (d i : Nat) (x : Int), i + d = l.length → 0 ≤ x ∧ x < (10 : Int) ^ i → Ev (fun k => F74_L1 k l x (i : Int)) (decP (l.drop i) x) := by
  intro d
  induction d with
  | zero =>
    intro i x hi hx
    rw [List.drop_of_length_le (by omega)]
    refine Ev.step (Ev.pure.congr fun k => ?_)
    rw [F74_L1, decide_eq_false (by omega), iteB_f]; rfl
  | succ d ih =>
    intro i x hi hx
    rw [drop_cons l i 0 (by omega), decP]
    obtain ⟨p1, p2, p3⟩ := pow10 i (by omega)
    have hb := u8_lt (l.getD i 0)
    have w1 : IntKind.wrap .i64 ((i : Int) + 1) = ((i + 1 : Nat) : Int) := by rw [w64 (by omega)]; omega
    generalize hc : l.getD i 0 = c at *
    by_cases hk : kindOf (c.toNat : Int) = 1
    · rw [if_pos hk]
      have hk' := kind_one hk
      have e := ih (i + 1) (x * 10 + ((c.toNat : Int) - 48)) (by omega) (by rw [p3]; omega)
      refine Ev.step (e.congr fun k => ?_)
      rw [F74_L1, decide_eq_true (by omega), iteB_t, grd_t _ (by omega), toNat_nat, hc, F66, bind_some', hk]
      show iteB false _ _ = _
      rw [iteB_f, grd_t _ (by omega), wu8 (by omega), w64 (n := (c.toNat : Int) - 48) (by omega), w64 (n := x * 10) (by omega), w64 (n := x * 10 + _) (by omega), w1]
    · rw [if_neg hk]
      refine Ev.step (Ev.pure.congr fun k => ?_)
      rw [F74_L1, decide_eq_true (by omega), iteB_t, grd_t _ (by omega), toNat_nat, hc, F66, bind_some', show (kindOf (c.toNat : Int) != 1) = true by rw [bne_iff_ne]; exact hk, iteB_t]
def readD (l : List UInt8) : Int × Bool := if l = [] ∨ 18 < l.length then (0, false) else decP l 0
theorem ev_ReadDecimal (l : List UInt8) : Ev (fun k => F74 k l) (readD l) := by
  unfold readD
  cases l with
  | nil => rw [if_pos (Or.inl rfl)]; exact Ev.pure.congr fun k => rfl
  | cons a l =>
    by_cases h : 18 < (a :: l).length
    · rw [if_pos (Or.inr h)]
      refine Ev.pure.congr fun k => ?_
      rw [F74, show ((a :: l) == []) = false by rfl, iteB_f, decide_eq_true (by omega), iteB_t]
    · rw [if_neg (by simp only [reduceCtorEq, false_or]; exact h)]
      have e := ev_dec_l (a :: l) (by omega) (a :: l).length 0 0 (by omega) (by decide)
      refine e.congr fun k => ?_
      rw [F74, show ((a :: l) == []) = false by rfl, iteB_f, decide_eq_false (by omega), iteB_f]; rfl
theorem decP_bd : ∀ (l : List UInt8) (x : Int) (m : Nat), 0 ≤ x → x < (10 : Int) ^ m → m + l.length ≤ 18 → 0 ≤ (decP l x).1 ∧ (decP l x).1 ≤ 1000000000000000000
  | [], x, m, h0, h, hl => by
    have h1 : (10 : Nat) ^ m ≤ 10 ^ 18 := Nat.pow_le_pow_right (by omega) (by simpa using hl)
    have h3 : ((10 : Nat) ^ m : Nat) = ((10 : Int) ^ m) := by simp
    rw [decP]; dsimp only; omega
  | c :: l, x, m, h0, h, hl => by
    rw [decP]
    rw [List.length_cons] at hl
    obtain ⟨p1, p2, p3⟩ := pow10 m (by omega)
    by_cases hk : kindOf (c.toNat : Int) = 1
    · have hk' := kind_one hk
      rw [if_pos hk]
      exact decP_bd l _ (m + 1) (by omega) (by rw [p3]; omega) (by omega)
    · rw [if_neg hk]; dsimp only; omega
theorem readD_bd (l : List UInt8) : 0 ≤ (readD l).1 ∧ (readD l).1 ≤ 1000000000000000000 := by
  unfold readD
  split
  · dsimp only; omega
  · exact decP_bd l 0 0 (by omega) (by decide) (by omega)

end Go.Proofs.YtbamlphgolldlaaX

/- XmlinTexts: a text that is escaped is told as it was. -/
set_option linter.unusedVariables false
set_option linter.unusedSimpArgs false
namespace Go.Proofs.YtbamlphgolldlaaX
open Go

theorem toB_ints (s : List UInt8) : (ints s).map toB = s := (of_ints rfl).symm
theorem ints_app (a b : List UInt8) : ints (a ++ b) = ints a ++ ints b := by simp [ints]
theorem read_nil : readD [] = (0, false) := rfl
/-! ### Characters that have names -/
def ent (c : Int) : Prop := c = 60 ∨ c = 62 ∨ c = 38 ∨ c = 34 ∨ c = 13
instance (c : Int) : Decidable (ent c) := by unfold ent; exact inferInstance
def entN (c : Int) : List UInt8 := if c = 60 then [108, 116] else if c = 62 then [103, 116] else if c = 38 then [97, 109, 112] else if c = 34 then [113, 117, 111, 116] else [35, 49, 51]
/-- What is told of it. -/
def cln (c : Int) : Int := if ent c then c else if c = 9 ∨ c = 10 then c else if c = 65534 ∨ c = 65535 then 65533 else if c < 32 then 65533 else c
theorem esc_ent {c : Int} (h : ent c) : (esc1 c).map toB = 38 :: (entN c ++ [59]) ∧ (59 : UInt8) ∉ entN c ∧ putU (cln c) = [c] ∧ 0 ≤ c ∧ c ≤ 255 := by
  unfold ent at h
  rcases h with rfl | rfl | rfl | rfl | rfl <;> exact ⟨by decide, by decide, by decide, by decide, by decide⟩
theorem esc_plain {c : Int} (h : ¬ ent c) (hr : rightU c) : esc1 c = putU (cln c) ∧ ∀ x ∈ putU (cln c), x ≠ 38 := by
  have e : esc1 c = putU (cln c) := by
    unfold ent at h
    unfold esc1 escC cln
    rw [if_neg (by omega), if_neg (by omega), if_neg (by omega), if_neg (by omega), if_neg (by omega), if_neg (show ¬ ent c from h)]
    split
    · exact flatU_one c
    · split
      · exact flatU_one _
      · split
        · exact flatU_one _
        · exact flatU_one c
  refine ⟨e, fun x hx => ?_⟩
  have hc : rightU (cln c) ∧ cln c ≠ 38 := by
    unfold ent at h
    unfold cln
    rw [if_neg (show ¬ ent c from h)]
    split
    · exact ⟨hr, by omega⟩
    · split
      · exact ⟨right_fffd, by omega⟩
      · split
        · exact ⟨right_fffd, by omega⟩
        · exact ⟨hr, by omega⟩
  by_cases h8 : cln c < 128
  · rw [putU_1 hc.1 h8] at hx
    simp only [List.mem_cons, List.not_mem_nil, or_false] at hx
    rw [hx]; exact hc.2
  · have := putU_hi hc.1 (by omega) x hx
    omega
/-- The first one that has a name. -/
theorem ent_split : ∀ cs : List Int, (∀ c ∈ cs, ¬ ent c) ∨ ∃ ps c r, cs = ps ++ c :: r ∧ (∀ p ∈ ps, ¬ ent p) ∧ ent c
  | [] => .inl (by simp)
  | c :: cs => by
    by_cases h : ent c
    · exact .inr ⟨[], c, cs, rfl, by simp, h⟩
    · rcases ent_split cs with h1 | ⟨ps, d, r, rfl, h2, h3⟩
      · refine .inl fun x hx => ?_
        rcases List.mem_cons.1 hx with rfl | hx
        · exact h
        · exact h1 x hx
      · refine .inr ⟨c :: ps, d, r, rfl, fun x hx => ?_, h3⟩
        rcases List.mem_cons.1 hx with rfl | hx
        · exact h
        · exact h2 x hx
theorem esc_flat : ∀ {ps : List Int}, (∀ p ∈ ps, ¬ ent p) → (∀ p ∈ ps, rightU p) → escU ps = flatU (ps.map cln) ∧ ∀ x ∈ escU ps, x ≠ 38
  | [], _, _ => ⟨rfl, by intro x hx; cases hx⟩
  | p :: ps, h, hr => by
    obtain ⟨h1, h2⟩ := esc_plain (h p (by simp)) (hr p (by simp))
    obtain ⟨h3, h4⟩ := esc_flat (ps := ps) (fun x hx => h x (by simp [hx])) (fun x hx => hr x (by simp [hx]))
    refine ⟨?_, fun x hx => ?_⟩
    · show esc1 p ++ escU ps = putU (cln p) ++ flatU (ps.map cln)
      rw [h1, h3]
    · have hx : x ∈ esc1 p ++ escU ps := hx
      rcases List.mem_append.1 hx with hx | hx
      · rw [h1] at hx; exact h2 x hx
      · exact h4 x hx
theorem no38 {l : List Int} (hb : Bytes l) (h : ∀ x ∈ l, x ≠ 38) : (38 : UInt8) ∉ l.map toB := by
  intro hm
  obtain ⟨x, hx, e⟩ := List.mem_map.1 hm
  have := ofB_toB (hb x hx)
  rw [e] at this
  exact h x hx this.symm
theorem escU_app (a b : List Int) : escU (a ++ b) = escU a ++ escU b := by simp [escU]
theorem escU_cons (c : Int) (b : List Int) : escU (c :: b) = esc1 c ++ escU b := rfl
/-! ### What a name tells -/
theorem cut_pre (n : Nat) (s p : List UInt8) : F52 n s p = some (if p.length ≤ s.length ∧ s.take p.length = p then (s.drop p.length, true) else (s, false)) := by
  rw [F52, F88, F108]
  by_cases h : p.length ≤ s.length
  · rw [decide_eq_true (by omega), iteB_t, grd_t _ (by omega), bind_some', toNat_nat]
    by_cases hb : s.take p.length = p
    · rw [if_pos ⟨h, hb⟩, show (s.take p.length == p) = true by rw [beq_iff_eq]; exact hb]
      show (grd _ _).bind _ = _
      rw [grd_t _ (by omega)]; rfl
    · rw [if_neg (fun e => hb e.2), show (s.take p.length == p) = false by rw [beq_eq_false_iff_ne]; exact hb]
      rfl
  · rw [decide_eq_false (by omega), iteB_f, bind_some', if_neg (fun e => h e.1)]; rfl
theorem named_any (N : List UInt8) : ∃ v : List UInt8 × Bool, Ev (fun n => F70 n N) v ∧ v.1.length ≤ 4 ∧ (N.length ≤ 1 → v.2 = false) := by
  by_cases h1 : N = [108, 116]
  · subst h1; exact ⟨([60], true), Ev.pure.congr fun n => by rw [F70]; rfl, by decide, by intro h; simp at h⟩
  by_cases h2 : N = [103, 116]
  · subst h2; exact ⟨([62], true), Ev.pure.congr fun n => by rw [F70]; rfl, by decide, by intro h; simp at h⟩
  by_cases h3 : N = [97, 109, 112]
  · subst h3; exact ⟨([38], true), Ev.pure.congr fun n => by rw [F70]; rfl, by decide, by intro h; simp at h⟩
  by_cases h4 : N = [113, 117, 111, 116]
  · subst h4; exact ⟨([34], true), Ev.pure.congr fun n => by rw [F70]; rfl, by decide, by intro h; simp at h⟩
  by_cases h5 : N = [97, 112, 111, 115]
  · subst h5; exact ⟨([39], true), Ev.pure.congr fun n => by rw [F70]; rfl, by decide, by intro h; simp at h⟩
  have hne : ∀ p : List UInt8, N ≠ p → (N == p) = false := fun p h => beq_eq_false_iff_ne.2 h
  obtain ⟨M1, j1⟩ := ev_ReadDecimal N
  have rest : ∀ (d : List UInt8) (is : Bool), (∀ n, F52 n N [35] = some (d, is)) → (N.length ≤ 1 → is = false ∨ (readD d).2 = false) → ∃ v : List UInt8 × Bool, Ev (fun n => F70 n N) v ∧ v.1.length ≤ 4 ∧ (N.length ≤ 1 → v.2 = false) := by
    intro d is hcut hshort
    obtain ⟨M, j⟩ := ev_ReadDecimal d
    have hN : ∀ n, F70 n N = (F74 n d).bind fun v7 => iteB (!is) (some ([], false)) (iteB (!v7.2) (some ([], false)) (iteB (decide ((7 : Int) < (d.length : Int))) (some ([], false)) (iteB (v7.1 == (0 : Int)) (some ([], false)) (iteB (decide ((1114111 : Int) < v7.1)) (some ([], false)) ((F81 n [] (IntKind.wrap .i32 (v7.1))).bind fun v13 => some ((v13.map toB), (decide ((0 : Int) < (v13.length : Int))))))))) := by
      intro n
      rw [F70, hne _ h1, iteB_f, hne _ h2, iteB_f, hne _ h3, iteB_f, hne _ h4, iteB_f, hne _ h5, iteB_f, hcut, bind_some']
    have none_ : (∀ n, M ≤ n → F70 n N = some ([], false)) → ∃ v : List UInt8 × Bool, Ev (fun n => F70 n N) v ∧ v.1.length ≤ 4 ∧ (N.length ≤ 1 → v.2 = false) :=
      fun h => ⟨([], false), ⟨M, h⟩, by simp, fun _ => rfl⟩
    have hb := readD_bd d
    by_cases g1 : is = true
    case neg => exact none_ fun n hn => by rw [hN, show F74 n d = some (readD d) from j n hn, bind_some', show is = false by simpa using g1]; rfl
    by_cases g2 : (readD d).2 = true
    case neg => exact none_ fun n hn => by rw [hN, show F74 n d = some (readD d) from j n hn, bind_some', g1, Bool.not_true, iteB_f, show (readD d).2 = false by simpa using g2]; rfl
    by_cases g3 : (7 : Int) < (d.length : Int)
    · exact none_ fun n hn => by rw [hN, show F74 n d = some (readD d) from j n hn, bind_some', g1, g2, Bool.not_true, iteB_f, iteB_f, decide_eq_true g3, iteB_t]
    by_cases g4 : (readD d).1 = 0
    · exact none_ fun n hn => by rw [hN, show F74 n d = some (readD d) from j n hn, bind_some', g1, g2, Bool.not_true, iteB_f, iteB_f, decide_eq_false g3, iteB_f, bqt g4, iteB_t]
    by_cases g5 : (1114111 : Int) < (readD d).1
    · exact none_ fun n hn => by rw [hN, show F74 n d = some (readD d) from j n hn, bind_some', g1, g2, Bool.not_true, iteB_f, iteB_f, decide_eq_false g3, iteB_f, bq g4, iteB_f, decide_eq_true g5, iteB_t]
    have hw : IntKind.wrap .i32 (readD d).1 = (readD d).1 := w32 (by omega)
    obtain ⟨M2, j2⟩ := ev_Put [] (readD d).1 (by omega) (by omega) (by decide)
    have hl4 := putU_bd (readD d).1
    refine ⟨((putU (readD d).1).map toB, decide ((0 : Int) < ((putU (readD d).1).length : Int))), ⟨M + M2, fun n hn => ?_⟩, by simpa using hl4, fun hs => ?_⟩
    · show F70 n N = _
      have q2 : F81 n [] (readD d).1 = some (putU (readD d).1) := by simpa using j2 n (by omega)
      rw [hN, show F74 n d = some (readD d) from j n (by omega), bind_some', g1, g2, Bool.not_true, iteB_f, iteB_f, decide_eq_false g3, iteB_f, bq g4, iteB_f, decide_eq_false g5, iteB_f, hw, q2, bind_some']
    · rcases hshort hs with h | h
      · rw [h] at g1; cases g1
      · rw [h] at g2; cases g2
  by_cases hp : ([35] : List UInt8).length ≤ N.length ∧ N.take ([35] : List UInt8).length = [35]
  · refine rest (N.drop 1) true (fun n => by rw [cut_pre, if_pos hp]; rfl) fun hs => .inr ?_
    rw [List.drop_of_length_le (by omega), read_nil]
  · exact rest N false (fun n => by rw [cut_pre, if_neg hp]) fun _ => .inl rfl
theorem named_ent {c : Int} (h : ent c) : Ev (fun n => F70 n (entN c)) ([toB c], true) := by
  unfold ent at h
  rcases h with rfl | rfl | rfl | rfl | rfl
  · exact Ev.pure.congr fun n => by rw [F70]; rfl
  · exact Ev.pure.congr fun n => by rw [F70]; rfl
  · exact Ev.pure.congr fun n => by rw [F70]; rfl
  · exact Ev.pure.congr fun n => by rw [F70]; rfl
  · obtain ⟨M, j⟩ := ev_ReadDecimal [49, 51]
    obtain ⟨M2, j2⟩ := ev_Put [] 13 (by decide) (by decide) (by decide)
    refine ⟨M + M2, fun n hn => ?_⟩
    have q1 : F74 n [49, 51] = some (13, true) := j n (by omega)
    have q2 : F81 n [] 13 = some [13] := j2 n (by omega)
    show F70 n [35, 49, 51] = _
    rw [F70, show (([35, 49, 51] : List UInt8) == [108, 116]) = false from rfl, iteB_f, show (([35, 49, 51] : List UInt8) == [103, 116]) = false from rfl, iteB_f, show (([35, 49, 51] : List UInt8) == [97, 109, 112]) = false from rfl, iteB_f, show (([35, 49, 51] : List UInt8) == [113, 117, 111, 116]) = false from rfl, iteB_f, show (([35, 49, 51] : List UInt8) == [97, 112, 111, 115]) = false from rfl, iteB_f, cut_pre]
    show (F74 n [49, 51]).bind _ = _
    rw [q1, bind_some']
    show (F81 n [] 13).bind _ = _
    rw [q2]; rfl
/-! ### Texts without bytes that may not be -/
def okP (x : Int) : Bool := if x < 32 then (x == 9 || x == 10 || x == 13) else true
theorem ixb_fin : ∀ k : Fin 32, decide (Lib.indexByte [9, 10, 13, 32] (UInt8.ofNat k.val) < 0) = !okP (k.val : Int) := by decide +kernel
theorem ixb_eq (n : Nat) (c : UInt8) (h : (c.toNat : Int) < 32) : ∃ v : Int, F93 n [9, 10, 13, 32] (c.toNat : Int) = some v ∧ decide (v < 0) = !okP (c.toNat : Int) := by
  refine ⟨Lib.indexByte [9, 10, 13, 32] c, ?_, ?_⟩
  · rw [F93, F109, bind_some', toNat_nat, show c.toNat.toUInt8 = c by simp]
  · have h := ixb_fin ⟨c.toNat, by omega⟩
    simpa using h
theorem plain_loop (s : List UInt8) (hs : s.length ≤ 1000000) : ∀ (d i : Nat), i + d = s.length → Ev (fun n => F68_L1 n s (i : Int)) (((ints s).drop i).all okP && decide ((0 : Int) ≤ countU 0 (ints s))) := by
  intro d
  induction d with
  | zero =>
    intro i hi
    rw [List.drop_of_length_le (by rw [ints_len]; omega), List.all_nil, Bool.true_and]
    obtain ⟨N, e⟩ := ev_Right s (by omega)
    refine Ev.step ⟨N, fun n hn => ?_⟩
    have q := e n hn
    dsimp only at q
    show F68_L1 (n + 1) s (i : Int) = _
    rw [F68_L1, decide_eq_false (by omega), iteB_f, q, bind_some']
  | succ d ih =>
    intro i hi
    rw [drop_bt s i (by omega), List.all_cons]
    have hok : ∀ x : Int, ¬ x < 32 → okP x = true := fun x h => if_neg h
    by_cases h : bt s i < 32
    · cases ho : okP (bt s i) with
      | true =>
        rw [Bool.true_and]
        refine Ev.step ((ih (i + 1) (by omega)).congr fun n => ?_)
        obtain ⟨v, h1, h2⟩ := ixb_eq n (s.getD i 0) h
        rw [show okP ((s.getD i 0).toNat : Int) = true from ho] at h2
        rw [F68_L1, decide_eq_true (by omega), iteB_t, toNat_nat, g64 i (by omega), grd_t _ (by omega), show decide (((s.getD i 0).toNat : Int) < 32) = true from decide_eq_true h, iteB_t, grd_t _ (by omega), h1, bind_some', h2, Bool.not_true, iteB_f]
      | false =>
        rw [Bool.false_and, Bool.false_and]
        refine Ev.step (Ev.pure.congr fun n => ?_)
        obtain ⟨v, h1, h2⟩ := ixb_eq n (s.getD i 0) h
        rw [show okP ((s.getD i 0).toNat : Int) = false from ho] at h2
        rw [F68_L1, decide_eq_true (by omega), iteB_t, toNat_nat, grd_t _ (by omega), show decide (((s.getD i 0).toNat : Int) < 32) = true from decide_eq_true h, iteB_t, grd_t _ (by omega), h1, bind_some', h2, Bool.not_false, iteB_t]
    · rw [hok _ h, Bool.true_and]
      refine Ev.step ((ih (i + 1) (by omega)).congr fun n => ?_)
      rw [F68_L1, decide_eq_true (by omega), iteB_t, toNat_nat, g64 i (by omega), grd_t _ (by omega), show decide (((s.getD i 0).toNat : Int) < 32) = false from decide_eq_false h, iteB_f]
theorem ev_plain (s : List UInt8) (hs : s.length ≤ 1000000) : Ev (fun n => F68 n s) ((ints s).all okP && decide ((0 : Int) ≤ countU 0 (ints s))) := by
  have h := plain_loop s hs s.length 0 (by omega)
  rw [List.drop_zero] at h
  exact h.congr fun n => rfl
/-! ### Text -/
theorem text_any : ∀ (d : Nat) (s : List UInt8) (b : Bool) (t : List UInt8), s.length ≤ d → d ≤ 100000 → t.length + 5 * s.length ≤ 2000000 →
    ∃ v : List UInt8 × Bool, Ev (fun n => F31_L1 n s b (ints t)) v ∧ (∀ s', s = 38 :: s' → s'.length ≤ 2 → v.2 = false) := by
  intro d
  induction d with
  | zero =>
    intro s b t hs hd ht
    obtain rfl := List.eq_nil_of_length_eq_zero (by omega : s.length = 0)
    refine ⟨(t, true), Ev.step (Ev.pure.congr fun n => ?_), fun s' h => by cases h⟩
    rw [F31_L1, Cut_eq n [] 38 (by simp), bind_some', cut_none 38 [] (by simp), bld_Write n b _ [] (by rw [ints_len]; simp; omega), bind_some', Bool.not_false, iteB_t]
    dsimp only
    rw [show ints [] = [] from rfl, List.append_nil, bld_String n true _ (ints_bytes t) (by rw [ints_len]; omega), bind_some', toB_ints]
  | succ d ih =>
    intro s b t hs hd ht
    rcases idx_cases 38 s with ⟨h1, h2, h3, h4⟩ | ⟨m, h1, h2, h3, h4, h5, h6⟩
    · refine ⟨(t ++ s, true), Ev.step (Ev.pure.congr fun n => ?_), fun s' h => ?_⟩
      · rw [F31_L1, Cut_eq n s 38 (by omega), bind_some', cut_none 38 s h2, bld_Write n b _ s (by rw [ints_len]; omega), bind_some', Bool.not_false, iteB_t]
        dsimp only
        rw [← ints_app, bld_String n true _ (ints_bytes _) (by rw [ints_len]; simp; omega), bind_some', toB_ints]
      · rw [h] at h2; simp at h2
    · have hc : cutB 38 s = (s.take m, s.drop (m + 1), true) := by
        conv => lhs; rw [h4]
        exact cut_app 38 _ _ h3
      generalize hR : s.drop (m + 1) = R at hc
      have hRl : R.length + 1 ≤ s.length := by rw [← hR, List.length_drop]; omega
      have hAl : (s.take m).length ≤ s.length := by rw [List.length_take]; omega
      have hAR : (s.take m).length + R.length + 1 = s.length := by rw [← hR, List.length_drop, List.length_take]; omega
      have hfirst : ∀ n, F31_L1 (n + 1) s b (ints t) = (F69 n R [59]).bind fun v10 => (F70 n v10.1).bind fun v11 => iteB (!v10.2.2) (some ([], false)) (iteB (!v11.2) (some ([], false)) ((F45 n (true, ints (t ++ s.take m)) v11.1).bind fun v14 => F31_L1 n v10.2.1 v14.2.2.1 v14.2.2.2)) := fun n => by
        rw [F31_L1, Cut_eq n s 38 (by omega), bind_some', hc]
        dsimp only
        rw [bld_Write n b _ _ (by rw [ints_len]; omega), bind_some', Bool.not_true, iteB_f]
        dsimp only
        rw [← ints_app]
      obtain ⟨l1, l2⟩ : (cutB 59 R).1.length ≤ R.length ∧ (cutB 59 R).2.1.length ≤ R.length := by
        unfold cutB
        split
        · simp only [List.length_take, List.length_drop]; omega
        · simp
      obtain ⟨w, ⟨N1, e1⟩, hw4, hw1⟩ := named_any (cutB 59 R).1
      have short : ∀ s', s = 38 :: s' → s'.length ≤ 2 → (cutB 59 R).2.2 = true → w.2 = false := by
        intro s' h hs' h59
        refine hw1 ?_
        have hm0 : m = 0 := by
          rcases Nat.eq_zero_or_pos m with h0 | h0
          · exact h0
          · exfalso
            apply h3
            rw [h]
            obtain ⟨k, rfl⟩ : ∃ k, m = k + 1 := ⟨m - 1, by omega⟩
            simp
        have hRs : R = s' := by rw [← hR, hm0, h]; rfl
        rw [hRs] at h59 ⊢
        unfold cutB at h59 ⊢
        by_cases h9 : (59 : UInt8) ∈ s'
        · rw [if_pos h9]
          rcases idx_cases 59 s' with ⟨g1, g2, _, _⟩ | ⟨k, g1, g2, _, _, _, _⟩
          · exact absurd h9 g2
          · rw [g2]; simp only [toNat_nat, List.length_take]; omega
        · rw [if_neg h9] at h59; cases h59
      have hcut : ∀ n, F69 n R [59] = some (cutB 59 R) := fun n => Cut_eq n R 59 (by omega)
      cases h9 : (cutB 59 R).2.2 with
      | false =>
        refine ⟨([], false), Ev.step ⟨N1, fun n hn => ?_⟩, fun _ _ _ => rfl⟩
        have q1 : F70 n (cutB 59 R).1 = some w := e1 n hn
        show F31_L1 (n + 1) s b (ints t) = _
        rw [hfirst n, hcut, bind_some', q1, bind_some', h9]; rfl
      | true =>
        cases hw2 : w.2 with
        | false =>
          refine ⟨([], false), Ev.step ⟨N1, fun n hn => ?_⟩, fun _ _ _ => rfl⟩
          have q1 : F70 n (cutB 59 R).1 = some w := e1 n hn
          show F31_L1 (n + 1) s b (ints t) = _
          rw [hfirst n, hcut, bind_some', q1, bind_some', h9, hw2]; rfl
        | true =>
          obtain ⟨v, ⟨N2, e2⟩, _⟩ := ih (cutB 59 R).2.1 true (t ++ s.take m ++ w.1) (by omega) (by omega) (by simp only [List.length_append]; omega)
          refine ⟨v, Ev.step ⟨N1 + N2, fun n hn => ?_⟩, fun s' h hs' => ?_⟩
          · have q1 : F70 n (cutB 59 R).1 = some w := e1 n (by omega)
            have q2 := e2 n (by omega)
            dsimp only at q2
            show F31_L1 (n + 1) s b (ints t) = _
            rw [hfirst n, hcut, bind_some', q1, bind_some', h9, hw2, Bool.not_true, iteB_f, iteB_f, bld_Write n true _ _ (by rw [ints_len]; simp only [List.length_append]; omega), bind_some']
            dsimp only
            rw [← ints_app, q2]
          · have := short s' h hs' h9
            rw [this] at hw2; cases hw2
theorem ev_Text_any (s : List UInt8) (hs : s.length ≤ 10000) : ∃ v : List UInt8 × Bool, Ev (fun n => F31 n s) v ∧ (∀ s', s = 38 :: s' → s'.length ≤ 2 → v.2 = false) := by
  obtain ⟨N1, e1⟩ := ev_plain s (by omega)
  cases hp : ((ints s).all okP && decide ((0 : Int) ≤ countU 0 (ints s))) with
  | false =>
    rw [hp] at e1
    refine ⟨([], false), ⟨N1, fun n hn => ?_⟩, fun _ _ _ => rfl⟩
    have q := e1 n hn
    dsimp only at q
    show F31 n s = _
    rw [F31, q]; rfl
  | true =>
    rw [hp] at e1
    obtain ⟨v, ⟨N2, e2⟩, h2⟩ := text_any s.length s false [] (Nat.le_refl _) (by omega) (by simp; omega)
    refine ⟨v, ⟨N1 + N2, fun n hn => ?_⟩, h2⟩
    have q := e1 n (by omega)
    have q2 := e2 n (by omega)
    dsimp only at q q2
    show F31 n s = _
    rw [F31, q, bind_some', Bool.not_true, iteB_f]
    exact q2
theorem text_loop : ∀ (d : Nat) (cs : List Int) (b : Bool) (t : List UInt8), cs.length ≤ d → (∀ c ∈ cs, rightU c) → d ≤ 10000 → t.length + 100 * cs.length ≤ 2000000 →
    Ev (fun n => F31_L1 n ((escU cs).map toB) b (ints t)) (t ++ (flatU (cs.map cln)).map toB, true) := by
  intro d
  induction d with
  | zero =>
    intro cs b t hs hr hd ht
    obtain rfl := List.eq_nil_of_length_eq_zero (by omega : cs.length = 0)
    refine Ev.step (Ev.pure.congr fun n => ?_)
    show F31_L1 (n + 1) [] b (ints t) = _
    rw [F31_L1, Cut_eq n [] 38 (by simp), bind_some', cut_none 38 [] (by simp), bld_Write n b _ [] (by rw [ints_len]; simp; omega), bind_some', Bool.not_false, iteB_t]
    dsimp only
    rw [show ints [] = [] from rfl, List.append_nil, bld_String n true _ (ints_bytes t) (by rw [ints_len]; omega), bind_some', toB_ints]
    simp [flatU]
  | succ d ih =>
    intro cs b t hs hr hd ht
    have hel := escU_len cs
    rcases ent_split cs with h | ⟨ps, c, r, rfl, h1, h2⟩
    · obtain ⟨g1, g2⟩ := esc_flat h hr
      have h38 := no38 (escU_bytes cs) g2
      refine Ev.step (Ev.pure.congr fun n => ?_)
      rw [F31_L1, Cut_eq n _ 38 (by rw [List.length_map]; omega), bind_some', cut_none 38 _ h38, bld_Write n b _ _ (by rw [ints_len, List.length_map]; omega), bind_some', Bool.not_false, iteB_t]
      dsimp only
      rw [← ints_app, bld_String n true _ (ints_bytes _) (by rw [ints_len]; simp; omega), bind_some', toB_ints, g1]
    · obtain ⟨g1, g2⟩ := esc_flat h1 (fun p hp => hr p (by simp [hp]))
      have h38 := no38 (escU_bytes ps) g2
      obtain ⟨k1, k2, k3, k4, k5⟩ := esc_ent h2
      have he : (escU (ps ++ c :: r)).map toB = (escU ps).map toB ++ 38 :: (entN c ++ 59 :: (escU r).map toB) := by
        rw [escU_app, escU_cons, List.map_append, List.map_append, k1]
        simp
      have hpl := escU_len ps
      have hrl := escU_len r
      have hn4 : (entN c).length ≤ 4 := by
        unfold entN
        repeat' split
        all_goals simp
      simp only [List.length_append, List.length_cons] at hs ht
      have hfl : (flatU (ps.map cln)).length ≤ 4 * ps.length := by have := flatU_len (ps.map cln); rwa [List.length_map] at this
      rw [g1] at hpl
      have ih' := ih r true (t ++ (flatU (ps.map cln)).map toB ++ [toB c]) (by omega) (fun x hx => hr x (by simp [hx])) (by omega) (by simp only [List.length_append, List.length_map, List.length_singleton]; omega)
      have hres : t ++ (flatU ((ps ++ c :: r).map cln)).map toB = t ++ (flatU (ps.map cln)).map toB ++ [toB c] ++ (flatU (r.map cln)).map toB := by
        rw [List.map_append, List.map_cons, flatU_append, List.map_append, show flatU (cln c :: r.map cln) = putU (cln c) ++ flatU (r.map cln) from rfl, k3]
        simp
      rw [hres]
      obtain ⟨N1, e1⟩ := ih'
      obtain ⟨N2, e2⟩ := named_ent h2
      refine Ev.step ⟨N1 + N2, fun n hn => ?_⟩
      have q1 := e1 n (by omega)
      have q2 := e2 n (by omega)
      dsimp only at q1 q2
      show F31_L1 (n + 1) ((escU (ps ++ c :: r)).map toB) b (ints t) = _
      have hcap : ((escU ps).map toB ++ 38 :: (entN c ++ 59 :: (escU r).map toB)).length ≤ 1000000 := by
        simp only [List.length_append, List.length_cons, List.length_map]; rw [g1]; omega
      rw [he, F31_L1, Cut_eq n _ 38 hcap, bind_some', cut_app 38 _ _ h38, bld_Write n b _ _ (by rw [ints_len, List.length_map, g1]; omega), bind_some', Bool.not_true, iteB_f]
      dsimp only
      rw [Cut_eq n _ 59 (by simp only [List.length_append, List.length_cons, List.length_map]; omega), bind_some', cut_app 59 _ _ k2]
      dsimp only
      rw [q2, bind_some', Bool.not_true, iteB_f, iteB_f, ← ints_app, g1, bld_Write n true _ _ (by rw [ints_len]; simp only [List.length_append, List.length_map, List.length_singleton]; omega), bind_some']
      dsimp only
      rw [← ints_app]
      exact q1
theorem ev_Text_esc (cs : List Int) (hr : ∀ c ∈ cs, rightU c) (hl : cs.length ≤ 2000) : Ev (fun n => F31 n ((escU cs).map toB)) ((flatU (cs.map cln)).map toB, true) := by
  have hel := escU_len cs
  obtain ⟨N1, e1⟩ := ev_plain ((escU cs).map toB) (by rw [List.length_map]; omega)
  have hi : ints ((escU cs).map toB) = escU cs := ints_toB (escU_bytes cs)
  have hp : ((ints ((escU cs).map toB)).all okP && decide ((0 : Int) ≤ countU 0 (ints ((escU cs).map toB)))) = true := by
    rw [hi, decide_eq_true (count_ge.2 (escU_well hr)), Bool.and_true, List.all_eq_true]
    intro x hx
    have := escU_ok hr x hx
    unfold badS at this
    unfold okP
    by_cases h : x < 32
    · rw [if_pos h]
      have : x = 9 ∨ x = 10 := by omega
      rcases this with rfl | rfl <;> rfl
    · rw [if_neg h]
  rw [hp] at e1
  obtain ⟨N2, e2⟩ := text_loop cs.length cs false [] (Nat.le_refl _) hr (by omega) (by simp; omega)
  rw [List.nil_append] at e2
  refine ⟨N1 + N2, fun n hn => ?_⟩
  have q := e1 n (by omega)
  have q2 := e2 n (by omega)
  dsimp only at q q2
  show F31 n _ = _
  rw [F31, q, bind_some', Bool.not_true, iteB_f]
  exact q2
end Go.Proofs.YtbamlphgolldlaaX

/- XmlinTexts: which signs can be told, and the law. -/
set_option linter.unusedVariables false
set_option linter.unusedSimpArgs false
namespace Go.Proofs.YtbamlphgolldlaaX
open Go

abbrev Nd := N43
/-- A byte that can be told. -/
def okC (x : Int) : Prop := (32 ≤ x ∨ x = 9 ∨ x = 10 ∨ x = 13) ∧ x ≠ 239
theorem told_loop (s : List UInt8) (hs : s.length ≤ 1000000) : ∀ (d i : Nat) (b x : Bool), i + d = s.length →
    ∃ v : Nd × Bool, Ev (fun n => F32_L1 n (.mk [] s []) b x (i : Int)) v ∧ (v.2 = true → x = true ∧ ∀ y ∈ (ints s).drop i, okC y) := by
  have p1 : ∀ n b x i, F32_L1 n (.mk [] s []) b x i = F32_L1 n (.mk [] s []) b x i := fun _ _ _ _ => rfl
  intro d
  induction d with
  | zero =>
    intro i b x hi
    have hJ : ∀ (n : Nat) (u : List UInt8), F32_J3 (n + 1) x (.mk [] s []) u = some (.mk [] u [], x) := by
      intro n u
      rw [F32_J3, F32_L4]
      rfl
    refine ⟨(.mk [] (if b = true then [] else s) [], x), Ev.step (Ev.step (Ev.pure.congr fun n => ?_)), fun h => ⟨h, ?_⟩⟩
    · rw [F32_L1]
      show iteB (decide ((i : Int) < (s.length : Int))) _ (iteB (!b) (F32_J3 (n + 1) x (.mk [] s []) s) (F32_J3 (n + 1) x (.mk [] s []) [])) = _
      rw [decide_eq_false (by omega), iteB_f]
      cases b with
      | true => rw [Bool.not_true, iteB_f, hJ, if_pos rfl]
      | false => rw [Bool.not_false, iteB_t, hJ, if_neg (by simp)]
    · intro y hy
      rw [List.drop_of_length_le (by rw [ints_len]; omega)] at hy
      cases hy
  | succ d ih =>
    intro i b x hi
    rw [drop_bt s i (by omega)]
    -- the blank's way
    obtain ⟨b', hb'⟩ : ∃ b' : Bool, ∀ n, F32_L1 (n + 1) (.mk [] s []) b x (i : Int) = F32_J2 n x (i : Int) (.mk [] s []) b' := by
      have e : ∀ n, F32_L1 (n + 1) (.mk [] s []) b x (i : Int) = iteB b (iteB (bt s i == 9) (F32_J2 n x (i : Int) (.mk [] s []) true) (iteB (bt s i == 10) (F32_J2 n x (i : Int) (.mk [] s []) true) (F32_J2 n x (i : Int) (.mk [] s []) (bt s i == 32)))) (F32_J2 n x (i : Int) (.mk [] s []) false) := by
        intro n
        rw [F32_L1]
        show iteB (decide ((i : Int) < (s.length : Int))) (grd (0 ≤ (i : Int) ∧ (i : Int) < (s.length : Int)) _) _ = _
        rw [decide_eq_true (by omega), iteB_t, grd_t _ (by omega)]
        rfl
      cases b with
      | false => exact ⟨false, fun n => by rw [e]; rfl⟩
      | true =>
        cases h9 : (bt s i == 9) with
        | true => exact ⟨true, fun n => by rw [e, h9]; rfl⟩
        | false =>
          cases h10 : (bt s i == 10) with
          | true => exact ⟨true, fun n => by rw [e, h9, h10]; rfl⟩
          | false => exact ⟨(bt s i == 32), fun n => by rw [e, h9, h10]; rfl⟩
    obtain ⟨x', hx', hk⟩ : ∃ x' : Bool, (∀ n, F32_J2 n x (i : Int) (.mk [] s []) b' = F32_L1 n (.mk [] s []) b' x' ((i + 1 : Nat) : Int)) ∧ (x' = true → x = true ∧ okC (bt s i)) := by
      have e : ∀ n, F32_J2 n x (i : Int) (.mk [] s []) b' = iteB x (iteB (decide (32 ≤ bt s i)) (F32_L1 n (.mk [] s []) b' (bt s i != 239) ((i + 1 : Nat) : Int)) (iteB (bt s i == 9) (F32_L1 n (.mk [] s []) b' (bt s i != 239) ((i + 1 : Nat) : Int)) (iteB (bt s i == 10) (F32_L1 n (.mk [] s []) b' (bt s i != 239) ((i + 1 : Nat) : Int)) (iteB (bt s i == 13) (F32_L1 n (.mk [] s []) b' (bt s i != 239) ((i + 1 : Nat) : Int)) (F32_L1 n (.mk [] s []) b' false ((i + 1 : Nat) : Int)))))) (F32_L1 n (.mk [] s []) b' false ((i + 1 : Nat) : Int)) := by
        intro n
        rw [F32_J2, g64 i (by omega)]
        rfl
      have hne : (bt s i != 239) = true → bt s i ≠ 239 := fun h => by rwa [bne_iff_ne] at h
      cases x with
      | false => exact ⟨false, fun n => by rw [e]; rfl, fun h => by cases h⟩
      | true =>
        by_cases g1 : 32 ≤ bt s i
        · exact ⟨(bt s i != 239), fun n => by rw [e, decide_eq_true g1]; rfl, fun h => ⟨rfl, .inl g1, hne h⟩⟩
        by_cases g2 : bt s i = 9
        · exact ⟨(bt s i != 239), fun n => by rw [e, decide_eq_false g1, bqt g2]; rfl, fun h => ⟨rfl, .inr (.inl g2), hne h⟩⟩
        by_cases g3 : bt s i = 10
        · exact ⟨(bt s i != 239), fun n => by rw [e, decide_eq_false g1, bq g2, bqt g3]; rfl, fun h => ⟨rfl, .inr (.inr (.inl g3)), hne h⟩⟩
        by_cases g4 : bt s i = 13
        · exact ⟨(bt s i != 239), fun n => by rw [e, decide_eq_false g1, bq g2, bq g3, bqt g4]; rfl, fun h => ⟨rfl, .inr (.inr (.inr g4)), hne h⟩⟩
        · exact ⟨false, fun n => by rw [e, decide_eq_false g1, bq g2, bq g3, bq g4]; rfl, fun h => by cases h⟩
    obtain ⟨v, hv1, hv2⟩ := ih (i + 1) b' x' (by omega)
    refine ⟨v, Ev.step (hv1.congr fun n => by rw [hb', hx']), fun h => ?_⟩
    obtain ⟨h1, h2⟩ := hv2 h
    obtain ⟨h3, h4⟩ := hk h1
    refine ⟨h3, fun y hy => ?_⟩
    rcases List.mem_cons.1 hy with rfl | hy
    · exact h4
    · exact h2 y hy
theorem told_any (s : List UInt8) (hs : s.length ≤ 1000000) : ∃ v : Nd × Bool, Ev (fun n => F32 n (.mk [] s [])) v ∧ (v.2 = true → wellU (ints s) ∧ ∀ y ∈ ints s, okC y) := by
  obtain ⟨N1, e1⟩ := ev_Right s (by omega)
  obtain ⟨v, ⟨N2, e2⟩, h⟩ := told_loop s hs s.length 0 true (decide ((0 : Int) ≤ countU 0 (ints s))) (by omega)
  refine ⟨v, Ev.step ⟨N1 + N2, fun n hn => ?_⟩, fun hv => ?_⟩
  · have q1 := e1 n (by omega)
    have q2 := e2 n (by omega)
    dsimp only at q1 q2
    show F32 (n + 1) _ = _
    rw [F32]
    show (F13 n s).bind _ = _
    rw [q1, bind_some']
    exact q2
  · obtain ⟨h1, h2⟩ := h hv
    rw [List.drop_zero] at h2
    exact ⟨count_ge.1 (of_decide_eq_true h1), h2⟩
/-- What can be told is told as it was. -/
theorem cln_same (s : List UInt8) (hw : wellU (ints s)) (hok : ∀ y ∈ ints s, okC y) : (flatU ((chs s).map cln)).map toB = s := by
  have hf : flatU (chs s) = ints s := (well_iff (ints_bytes s)).1 hw
  have hc : ∀ c ∈ chs s, cln c = c := by
    intro c hc
    have hr := chs_right s c hc
    have hmem : ∀ x ∈ putU c, okC x := by
      intro x hx
      apply hok
      rw [← hf]
      exact List.mem_flatMap.2 ⟨c, hc, hx⟩
    unfold cln
    by_cases he : ent c
    · rw [if_pos he]
    · rw [if_neg he]
      unfold ent at he
      split
      · rfl
      · split
        · rename_i h
          exfalso
          have e3 : putU c = [224 + c / 4096, 128 + c / 64 % 64, 128 + c % 64] := putU_3 hr (by omega) (by omega)
          have := (hmem (224 + c / 4096) (by rw [e3]; simp)).2
          omega
        · split
          · rename_i h1 h2 h3
            exfalso
            have := (hmem c (by rw [putU_1 hr (by omega)]; simp)).1
            omega
          · rfl
  have hm : (chs s).map cln = chs s := by
    conv => rhs; rw [← List.map_id (chs s)]
    exact List.map_congr_left hc
  rw [hm, hf, toB_ints]
theorem texts_main (s : List UInt8) (hs : s.length ≤ 1000) : Ev (fun n => F9_J1 n s) true := by
  have hl := chs_len s
  obtain ⟨N1, e1⟩ := ev_Escape s (by omega)
  obtain ⟨N2, e2⟩ := ev_Text_esc (chs s) (chs_right s) (by omega)
  obtain ⟨v6, ⟨N3, e3⟩, h6⟩ := told_any s (by omega)
  obtain ⟨v8, ⟨N4, e4⟩, h8⟩ := ev_Text_any (38 :: s) (by simp; omega)
  obtain ⟨N5, e5⟩ := ev_Text_esc [60] (by decide) (by decide)
  refine ⟨N1 + N2 + N3 + N4 + N5, fun n hn => ?_⟩
  have q1 := e1 n (by omega)
  have q2 := e2 n (by omega)
  have q3 := e3 n (by omega)
  have q4 := e4 n (by omega)
  have q5 : F31 n [38, 108, 116, 59] = some ([60], true) := e5 n (by omega)
  dsimp only at q1 q2 q3 q4
  show F9_J1 n s = _
  rw [F9_J1, q1, bind_some', q2, bind_some', q3, bind_some', grd_t _ (by omega), show F31 n ([38] ++ s) = some v8 from q4, bind_some', q5, bind_some', iteB_t]
  have tail : iteB (!v8.2) (some true) (some (decide ((2 : Int) < (s.length : Int)))) = some true := by
    cases h : v8.2 with
    | false => rfl
    | true =>
      by_cases h2 : s.length ≤ 2
      · have := h8 s rfl h2
        rw [this] at h; cases h
      · rw [Bool.not_true, iteB_f, decide_eq_true (by omega)]
  cases ht : ((flatU ((chs s).map cln)).map toB == s) with
  | true => rw [iteB_t, iteB_t, tail]
  | false =>
    rw [iteB_f]
    cases h : v6.2 with
    | false => rw [Bool.not_false, iteB_t, iteB_t, tail]
    | true =>
      obtain ⟨g1, g2⟩ := h6 h
      rw [cln_same s g1 g2, beq_self_eq_true] at ht
      cases ht
theorem texts_law (s : List UInt8) : Ev (fun n => F9 n s) true := by
  by_cases h : 1000 < s.length
  · refine (texts_main (s.take 1000) (by rw [List.length_take]; omega)).congr fun n => ?_
    rw [F9, decide_eq_true (by omega), iteB_t, grd_t _ (by omega)]
  · refine (texts_main s (by omega)).congr fun n => ?_
    rw [F9, decide_eq_false (by omega), iteB_f]
theorem law_main (v0 : List UInt8) (h0 : okT9 v0) : ∃ n, F9 n v0 = some true := by
  obtain ⟨N, h⟩ := texts_law v0
  exact ⟨N, h N (Nat.le_refl _)⟩
end Go.Proofs.YtbamlphgolldlaaX

set_option linter.unusedVariables false
namespace Go.Proofs.YtbamlphgolldlaaX
open Go Go.RowKit Go.Proofs
set_option maxRecDepth 100000
theorem shapedRow (xs : List T) (h : ShapesW Try.prog [9] xs) : FnC Try.prog 9 xs (tb true) := shapedXmlinTexts law_main xs h
end Go.Proofs.YtbamlphgolldlaaX
namespace Go.Proofs.Ytbamlphgolldlaa.xmlinTexts
open Go.ChangeShapes Go.WideShapes Go.ChangeAt Go.RowKit
set_option linter.unusedVariables false
theorem own : ownKnob Try.prog.godebug = none := by kernel_rfl
set_option maxRecDepth 100000 in
theorem lifted (os : Os) (started : os.Started) (H : Type) (enc : TypeId × Value → H) :
    ReturnsInHanded {} Try.checked os 9 .any (Rows.xmlinTextsSpec.pre6 enc Try.prog Try.f9 Rows.xmlinTextsRow.domain false) (Rows.xmlinTextsSpec.post enc Try.prog Try.f9 false true false false) := by
  refine returnsInHanded_of_change_sized (C := Try.checked) own started (by kernel_rfl) Try.func9
    (ChangeSpec.witness6 (enc := enc) (C := Try.checked) false ⟨#[], #[.string ByteArray.empty], []⟩ 8 (by kernel_rfl) (by kernel_rfl) (by kernel_rfl) (by kernel_rfl)) ?_
  intro W base args ds gs before hval0 hW hcnd hsz0 _
  exact YtbamlphgolldlaaX.row_contract (P := Try.prog) (fn := Try.f9) (s := Rows.xmlinTextsSpec) (ts := [9]) (tb := 4) (L := [9]) (by kernel_rfl) (by kernel_rfl) (by kernel_rfl) (by kernel_rfl) (by kernel_rfl) (by kernel_rfl) rfl
    (fun H ds h => by
      match ds, h with
      | [d0], _ => rfl) YtbamlphgolldlaaX.shapedRow W base args ds gs before hval0 hW
theorem over : Rows.xmlinTextsRow.holds Try.pinned (OpenSpec.ofChange Rows.xmlinTextsSpec) :=
  OpenClaim.holds_of_wide 9 Try.f9 rfl rfl rfl rfl rfl rfl rfl ⟨rfl, rfl, rfl, rfl, rfl⟩ rfl rfl rfl rfl rfl (by kernel_rfl) Try.func9 (by kernel_rfl)
    (of_decide_eq_true (by kernel_rfl)) (by unfold Func.isWrapper; first | (rw [if_pos (by decide +kernel)]; kernel_rfl) | (rw [if_neg (by decide +kernel)]; exact ⟨rfl, rfl⟩))
    (fun os started H enc _ => lifted os started H enc)
theorem proved : Rows.XmlinTextsSaid := over
#print axioms proved
end Go.Proofs.Ytbamlphgolldlaa.xmlinTexts
namespace Go.Proofs.Ytbamlphgolldlaa
/-- The row, under a short name, for the claim. -/
theorem xmlinTexts_holds : Rows.XmlinTextsSaid := xmlinTexts.proved
end Go.Proofs.Ytbamlphgolldlaa
