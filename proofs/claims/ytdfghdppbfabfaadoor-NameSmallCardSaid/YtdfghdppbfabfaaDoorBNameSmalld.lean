/- Part of the proof of NameSmall: walks and plain words, merged. -/
import Derived.Test.YtdfghdppbfabfaaDoorBNameSmallb
import Derived.Test.YtdfghdppbfabfaaDoorBNameSmallc
import Derived.Test.YtdfghdppbfabfaaDoorRows
import Derived.Test.YtdfghdppbfabfaaDoorCards
import Derived.Test.YtdfghdppbfabfaaDoorTie
import Derived.Test.YtdfghdppbfabfaaDoorChecked
import Derived.WalkKit
import Derived.ProofKit
import Derived.OpenShut
import Derived.Lay
import Derived.LaidMore
import Derived.LaidOnce
import Derived.SevenTiedAt
set_option linter.unusedVariables false
set_option linter.unusedSimpArgs false

set_option linter.unusedVariables false
set_option linter.unusedSimpArgs false
namespace Go.Proofs.YtdfghdppbfabfaaDoorX
open Go Go.RowKit Go.Proofs
set_option maxRecDepth 100000
/-! ### name.kept -/
def F22 (n : Nat) (a0 : List UInt8) : Option (Bool) := (F36 n a0 ([120, 110, 45, 45] : List UInt8)).bind fun v1 => iteB v1 (some true) ((F36 n a0 ([115, 116, 104, 114, 101, 101, 45] : List UInt8)).bind fun v3 => iteB v3 (some true) ((F37 n a0 ([45, 115, 51, 97, 108, 105, 97, 115] : List UInt8)).bind fun v5 => iteB v5 (some true) ((F37 n a0 ([45, 45, 111, 108, 45, 115, 51] : List UInt8)).bind fun v7 => some v7)))
set_option maxHeartbeats 4000000 in
theorem F22_ok : ∀ (n : Nat) (a0 : List UInt8) (r : Bool), F22 n a0 = some r → FnC Tryd.prog 22 [.imm (.string (bs a0))] (.imm (.bool r))
  | n, a0, r, h => by
    unfold F22 at h
    refine FnC.goX mixed Tryd.func22 (by kernel_rfl) rfl ?_
    simp only [Tryd.ntmps22, List.length_cons, List.length_nil, List.replicate, List.cons_append, List.nil_append, Nat.reduceAdd, Nat.reduceSub]
    refine runX_seq ?_
    refine runX_regionC fun C hC => ?_
    try simp -implicitDefEqProofs (maxSteps := 4000000) (disch := first | omega | decide | (simp only [go_sem]; omega)) only [go_sem, ↓reduceIte, String.reduceEq, String.reduceNe, reduceCtorEq, Int.reduceEq, Nat.reduceAdd, Nat.reduceSub, Nat.reduceMul, Nat.reduceLT, Nat.reduceLeDiff, Nat.reduceEqDiff, Nat.reduceBEq, Int.reduceToNat, Int.reduceLT, Int.reduceLE, Int.reduceGT, Int.reduceGE, Int.reduceAdd, Int.reduceSub, Int.reduceMul, Int.reduceNeg, Int.reduceBEq, Int.reduceBNe, Int.reducePow, Int.reduceDiv, Int.reduceMod, Int.reduceTDiv, Int.reduceTMod, Int.reduceNatCast]
    repeat (with_reducible refine And.intro (by first | assumption | omega | (simp; done) | (simp; omega)) ?_)
    refine toEnd hC ?_
    refine endX_seq ?_
    refine runX_seq ?_
    refine runX_regionC fun C hC => ?_
    obtain ⟨v1, h1, h⟩ := bnd_some h
    try simp -implicitDefEqProofs (maxSteps := 4000000) (disch := first | omega | decide | (simp only [go_sem]; omega)) only [go_sem, ↓reduceIte, String.reduceEq, String.reduceNe, reduceCtorEq, Int.reduceEq, Nat.reduceAdd, Nat.reduceSub, Nat.reduceMul, Nat.reduceLT, Nat.reduceLeDiff, Nat.reduceEqDiff, Nat.reduceBEq, Int.reduceToNat, Int.reduceLT, Int.reduceLE, Int.reduceGT, Int.reduceGE, Int.reduceAdd, Int.reduceSub, Int.reduceMul, Int.reduceNeg, Int.reduceBEq, Int.reduceBNe, Int.reducePow, Int.reduceDiv, Int.reduceMod, Int.reduceTDiv, Int.reduceTMod, Int.reduceNatCast]
    repeat (with_reducible refine And.intro (by first | assumption | omega | (simp; done) | (simp; omega)) ?_)
    refine callG_X (F36_ok n a0 ([120, 110, 45, 45] : List UInt8) _ h1) (by repeat (first | exact leL_refl _ | refine leL_cons (by first | exact leT_refl _ | exact leT_virt | exact leT_junk _ | exact leT_sl | exact leT_sln | exact leT_nil) ?_)) ?_
    try simp -implicitDefEqProofs (maxSteps := 4000000) (disch := first | omega | decide | (simp only [go_sem]; omega)) only [go_sem, ↓reduceIte, String.reduceEq, String.reduceNe, reduceCtorEq, Int.reduceEq, Nat.reduceAdd, Nat.reduceSub, Nat.reduceMul, Nat.reduceLT, Nat.reduceLeDiff, Nat.reduceEqDiff, Nat.reduceBEq, Int.reduceToNat, Int.reduceLT, Int.reduceLE, Int.reduceGT, Int.reduceGE, Int.reduceAdd, Int.reduceSub, Int.reduceMul, Int.reduceNeg, Int.reduceBEq, Int.reduceBNe, Int.reducePow, Int.reduceDiv, Int.reduceMod, Int.reduceTDiv, Int.reduceTMod, Int.reduceNatCast]
    repeat (with_reducible refine And.intro (by first | assumption | omega | (simp; done) | (simp; omega)) ?_)
    rcases iteB_some h with ⟨c2, h⟩ | ⟨c2, h⟩
    · refine guardK_F c2 ?_
      try simp -implicitDefEqProofs (maxSteps := 4000000) (disch := first | omega | decide | (simp only [go_sem]; omega)) only [go_sem, ↓reduceIte, String.reduceEq, String.reduceNe, reduceCtorEq, Int.reduceEq, Nat.reduceAdd, Nat.reduceSub, Nat.reduceMul, Nat.reduceLT, Nat.reduceLeDiff, Nat.reduceEqDiff, Nat.reduceBEq, Int.reduceToNat, Int.reduceLT, Int.reduceLE, Int.reduceGT, Int.reduceGE, Int.reduceAdd, Int.reduceSub, Int.reduceMul, Int.reduceNeg, Int.reduceBEq, Int.reduceBNe, Int.reducePow, Int.reduceDiv, Int.reduceMod, Int.reduceTDiv, Int.reduceTMod, Int.reduceNatCast]
      repeat (with_reducible refine And.intro (by first | assumption | omega | (simp; done) | (simp; omega)) ?_)
      refine toEnd hC ?_
      refine endX_seq ?_
      refine runX_ret ?_
      refine endX_q ?_
      obtain rfl := Option.some.inj h
      show RetW _ _ _ _ _
      simp only [RetW]
      (try simp -implicitDefEqProofs (maxSteps := 4000000) (disch := first | omega | decide | (simp only [go_sem]; omega)) only [go_sem, ↓reduceIte, String.reduceEq, String.reduceNe, reduceCtorEq, Int.reduceEq, Nat.reduceAdd, Nat.reduceSub, Nat.reduceMul, Nat.reduceLT, Nat.reduceLeDiff, Nat.reduceEqDiff, Nat.reduceBEq, Int.reduceToNat, Int.reduceLT, Int.reduceLE, Int.reduceGT, Int.reduceGE, Int.reduceAdd, Int.reduceSub, Int.reduceMul, Int.reduceNeg, Int.reduceBEq, Int.reduceBNe, Int.reducePow, Int.reduceDiv, Int.reduceMod, Int.reduceTDiv, Int.reduceTMod, Int.reduceNatCast])
      (try simp (disch := omega) only [if_pos, Nat.sub_zero])
      first | exact leT_refl _ | (refine ⟨rfl, ?_⟩; first | exact leT_refl _ | exact leT_sl | exact leT_sln | exact leT_nil | (refine leT_tup (by repeat (first | exact leL_refl _ | refine leL_cons (by first | exact leT_refl _ | exact leT_virt | exact leT_junk _ | exact leT_sl | exact leT_sln | exact leT_nil) ?_))) | (refine leT_agg (by repeat (first | exact leL_refl _ | refine leL_cons (by first | exact leT_refl _ | exact leT_virt | exact leT_junk _ | exact leT_sl | exact leT_sln | exact leT_nil) ?_)))) | (first | exact leT_refl _ | exact leT_sl | exact leT_sln | exact leT_nil | (refine leT_tup (by repeat (first | exact leL_refl _ | refine leL_cons (by first | exact leT_refl _ | exact leT_virt | exact leT_junk _ | exact leT_sl | exact leT_sln | exact leT_nil) ?_))) | (refine leT_agg (by repeat (first | exact leL_refl _ | refine leL_cons (by first | exact leT_refl _ | exact leT_virt | exact leT_junk _ | exact leT_sl | exact leT_sln | exact leT_nil) ?_)))) | (simp only [List.append_assoc, List.cons_append, List.nil_append]; exact leT_refl _) | (rw [List.take_of_length_le (by simp)]; (try simp only [List.append_assoc, List.cons_append, List.nil_append]); exact leT_refl _)
    · refine guardK_T c2 ?_
      obtain ⟨v3, h3, h⟩ := bnd_some h
      try simp -implicitDefEqProofs (maxSteps := 4000000) (disch := first | omega | decide | (simp only [go_sem]; omega)) only [go_sem, ↓reduceIte, String.reduceEq, String.reduceNe, reduceCtorEq, Int.reduceEq, Nat.reduceAdd, Nat.reduceSub, Nat.reduceMul, Nat.reduceLT, Nat.reduceLeDiff, Nat.reduceEqDiff, Nat.reduceBEq, Int.reduceToNat, Int.reduceLT, Int.reduceLE, Int.reduceGT, Int.reduceGE, Int.reduceAdd, Int.reduceSub, Int.reduceMul, Int.reduceNeg, Int.reduceBEq, Int.reduceBNe, Int.reducePow, Int.reduceDiv, Int.reduceMod, Int.reduceTDiv, Int.reduceTMod, Int.reduceNatCast]
      repeat (with_reducible refine And.intro (by first | assumption | omega | (simp; done) | (simp; omega)) ?_)
      refine callG_X (F36_ok n a0 ([115, 116, 104, 114, 101, 101, 45] : List UInt8) _ h3) (by repeat (first | exact leL_refl _ | refine leL_cons (by first | exact leT_refl _ | exact leT_virt | exact leT_junk _ | exact leT_sl | exact leT_sln | exact leT_nil) ?_)) ?_
      try simp -implicitDefEqProofs (maxSteps := 4000000) (disch := first | omega | decide | (simp only [go_sem]; omega)) only [go_sem, ↓reduceIte, String.reduceEq, String.reduceNe, reduceCtorEq, Int.reduceEq, Nat.reduceAdd, Nat.reduceSub, Nat.reduceMul, Nat.reduceLT, Nat.reduceLeDiff, Nat.reduceEqDiff, Nat.reduceBEq, Int.reduceToNat, Int.reduceLT, Int.reduceLE, Int.reduceGT, Int.reduceGE, Int.reduceAdd, Int.reduceSub, Int.reduceMul, Int.reduceNeg, Int.reduceBEq, Int.reduceBNe, Int.reducePow, Int.reduceDiv, Int.reduceMod, Int.reduceTDiv, Int.reduceTMod, Int.reduceNatCast]
      repeat (with_reducible refine And.intro (by first | assumption | omega | (simp; done) | (simp; omega)) ?_)
      rcases iteB_some h with ⟨c4, h⟩ | ⟨c4, h⟩
      · refine guardK_F c4 ?_
        try simp -implicitDefEqProofs (maxSteps := 4000000) (disch := first | omega | decide | (simp only [go_sem]; omega)) only [go_sem, ↓reduceIte, String.reduceEq, String.reduceNe, reduceCtorEq, Int.reduceEq, Nat.reduceAdd, Nat.reduceSub, Nat.reduceMul, Nat.reduceLT, Nat.reduceLeDiff, Nat.reduceEqDiff, Nat.reduceBEq, Int.reduceToNat, Int.reduceLT, Int.reduceLE, Int.reduceGT, Int.reduceGE, Int.reduceAdd, Int.reduceSub, Int.reduceMul, Int.reduceNeg, Int.reduceBEq, Int.reduceBNe, Int.reducePow, Int.reduceDiv, Int.reduceMod, Int.reduceTDiv, Int.reduceTMod, Int.reduceNatCast]
        repeat (with_reducible refine And.intro (by first | assumption | omega | (simp; done) | (simp; omega)) ?_)
        refine toEnd hC ?_
        refine endX_seq ?_
        refine runX_ret ?_
        refine endX_q ?_
        obtain rfl := Option.some.inj h
        show RetW _ _ _ _ _
        simp only [RetW]
        (try simp -implicitDefEqProofs (maxSteps := 4000000) (disch := first | omega | decide | (simp only [go_sem]; omega)) only [go_sem, ↓reduceIte, String.reduceEq, String.reduceNe, reduceCtorEq, Int.reduceEq, Nat.reduceAdd, Nat.reduceSub, Nat.reduceMul, Nat.reduceLT, Nat.reduceLeDiff, Nat.reduceEqDiff, Nat.reduceBEq, Int.reduceToNat, Int.reduceLT, Int.reduceLE, Int.reduceGT, Int.reduceGE, Int.reduceAdd, Int.reduceSub, Int.reduceMul, Int.reduceNeg, Int.reduceBEq, Int.reduceBNe, Int.reducePow, Int.reduceDiv, Int.reduceMod, Int.reduceTDiv, Int.reduceTMod, Int.reduceNatCast])
        (try simp (disch := omega) only [if_pos, Nat.sub_zero])
        first | exact leT_refl _ | (refine ⟨rfl, ?_⟩; first | exact leT_refl _ | exact leT_sl | exact leT_sln | exact leT_nil | (refine leT_tup (by repeat (first | exact leL_refl _ | refine leL_cons (by first | exact leT_refl _ | exact leT_virt | exact leT_junk _ | exact leT_sl | exact leT_sln | exact leT_nil) ?_))) | (refine leT_agg (by repeat (first | exact leL_refl _ | refine leL_cons (by first | exact leT_refl _ | exact leT_virt | exact leT_junk _ | exact leT_sl | exact leT_sln | exact leT_nil) ?_)))) | (first | exact leT_refl _ | exact leT_sl | exact leT_sln | exact leT_nil | (refine leT_tup (by repeat (first | exact leL_refl _ | refine leL_cons (by first | exact leT_refl _ | exact leT_virt | exact leT_junk _ | exact leT_sl | exact leT_sln | exact leT_nil) ?_))) | (refine leT_agg (by repeat (first | exact leL_refl _ | refine leL_cons (by first | exact leT_refl _ | exact leT_virt | exact leT_junk _ | exact leT_sl | exact leT_sln | exact leT_nil) ?_)))) | (simp only [List.append_assoc, List.cons_append, List.nil_append]; exact leT_refl _) | (rw [List.take_of_length_le (by simp)]; (try simp only [List.append_assoc, List.cons_append, List.nil_append]); exact leT_refl _)
      · refine guardK_T c4 ?_
        obtain ⟨v5, h5, h⟩ := bnd_some h
        try simp -implicitDefEqProofs (maxSteps := 4000000) (disch := first | omega | decide | (simp only [go_sem]; omega)) only [go_sem, ↓reduceIte, String.reduceEq, String.reduceNe, reduceCtorEq, Int.reduceEq, Nat.reduceAdd, Nat.reduceSub, Nat.reduceMul, Nat.reduceLT, Nat.reduceLeDiff, Nat.reduceEqDiff, Nat.reduceBEq, Int.reduceToNat, Int.reduceLT, Int.reduceLE, Int.reduceGT, Int.reduceGE, Int.reduceAdd, Int.reduceSub, Int.reduceMul, Int.reduceNeg, Int.reduceBEq, Int.reduceBNe, Int.reducePow, Int.reduceDiv, Int.reduceMod, Int.reduceTDiv, Int.reduceTMod, Int.reduceNatCast]
        repeat (with_reducible refine And.intro (by first | assumption | omega | (simp; done) | (simp; omega)) ?_)
        refine callG_X (F37_ok n a0 ([45, 115, 51, 97, 108, 105, 97, 115] : List UInt8) _ h5) (by repeat (first | exact leL_refl _ | refine leL_cons (by first | exact leT_refl _ | exact leT_virt | exact leT_junk _ | exact leT_sl | exact leT_sln | exact leT_nil) ?_)) ?_
        try simp -implicitDefEqProofs (maxSteps := 4000000) (disch := first | omega | decide | (simp only [go_sem]; omega)) only [go_sem, ↓reduceIte, String.reduceEq, String.reduceNe, reduceCtorEq, Int.reduceEq, Nat.reduceAdd, Nat.reduceSub, Nat.reduceMul, Nat.reduceLT, Nat.reduceLeDiff, Nat.reduceEqDiff, Nat.reduceBEq, Int.reduceToNat, Int.reduceLT, Int.reduceLE, Int.reduceGT, Int.reduceGE, Int.reduceAdd, Int.reduceSub, Int.reduceMul, Int.reduceNeg, Int.reduceBEq, Int.reduceBNe, Int.reducePow, Int.reduceDiv, Int.reduceMod, Int.reduceTDiv, Int.reduceTMod, Int.reduceNatCast]
        repeat (with_reducible refine And.intro (by first | assumption | omega | (simp; done) | (simp; omega)) ?_)
        rcases iteB_some h with ⟨c6, h⟩ | ⟨c6, h⟩
        · refine guardK_F c6 ?_
          try simp -implicitDefEqProofs (maxSteps := 4000000) (disch := first | omega | decide | (simp only [go_sem]; omega)) only [go_sem, ↓reduceIte, String.reduceEq, String.reduceNe, reduceCtorEq, Int.reduceEq, Nat.reduceAdd, Nat.reduceSub, Nat.reduceMul, Nat.reduceLT, Nat.reduceLeDiff, Nat.reduceEqDiff, Nat.reduceBEq, Int.reduceToNat, Int.reduceLT, Int.reduceLE, Int.reduceGT, Int.reduceGE, Int.reduceAdd, Int.reduceSub, Int.reduceMul, Int.reduceNeg, Int.reduceBEq, Int.reduceBNe, Int.reducePow, Int.reduceDiv, Int.reduceMod, Int.reduceTDiv, Int.reduceTMod, Int.reduceNatCast]
          repeat (with_reducible refine And.intro (by first | assumption | omega | (simp; done) | (simp; omega)) ?_)
          refine toEnd hC ?_
          refine endX_seq ?_
          refine runX_ret ?_
          refine endX_q ?_
          obtain rfl := Option.some.inj h
          show RetW _ _ _ _ _
          simp only [RetW]
          (try simp -implicitDefEqProofs (maxSteps := 4000000) (disch := first | omega | decide | (simp only [go_sem]; omega)) only [go_sem, ↓reduceIte, String.reduceEq, String.reduceNe, reduceCtorEq, Int.reduceEq, Nat.reduceAdd, Nat.reduceSub, Nat.reduceMul, Nat.reduceLT, Nat.reduceLeDiff, Nat.reduceEqDiff, Nat.reduceBEq, Int.reduceToNat, Int.reduceLT, Int.reduceLE, Int.reduceGT, Int.reduceGE, Int.reduceAdd, Int.reduceSub, Int.reduceMul, Int.reduceNeg, Int.reduceBEq, Int.reduceBNe, Int.reducePow, Int.reduceDiv, Int.reduceMod, Int.reduceTDiv, Int.reduceTMod, Int.reduceNatCast])
          (try simp (disch := omega) only [if_pos, Nat.sub_zero])
          first | exact leT_refl _ | (refine ⟨rfl, ?_⟩; first | exact leT_refl _ | exact leT_sl | exact leT_sln | exact leT_nil | (refine leT_tup (by repeat (first | exact leL_refl _ | refine leL_cons (by first | exact leT_refl _ | exact leT_virt | exact leT_junk _ | exact leT_sl | exact leT_sln | exact leT_nil) ?_))) | (refine leT_agg (by repeat (first | exact leL_refl _ | refine leL_cons (by first | exact leT_refl _ | exact leT_virt | exact leT_junk _ | exact leT_sl | exact leT_sln | exact leT_nil) ?_)))) | (first | exact leT_refl _ | exact leT_sl | exact leT_sln | exact leT_nil | (refine leT_tup (by repeat (first | exact leL_refl _ | refine leL_cons (by first | exact leT_refl _ | exact leT_virt | exact leT_junk _ | exact leT_sl | exact leT_sln | exact leT_nil) ?_))) | (refine leT_agg (by repeat (first | exact leL_refl _ | refine leL_cons (by first | exact leT_refl _ | exact leT_virt | exact leT_junk _ | exact leT_sl | exact leT_sln | exact leT_nil) ?_)))) | (simp only [List.append_assoc, List.cons_append, List.nil_append]; exact leT_refl _) | (rw [List.take_of_length_le (by simp)]; (try simp only [List.append_assoc, List.cons_append, List.nil_append]); exact leT_refl _)
        · refine guardK_T c6 ?_
          obtain ⟨v7, h7, h⟩ := bnd_some h
          try simp -implicitDefEqProofs (maxSteps := 4000000) (disch := first | omega | decide | (simp only [go_sem]; omega)) only [go_sem, ↓reduceIte, String.reduceEq, String.reduceNe, reduceCtorEq, Int.reduceEq, Nat.reduceAdd, Nat.reduceSub, Nat.reduceMul, Nat.reduceLT, Nat.reduceLeDiff, Nat.reduceEqDiff, Nat.reduceBEq, Int.reduceToNat, Int.reduceLT, Int.reduceLE, Int.reduceGT, Int.reduceGE, Int.reduceAdd, Int.reduceSub, Int.reduceMul, Int.reduceNeg, Int.reduceBEq, Int.reduceBNe, Int.reducePow, Int.reduceDiv, Int.reduceMod, Int.reduceTDiv, Int.reduceTMod, Int.reduceNatCast]
          repeat (with_reducible refine And.intro (by first | assumption | omega | (simp; done) | (simp; omega)) ?_)
          refine callG_X (F37_ok n a0 ([45, 45, 111, 108, 45, 115, 51] : List UInt8) _ h7) (by repeat (first | exact leL_refl _ | refine leL_cons (by first | exact leT_refl _ | exact leT_virt | exact leT_junk _ | exact leT_sl | exact leT_sln | exact leT_nil) ?_)) ?_
          try simp -implicitDefEqProofs (maxSteps := 4000000) (disch := first | omega | decide | (simp only [go_sem]; omega)) only [go_sem, ↓reduceIte, String.reduceEq, String.reduceNe, reduceCtorEq, Int.reduceEq, Nat.reduceAdd, Nat.reduceSub, Nat.reduceMul, Nat.reduceLT, Nat.reduceLeDiff, Nat.reduceEqDiff, Nat.reduceBEq, Int.reduceToNat, Int.reduceLT, Int.reduceLE, Int.reduceGT, Int.reduceGE, Int.reduceAdd, Int.reduceSub, Int.reduceMul, Int.reduceNeg, Int.reduceBEq, Int.reduceBNe, Int.reducePow, Int.reduceDiv, Int.reduceMod, Int.reduceTDiv, Int.reduceTMod, Int.reduceNatCast]
          repeat (with_reducible refine And.intro (by first | assumption | omega | (simp; done) | (simp; omega)) ?_)
          refine toEnd hC ?_
          refine endX_seq ?_
          refine runX_ret ?_
          refine endX_q ?_
          obtain rfl := Option.some.inj h
          show RetW _ _ _ _ _
          simp only [RetW]
          (try simp -implicitDefEqProofs (maxSteps := 4000000) (disch := first | omega | decide | (simp only [go_sem]; omega)) only [go_sem, ↓reduceIte, String.reduceEq, String.reduceNe, reduceCtorEq, Int.reduceEq, Nat.reduceAdd, Nat.reduceSub, Nat.reduceMul, Nat.reduceLT, Nat.reduceLeDiff, Nat.reduceEqDiff, Nat.reduceBEq, Int.reduceToNat, Int.reduceLT, Int.reduceLE, Int.reduceGT, Int.reduceGE, Int.reduceAdd, Int.reduceSub, Int.reduceMul, Int.reduceNeg, Int.reduceBEq, Int.reduceBNe, Int.reducePow, Int.reduceDiv, Int.reduceMod, Int.reduceTDiv, Int.reduceTMod, Int.reduceNatCast])
          (try simp (disch := omega) only [if_pos, Nat.sub_zero])
          first | exact leT_refl _ | (refine ⟨rfl, ?_⟩; first | exact leT_refl _ | exact leT_sl | exact leT_sln | exact leT_nil | (refine leT_tup (by repeat (first | exact leL_refl _ | refine leL_cons (by first | exact leT_refl _ | exact leT_virt | exact leT_junk _ | exact leT_sl | exact leT_sln | exact leT_nil) ?_))) | (refine leT_agg (by repeat (first | exact leL_refl _ | refine leL_cons (by first | exact leT_refl _ | exact leT_virt | exact leT_junk _ | exact leT_sl | exact leT_sln | exact leT_nil) ?_)))) | (first | exact leT_refl _ | exact leT_sl | exact leT_sln | exact leT_nil | (refine leT_tup (by repeat (first | exact leL_refl _ | refine leL_cons (by first | exact leT_refl _ | exact leT_virt | exact leT_junk _ | exact leT_sl | exact leT_sln | exact leT_nil) ?_))) | (refine leT_agg (by repeat (first | exact leL_refl _ | refine leL_cons (by first | exact leT_refl _ | exact leT_virt | exact leT_junk _ | exact leT_sl | exact leT_sln | exact leT_nil) ?_)))) | (simp only [List.append_assoc, List.cons_append, List.nil_append]; exact leT_refl _) | (rw [List.take_of_length_le (by simp)]; (try simp only [List.append_assoc, List.cons_append, List.nil_append]); exact leT_refl _)
end Go.Proofs.YtdfghdppbfabfaaDoorX

set_option linter.unusedVariables false
set_option linter.unusedSimpArgs false
namespace Go.Proofs.YtdfghdppbfabfaaDoorX
open Go Go.RowKit Go.Proofs
set_option maxRecDepth 100000
/-! ### name.Bucket -/
def F9 (n : Nat) (a0 : List UInt8) : Option (Int) := iteB (decide ((a0.length : Int) < (3 : Int))) (some (1 : Int)) (iteB (decide ((63 : Int) < (a0.length : Int))) (some (1 : Int)) ((F20 n a0).bind fun v3 => iteB (!v3) (some (2 : Int)) ((F21 n a0).bind fun v5 => iteB (!v5) (some (3 : Int)) ((F8 n a0).bind fun v7 => iteB v7 (some (4 : Int)) ((F22 n a0).bind fun v9 => iteB v9 (some (5 : Int)) (some (0 : Int)))))))
set_option maxHeartbeats 4000000 in
theorem F9_ok : ∀ (n : Nat) (a0 : List UInt8) (r : Int), F9 n a0 = some r → FnC Tryd.prog 9 [.imm (.string (bs a0))] (.imm (.int .i64 r))
  | n, a0, r, h => by
    unfold F9 at h
    refine FnC.goX mixed Tryd.func9 (by kernel_rfl) rfl ?_
    simp only [Tryd.ntmps9, List.length_cons, List.length_nil, List.replicate, List.cons_append, List.nil_append, Nat.reduceAdd, Nat.reduceSub]
    refine runX_seq ?_
    refine runX_regionC fun C hC => ?_
    try simp -implicitDefEqProofs (maxSteps := 4000000) (disch := first | omega | decide | (simp only [go_sem]; omega)) only [go_sem, ↓reduceIte, String.reduceEq, String.reduceNe, reduceCtorEq, Int.reduceEq, Nat.reduceAdd, Nat.reduceSub, Nat.reduceMul, Nat.reduceLT, Nat.reduceLeDiff, Nat.reduceEqDiff, Nat.reduceBEq, Int.reduceToNat, Int.reduceLT, Int.reduceLE, Int.reduceGT, Int.reduceGE, Int.reduceAdd, Int.reduceSub, Int.reduceMul, Int.reduceNeg, Int.reduceBEq, Int.reduceBNe, Int.reducePow, Int.reduceDiv, Int.reduceMod, Int.reduceTDiv, Int.reduceTMod, Int.reduceNatCast]
    repeat (with_reducible refine And.intro (by first | assumption | omega | (simp; done) | (simp; omega)) ?_)
    refine toEnd hC ?_
    refine endX_seq ?_
    refine runX_seq ?_
    refine runX_block ?_
    refine runX_seq ?_
    refine runX_regionC fun C hC => ?_
    try simp -implicitDefEqProofs (maxSteps := 4000000) (disch := first | omega | decide | (simp only [go_sem]; omega)) only [go_sem, ↓reduceIte, String.reduceEq, String.reduceNe, reduceCtorEq, Int.reduceEq, Nat.reduceAdd, Nat.reduceSub, Nat.reduceMul, Nat.reduceLT, Nat.reduceLeDiff, Nat.reduceEqDiff, Nat.reduceBEq, Int.reduceToNat, Int.reduceLT, Int.reduceLE, Int.reduceGT, Int.reduceGE, Int.reduceAdd, Int.reduceSub, Int.reduceMul, Int.reduceNeg, Int.reduceBEq, Int.reduceBNe, Int.reducePow, Int.reduceDiv, Int.reduceMod, Int.reduceTDiv, Int.reduceTMod, Int.reduceNatCast]
    repeat (with_reducible refine And.intro (by first | assumption | omega | (simp; done) | (simp; omega)) ?_)
    rcases iteB_some h with ⟨c1, h⟩ | ⟨c1, h⟩
    · refine guardK_F c1 ?_
      try simp -implicitDefEqProofs (maxSteps := 4000000) (disch := first | omega | decide | (simp only [go_sem]; omega)) only [go_sem, ↓reduceIte, String.reduceEq, String.reduceNe, reduceCtorEq, Int.reduceEq, Nat.reduceAdd, Nat.reduceSub, Nat.reduceMul, Nat.reduceLT, Nat.reduceLeDiff, Nat.reduceEqDiff, Nat.reduceBEq, Int.reduceToNat, Int.reduceLT, Int.reduceLE, Int.reduceGT, Int.reduceGE, Int.reduceAdd, Int.reduceSub, Int.reduceMul, Int.reduceNeg, Int.reduceBEq, Int.reduceBNe, Int.reducePow, Int.reduceDiv, Int.reduceMod, Int.reduceTDiv, Int.reduceTMod, Int.reduceNatCast]
      repeat (with_reducible refine And.intro (by first | assumption | omega | (simp; done) | (simp; omega)) ?_)
      refine toEnd hC ?_
      refine endX_seq ?_
      refine runX_condT rfl rfl ?_
      refine runX_seq ?_
      refine runX_regionC fun C hC => ?_
      try simp -implicitDefEqProofs (maxSteps := 4000000) (disch := first | omega | decide | (simp only [go_sem]; omega)) only [go_sem, ↓reduceIte, String.reduceEq, String.reduceNe, reduceCtorEq, Int.reduceEq, Nat.reduceAdd, Nat.reduceSub, Nat.reduceMul, Nat.reduceLT, Nat.reduceLeDiff, Nat.reduceEqDiff, Nat.reduceBEq, Int.reduceToNat, Int.reduceLT, Int.reduceLE, Int.reduceGT, Int.reduceGE, Int.reduceAdd, Int.reduceSub, Int.reduceMul, Int.reduceNeg, Int.reduceBEq, Int.reduceBNe, Int.reducePow, Int.reduceDiv, Int.reduceMod, Int.reduceTDiv, Int.reduceTMod, Int.reduceNatCast]
      repeat (with_reducible refine And.intro (by first | assumption | omega | (simp; done) | (simp; omega)) ?_)
      refine toEnd hC ?_
      refine endX_seq ?_
      refine runX_ret ?_
      refine endX_blkR ?_
      refine endX_seqR ?_
      refine endX_q ?_
      obtain rfl := Option.some.inj h
      show RetW _ _ _ _ _
      simp only [RetW]
      (try simp -implicitDefEqProofs (maxSteps := 4000000) (disch := first | omega | decide | (simp only [go_sem]; omega)) only [go_sem, ↓reduceIte, String.reduceEq, String.reduceNe, reduceCtorEq, Int.reduceEq, Nat.reduceAdd, Nat.reduceSub, Nat.reduceMul, Nat.reduceLT, Nat.reduceLeDiff, Nat.reduceEqDiff, Nat.reduceBEq, Int.reduceToNat, Int.reduceLT, Int.reduceLE, Int.reduceGT, Int.reduceGE, Int.reduceAdd, Int.reduceSub, Int.reduceMul, Int.reduceNeg, Int.reduceBEq, Int.reduceBNe, Int.reducePow, Int.reduceDiv, Int.reduceMod, Int.reduceTDiv, Int.reduceTMod, Int.reduceNatCast])
      (try simp (disch := omega) only [if_pos, Nat.sub_zero])
      first | exact leT_refl _ | (refine ⟨rfl, ?_⟩; first | exact leT_refl _ | exact leT_sl | exact leT_sln | exact leT_nil | (refine leT_tup (by repeat (first | exact leL_refl _ | refine leL_cons (by first | exact leT_refl _ | exact leT_virt | exact leT_junk _ | exact leT_sl | exact leT_sln | exact leT_nil) ?_))) | (refine leT_agg (by repeat (first | exact leL_refl _ | refine leL_cons (by first | exact leT_refl _ | exact leT_virt | exact leT_junk _ | exact leT_sl | exact leT_sln | exact leT_nil) ?_)))) | (first | exact leT_refl _ | exact leT_sl | exact leT_sln | exact leT_nil | (refine leT_tup (by repeat (first | exact leL_refl _ | refine leL_cons (by first | exact leT_refl _ | exact leT_virt | exact leT_junk _ | exact leT_sl | exact leT_sln | exact leT_nil) ?_))) | (refine leT_agg (by repeat (first | exact leL_refl _ | refine leL_cons (by first | exact leT_refl _ | exact leT_virt | exact leT_junk _ | exact leT_sl | exact leT_sln | exact leT_nil) ?_)))) | (simp only [List.append_assoc, List.cons_append, List.nil_append]; exact leT_refl _) | (rw [List.take_of_length_le (by simp)]; (try simp only [List.append_assoc, List.cons_append, List.nil_append]); exact leT_refl _)
    · refine guardK_T c1 ?_
      try simp -implicitDefEqProofs (maxSteps := 4000000) (disch := first | omega | decide | (simp only [go_sem]; omega)) only [go_sem, ↓reduceIte, String.reduceEq, String.reduceNe, reduceCtorEq, Int.reduceEq, Nat.reduceAdd, Nat.reduceSub, Nat.reduceMul, Nat.reduceLT, Nat.reduceLeDiff, Nat.reduceEqDiff, Nat.reduceBEq, Int.reduceToNat, Int.reduceLT, Int.reduceLE, Int.reduceGT, Int.reduceGE, Int.reduceAdd, Int.reduceSub, Int.reduceMul, Int.reduceNeg, Int.reduceBEq, Int.reduceBNe, Int.reducePow, Int.reduceDiv, Int.reduceMod, Int.reduceTDiv, Int.reduceTMod, Int.reduceNatCast]
      repeat (with_reducible refine And.intro (by first | assumption | omega | (simp; done) | (simp; omega)) ?_)
      refine toEnd hC ?_
      refine endX_seq ?_
      rcases iteB_some h with ⟨c2, h⟩ | ⟨c2, h⟩
      · refine runX_condT rfl c2 ?_
        refine runX_seq ?_
        refine runX_regionC fun C hC => ?_
        try simp -implicitDefEqProofs (maxSteps := 4000000) (disch := first | omega | decide | (simp only [go_sem]; omega)) only [go_sem, ↓reduceIte, String.reduceEq, String.reduceNe, reduceCtorEq, Int.reduceEq, Nat.reduceAdd, Nat.reduceSub, Nat.reduceMul, Nat.reduceLT, Nat.reduceLeDiff, Nat.reduceEqDiff, Nat.reduceBEq, Int.reduceToNat, Int.reduceLT, Int.reduceLE, Int.reduceGT, Int.reduceGE, Int.reduceAdd, Int.reduceSub, Int.reduceMul, Int.reduceNeg, Int.reduceBEq, Int.reduceBNe, Int.reducePow, Int.reduceDiv, Int.reduceMod, Int.reduceTDiv, Int.reduceTMod, Int.reduceNatCast]
        repeat (with_reducible refine And.intro (by first | assumption | omega | (simp; done) | (simp; omega)) ?_)
        refine toEnd hC ?_
        refine endX_seq ?_
        refine runX_ret ?_
        refine endX_blkR ?_
        refine endX_seqR ?_
        refine endX_q ?_
        obtain rfl := Option.some.inj h
        show RetW _ _ _ _ _
        simp only [RetW]
        (try simp -implicitDefEqProofs (maxSteps := 4000000) (disch := first | omega | decide | (simp only [go_sem]; omega)) only [go_sem, ↓reduceIte, String.reduceEq, String.reduceNe, reduceCtorEq, Int.reduceEq, Nat.reduceAdd, Nat.reduceSub, Nat.reduceMul, Nat.reduceLT, Nat.reduceLeDiff, Nat.reduceEqDiff, Nat.reduceBEq, Int.reduceToNat, Int.reduceLT, Int.reduceLE, Int.reduceGT, Int.reduceGE, Int.reduceAdd, Int.reduceSub, Int.reduceMul, Int.reduceNeg, Int.reduceBEq, Int.reduceBNe, Int.reducePow, Int.reduceDiv, Int.reduceMod, Int.reduceTDiv, Int.reduceTMod, Int.reduceNatCast])
        (try simp (disch := omega) only [if_pos, Nat.sub_zero])
        first | exact leT_refl _ | (refine ⟨rfl, ?_⟩; first | exact leT_refl _ | exact leT_sl | exact leT_sln | exact leT_nil | (refine leT_tup (by repeat (first | exact leL_refl _ | refine leL_cons (by first | exact leT_refl _ | exact leT_virt | exact leT_junk _ | exact leT_sl | exact leT_sln | exact leT_nil) ?_))) | (refine leT_agg (by repeat (first | exact leL_refl _ | refine leL_cons (by first | exact leT_refl _ | exact leT_virt | exact leT_junk _ | exact leT_sl | exact leT_sln | exact leT_nil) ?_)))) | (first | exact leT_refl _ | exact leT_sl | exact leT_sln | exact leT_nil | (refine leT_tup (by repeat (first | exact leL_refl _ | refine leL_cons (by first | exact leT_refl _ | exact leT_virt | exact leT_junk _ | exact leT_sl | exact leT_sln | exact leT_nil) ?_))) | (refine leT_agg (by repeat (first | exact leL_refl _ | refine leL_cons (by first | exact leT_refl _ | exact leT_virt | exact leT_junk _ | exact leT_sl | exact leT_sln | exact leT_nil) ?_)))) | (simp only [List.append_assoc, List.cons_append, List.nil_append]; exact leT_refl _) | (rw [List.take_of_length_le (by simp)]; (try simp only [List.append_assoc, List.cons_append, List.nil_append]); exact leT_refl _)
      · refine runX_condF rfl c2 ?_
        refine runX_seq ?_
        refine runX_regionC fun C hC => ?_
        obtain ⟨v3, h3, h⟩ := bnd_some h
        try simp -implicitDefEqProofs (maxSteps := 4000000) (disch := first | omega | decide | (simp only [go_sem]; omega)) only [go_sem, ↓reduceIte, String.reduceEq, String.reduceNe, reduceCtorEq, Int.reduceEq, Nat.reduceAdd, Nat.reduceSub, Nat.reduceMul, Nat.reduceLT, Nat.reduceLeDiff, Nat.reduceEqDiff, Nat.reduceBEq, Int.reduceToNat, Int.reduceLT, Int.reduceLE, Int.reduceGT, Int.reduceGE, Int.reduceAdd, Int.reduceSub, Int.reduceMul, Int.reduceNeg, Int.reduceBEq, Int.reduceBNe, Int.reducePow, Int.reduceDiv, Int.reduceMod, Int.reduceTDiv, Int.reduceTMod, Int.reduceNatCast]
        repeat (with_reducible refine And.intro (by first | assumption | omega | (simp; done) | (simp; omega)) ?_)
        refine callG_X (F20_ok n a0 _ h3) (by repeat (first | exact leL_refl _ | refine leL_cons (by first | exact leT_refl _ | exact leT_virt | exact leT_junk _ | exact leT_sl | exact leT_sln | exact leT_nil) ?_)) ?_
        try simp -implicitDefEqProofs (maxSteps := 4000000) (disch := first | omega | decide | (simp only [go_sem]; omega)) only [go_sem, ↓reduceIte, String.reduceEq, String.reduceNe, reduceCtorEq, Int.reduceEq, Nat.reduceAdd, Nat.reduceSub, Nat.reduceMul, Nat.reduceLT, Nat.reduceLeDiff, Nat.reduceEqDiff, Nat.reduceBEq, Int.reduceToNat, Int.reduceLT, Int.reduceLE, Int.reduceGT, Int.reduceGE, Int.reduceAdd, Int.reduceSub, Int.reduceMul, Int.reduceNeg, Int.reduceBEq, Int.reduceBNe, Int.reducePow, Int.reduceDiv, Int.reduceMod, Int.reduceTDiv, Int.reduceTMod, Int.reduceNatCast]
        repeat (with_reducible refine And.intro (by first | assumption | omega | (simp; done) | (simp; omega)) ?_)
        refine toEnd hC ?_
        refine endX_seq ?_
        rcases iteB_some h with ⟨c4, h⟩ | ⟨c4, h⟩
        · refine runX_condT rfl c4 ?_
          refine runX_seq ?_
          refine runX_regionC fun C hC => ?_
          try simp -implicitDefEqProofs (maxSteps := 4000000) (disch := first | omega | decide | (simp only [go_sem]; omega)) only [go_sem, ↓reduceIte, String.reduceEq, String.reduceNe, reduceCtorEq, Int.reduceEq, Nat.reduceAdd, Nat.reduceSub, Nat.reduceMul, Nat.reduceLT, Nat.reduceLeDiff, Nat.reduceEqDiff, Nat.reduceBEq, Int.reduceToNat, Int.reduceLT, Int.reduceLE, Int.reduceGT, Int.reduceGE, Int.reduceAdd, Int.reduceSub, Int.reduceMul, Int.reduceNeg, Int.reduceBEq, Int.reduceBNe, Int.reducePow, Int.reduceDiv, Int.reduceMod, Int.reduceTDiv, Int.reduceTMod, Int.reduceNatCast]
          repeat (with_reducible refine And.intro (by first | assumption | omega | (simp; done) | (simp; omega)) ?_)
          refine toEnd hC ?_
          refine endX_seq ?_
          refine runX_ret ?_
          refine endX_blkR ?_
          refine endX_seqR ?_
          refine endX_q ?_
          obtain rfl := Option.some.inj h
          show RetW _ _ _ _ _
          simp only [RetW]
          (try simp -implicitDefEqProofs (maxSteps := 4000000) (disch := first | omega | decide | (simp only [go_sem]; omega)) only [go_sem, ↓reduceIte, String.reduceEq, String.reduceNe, reduceCtorEq, Int.reduceEq, Nat.reduceAdd, Nat.reduceSub, Nat.reduceMul, Nat.reduceLT, Nat.reduceLeDiff, Nat.reduceEqDiff, Nat.reduceBEq, Int.reduceToNat, Int.reduceLT, Int.reduceLE, Int.reduceGT, Int.reduceGE, Int.reduceAdd, Int.reduceSub, Int.reduceMul, Int.reduceNeg, Int.reduceBEq, Int.reduceBNe, Int.reducePow, Int.reduceDiv, Int.reduceMod, Int.reduceTDiv, Int.reduceTMod, Int.reduceNatCast])
          (try simp (disch := omega) only [if_pos, Nat.sub_zero])
          first | exact leT_refl _ | (refine ⟨rfl, ?_⟩; first | exact leT_refl _ | exact leT_sl | exact leT_sln | exact leT_nil | (refine leT_tup (by repeat (first | exact leL_refl _ | refine leL_cons (by first | exact leT_refl _ | exact leT_virt | exact leT_junk _ | exact leT_sl | exact leT_sln | exact leT_nil) ?_))) | (refine leT_agg (by repeat (first | exact leL_refl _ | refine leL_cons (by first | exact leT_refl _ | exact leT_virt | exact leT_junk _ | exact leT_sl | exact leT_sln | exact leT_nil) ?_)))) | (first | exact leT_refl _ | exact leT_sl | exact leT_sln | exact leT_nil | (refine leT_tup (by repeat (first | exact leL_refl _ | refine leL_cons (by first | exact leT_refl _ | exact leT_virt | exact leT_junk _ | exact leT_sl | exact leT_sln | exact leT_nil) ?_))) | (refine leT_agg (by repeat (first | exact leL_refl _ | refine leL_cons (by first | exact leT_refl _ | exact leT_virt | exact leT_junk _ | exact leT_sl | exact leT_sln | exact leT_nil) ?_)))) | (simp only [List.append_assoc, List.cons_append, List.nil_append]; exact leT_refl _) | (rw [List.take_of_length_le (by simp)]; (try simp only [List.append_assoc, List.cons_append, List.nil_append]); exact leT_refl _)
        · refine runX_condF rfl c4 ?_
          refine runX_seq ?_
          refine runX_regionC fun C hC => ?_
          obtain ⟨v5, h5, h⟩ := bnd_some h
          try simp -implicitDefEqProofs (maxSteps := 4000000) (disch := first | omega | decide | (simp only [go_sem]; omega)) only [go_sem, ↓reduceIte, String.reduceEq, String.reduceNe, reduceCtorEq, Int.reduceEq, Nat.reduceAdd, Nat.reduceSub, Nat.reduceMul, Nat.reduceLT, Nat.reduceLeDiff, Nat.reduceEqDiff, Nat.reduceBEq, Int.reduceToNat, Int.reduceLT, Int.reduceLE, Int.reduceGT, Int.reduceGE, Int.reduceAdd, Int.reduceSub, Int.reduceMul, Int.reduceNeg, Int.reduceBEq, Int.reduceBNe, Int.reducePow, Int.reduceDiv, Int.reduceMod, Int.reduceTDiv, Int.reduceTMod, Int.reduceNatCast]
          repeat (with_reducible refine And.intro (by first | assumption | omega | (simp; done) | (simp; omega)) ?_)
          refine callG_X (F21_ok n a0 _ h5) (by repeat (first | exact leL_refl _ | refine leL_cons (by first | exact leT_refl _ | exact leT_virt | exact leT_junk _ | exact leT_sl | exact leT_sln | exact leT_nil) ?_)) ?_
          try simp -implicitDefEqProofs (maxSteps := 4000000) (disch := first | omega | decide | (simp only [go_sem]; omega)) only [go_sem, ↓reduceIte, String.reduceEq, String.reduceNe, reduceCtorEq, Int.reduceEq, Nat.reduceAdd, Nat.reduceSub, Nat.reduceMul, Nat.reduceLT, Nat.reduceLeDiff, Nat.reduceEqDiff, Nat.reduceBEq, Int.reduceToNat, Int.reduceLT, Int.reduceLE, Int.reduceGT, Int.reduceGE, Int.reduceAdd, Int.reduceSub, Int.reduceMul, Int.reduceNeg, Int.reduceBEq, Int.reduceBNe, Int.reducePow, Int.reduceDiv, Int.reduceMod, Int.reduceTDiv, Int.reduceTMod, Int.reduceNatCast]
          repeat (with_reducible refine And.intro (by first | assumption | omega | (simp; done) | (simp; omega)) ?_)
          refine toEnd hC ?_
          refine endX_seq ?_
          rcases iteB_some h with ⟨c6, h⟩ | ⟨c6, h⟩
          · refine runX_condT rfl c6 ?_
            refine runX_seq ?_
            refine runX_regionC fun C hC => ?_
            try simp -implicitDefEqProofs (maxSteps := 4000000) (disch := first | omega | decide | (simp only [go_sem]; omega)) only [go_sem, ↓reduceIte, String.reduceEq, String.reduceNe, reduceCtorEq, Int.reduceEq, Nat.reduceAdd, Nat.reduceSub, Nat.reduceMul, Nat.reduceLT, Nat.reduceLeDiff, Nat.reduceEqDiff, Nat.reduceBEq, Int.reduceToNat, Int.reduceLT, Int.reduceLE, Int.reduceGT, Int.reduceGE, Int.reduceAdd, Int.reduceSub, Int.reduceMul, Int.reduceNeg, Int.reduceBEq, Int.reduceBNe, Int.reducePow, Int.reduceDiv, Int.reduceMod, Int.reduceTDiv, Int.reduceTMod, Int.reduceNatCast]
            repeat (with_reducible refine And.intro (by first | assumption | omega | (simp; done) | (simp; omega)) ?_)
            refine toEnd hC ?_
            refine endX_seq ?_
            refine runX_ret ?_
            refine endX_blkR ?_
            refine endX_seqR ?_
            refine endX_q ?_
            obtain rfl := Option.some.inj h
            show RetW _ _ _ _ _
            simp only [RetW]
            (try simp -implicitDefEqProofs (maxSteps := 4000000) (disch := first | omega | decide | (simp only [go_sem]; omega)) only [go_sem, ↓reduceIte, String.reduceEq, String.reduceNe, reduceCtorEq, Int.reduceEq, Nat.reduceAdd, Nat.reduceSub, Nat.reduceMul, Nat.reduceLT, Nat.reduceLeDiff, Nat.reduceEqDiff, Nat.reduceBEq, Int.reduceToNat, Int.reduceLT, Int.reduceLE, Int.reduceGT, Int.reduceGE, Int.reduceAdd, Int.reduceSub, Int.reduceMul, Int.reduceNeg, Int.reduceBEq, Int.reduceBNe, Int.reducePow, Int.reduceDiv, Int.reduceMod, Int.reduceTDiv, Int.reduceTMod, Int.reduceNatCast])
            (try simp (disch := omega) only [if_pos, Nat.sub_zero])
            first | exact leT_refl _ | (refine ⟨rfl, ?_⟩; first | exact leT_refl _ | exact leT_sl | exact leT_sln | exact leT_nil | (refine leT_tup (by repeat (first | exact leL_refl _ | refine leL_cons (by first | exact leT_refl _ | exact leT_virt | exact leT_junk _ | exact leT_sl | exact leT_sln | exact leT_nil) ?_))) | (refine leT_agg (by repeat (first | exact leL_refl _ | refine leL_cons (by first | exact leT_refl _ | exact leT_virt | exact leT_junk _ | exact leT_sl | exact leT_sln | exact leT_nil) ?_)))) | (first | exact leT_refl _ | exact leT_sl | exact leT_sln | exact leT_nil | (refine leT_tup (by repeat (first | exact leL_refl _ | refine leL_cons (by first | exact leT_refl _ | exact leT_virt | exact leT_junk _ | exact leT_sl | exact leT_sln | exact leT_nil) ?_))) | (refine leT_agg (by repeat (first | exact leL_refl _ | refine leL_cons (by first | exact leT_refl _ | exact leT_virt | exact leT_junk _ | exact leT_sl | exact leT_sln | exact leT_nil) ?_)))) | (simp only [List.append_assoc, List.cons_append, List.nil_append]; exact leT_refl _) | (rw [List.take_of_length_le (by simp)]; (try simp only [List.append_assoc, List.cons_append, List.nil_append]); exact leT_refl _)
          · refine runX_condF rfl c6 ?_
            refine runX_seq ?_
            refine runX_regionC fun C hC => ?_
            obtain ⟨v7, h7, h⟩ := bnd_some h
            try simp -implicitDefEqProofs (maxSteps := 4000000) (disch := first | omega | decide | (simp only [go_sem]; omega)) only [go_sem, ↓reduceIte, String.reduceEq, String.reduceNe, reduceCtorEq, Int.reduceEq, Nat.reduceAdd, Nat.reduceSub, Nat.reduceMul, Nat.reduceLT, Nat.reduceLeDiff, Nat.reduceEqDiff, Nat.reduceBEq, Int.reduceToNat, Int.reduceLT, Int.reduceLE, Int.reduceGT, Int.reduceGE, Int.reduceAdd, Int.reduceSub, Int.reduceMul, Int.reduceNeg, Int.reduceBEq, Int.reduceBNe, Int.reducePow, Int.reduceDiv, Int.reduceMod, Int.reduceTDiv, Int.reduceTMod, Int.reduceNatCast]
            repeat (with_reducible refine And.intro (by first | assumption | omega | (simp; done) | (simp; omega)) ?_)
            refine callG_X (F8_ok n a0 _ h7) (by repeat (first | exact leL_refl _ | refine leL_cons (by first | exact leT_refl _ | exact leT_virt | exact leT_junk _ | exact leT_sl | exact leT_sln | exact leT_nil) ?_)) ?_
            try simp -implicitDefEqProofs (maxSteps := 4000000) (disch := first | omega | decide | (simp only [go_sem]; omega)) only [go_sem, ↓reduceIte, String.reduceEq, String.reduceNe, reduceCtorEq, Int.reduceEq, Nat.reduceAdd, Nat.reduceSub, Nat.reduceMul, Nat.reduceLT, Nat.reduceLeDiff, Nat.reduceEqDiff, Nat.reduceBEq, Int.reduceToNat, Int.reduceLT, Int.reduceLE, Int.reduceGT, Int.reduceGE, Int.reduceAdd, Int.reduceSub, Int.reduceMul, Int.reduceNeg, Int.reduceBEq, Int.reduceBNe, Int.reducePow, Int.reduceDiv, Int.reduceMod, Int.reduceTDiv, Int.reduceTMod, Int.reduceNatCast]
            repeat (with_reducible refine And.intro (by first | assumption | omega | (simp; done) | (simp; omega)) ?_)
            refine toEnd hC ?_
            refine endX_seq ?_
            rcases iteB_some h with ⟨c8, h⟩ | ⟨c8, h⟩
            · refine runX_condT rfl c8 ?_
              refine runX_seq ?_
              refine runX_regionC fun C hC => ?_
              try simp -implicitDefEqProofs (maxSteps := 4000000) (disch := first | omega | decide | (simp only [go_sem]; omega)) only [go_sem, ↓reduceIte, String.reduceEq, String.reduceNe, reduceCtorEq, Int.reduceEq, Nat.reduceAdd, Nat.reduceSub, Nat.reduceMul, Nat.reduceLT, Nat.reduceLeDiff, Nat.reduceEqDiff, Nat.reduceBEq, Int.reduceToNat, Int.reduceLT, Int.reduceLE, Int.reduceGT, Int.reduceGE, Int.reduceAdd, Int.reduceSub, Int.reduceMul, Int.reduceNeg, Int.reduceBEq, Int.reduceBNe, Int.reducePow, Int.reduceDiv, Int.reduceMod, Int.reduceTDiv, Int.reduceTMod, Int.reduceNatCast]
              repeat (with_reducible refine And.intro (by first | assumption | omega | (simp; done) | (simp; omega)) ?_)
              refine toEnd hC ?_
              refine endX_seq ?_
              refine runX_ret ?_
              refine endX_blkR ?_
              refine endX_seqR ?_
              refine endX_q ?_
              obtain rfl := Option.some.inj h
              show RetW _ _ _ _ _
              simp only [RetW]
              (try simp -implicitDefEqProofs (maxSteps := 4000000) (disch := first | omega | decide | (simp only [go_sem]; omega)) only [go_sem, ↓reduceIte, String.reduceEq, String.reduceNe, reduceCtorEq, Int.reduceEq, Nat.reduceAdd, Nat.reduceSub, Nat.reduceMul, Nat.reduceLT, Nat.reduceLeDiff, Nat.reduceEqDiff, Nat.reduceBEq, Int.reduceToNat, Int.reduceLT, Int.reduceLE, Int.reduceGT, Int.reduceGE, Int.reduceAdd, Int.reduceSub, Int.reduceMul, Int.reduceNeg, Int.reduceBEq, Int.reduceBNe, Int.reducePow, Int.reduceDiv, Int.reduceMod, Int.reduceTDiv, Int.reduceTMod, Int.reduceNatCast])
              (try simp (disch := omega) only [if_pos, Nat.sub_zero])
              first | exact leT_refl _ | (refine ⟨rfl, ?_⟩; first | exact leT_refl _ | exact leT_sl | exact leT_sln | exact leT_nil | (refine leT_tup (by repeat (first | exact leL_refl _ | refine leL_cons (by first | exact leT_refl _ | exact leT_virt | exact leT_junk _ | exact leT_sl | exact leT_sln | exact leT_nil) ?_))) | (refine leT_agg (by repeat (first | exact leL_refl _ | refine leL_cons (by first | exact leT_refl _ | exact leT_virt | exact leT_junk _ | exact leT_sl | exact leT_sln | exact leT_nil) ?_)))) | (first | exact leT_refl _ | exact leT_sl | exact leT_sln | exact leT_nil | (refine leT_tup (by repeat (first | exact leL_refl _ | refine leL_cons (by first | exact leT_refl _ | exact leT_virt | exact leT_junk _ | exact leT_sl | exact leT_sln | exact leT_nil) ?_))) | (refine leT_agg (by repeat (first | exact leL_refl _ | refine leL_cons (by first | exact leT_refl _ | exact leT_virt | exact leT_junk _ | exact leT_sl | exact leT_sln | exact leT_nil) ?_)))) | (simp only [List.append_assoc, List.cons_append, List.nil_append]; exact leT_refl _) | (rw [List.take_of_length_le (by simp)]; (try simp only [List.append_assoc, List.cons_append, List.nil_append]); exact leT_refl _)
            · refine runX_condF rfl c8 ?_
              refine runX_seq ?_
              refine runX_regionC fun C hC => ?_
              obtain ⟨v9, h9, h⟩ := bnd_some h
              try simp -implicitDefEqProofs (maxSteps := 4000000) (disch := first | omega | decide | (simp only [go_sem]; omega)) only [go_sem, ↓reduceIte, String.reduceEq, String.reduceNe, reduceCtorEq, Int.reduceEq, Nat.reduceAdd, Nat.reduceSub, Nat.reduceMul, Nat.reduceLT, Nat.reduceLeDiff, Nat.reduceEqDiff, Nat.reduceBEq, Int.reduceToNat, Int.reduceLT, Int.reduceLE, Int.reduceGT, Int.reduceGE, Int.reduceAdd, Int.reduceSub, Int.reduceMul, Int.reduceNeg, Int.reduceBEq, Int.reduceBNe, Int.reducePow, Int.reduceDiv, Int.reduceMod, Int.reduceTDiv, Int.reduceTMod, Int.reduceNatCast]
              repeat (with_reducible refine And.intro (by first | assumption | omega | (simp; done) | (simp; omega)) ?_)
              refine callG_X (F22_ok n a0 _ h9) (by repeat (first | exact leL_refl _ | refine leL_cons (by first | exact leT_refl _ | exact leT_virt | exact leT_junk _ | exact leT_sl | exact leT_sln | exact leT_nil) ?_)) ?_
              try simp -implicitDefEqProofs (maxSteps := 4000000) (disch := first | omega | decide | (simp only [go_sem]; omega)) only [go_sem, ↓reduceIte, String.reduceEq, String.reduceNe, reduceCtorEq, Int.reduceEq, Nat.reduceAdd, Nat.reduceSub, Nat.reduceMul, Nat.reduceLT, Nat.reduceLeDiff, Nat.reduceEqDiff, Nat.reduceBEq, Int.reduceToNat, Int.reduceLT, Int.reduceLE, Int.reduceGT, Int.reduceGE, Int.reduceAdd, Int.reduceSub, Int.reduceMul, Int.reduceNeg, Int.reduceBEq, Int.reduceBNe, Int.reducePow, Int.reduceDiv, Int.reduceMod, Int.reduceTDiv, Int.reduceTMod, Int.reduceNatCast]
              repeat (with_reducible refine And.intro (by first | assumption | omega | (simp; done) | (simp; omega)) ?_)
              refine toEnd hC ?_
              refine endX_seq ?_
              rcases iteB_some h with ⟨c10, h⟩ | ⟨c10, h⟩
              · refine runX_condT rfl c10 ?_
                refine runX_seq ?_
                refine runX_regionC fun C hC => ?_
                try simp -implicitDefEqProofs (maxSteps := 4000000) (disch := first | omega | decide | (simp only [go_sem]; omega)) only [go_sem, ↓reduceIte, String.reduceEq, String.reduceNe, reduceCtorEq, Int.reduceEq, Nat.reduceAdd, Nat.reduceSub, Nat.reduceMul, Nat.reduceLT, Nat.reduceLeDiff, Nat.reduceEqDiff, Nat.reduceBEq, Int.reduceToNat, Int.reduceLT, Int.reduceLE, Int.reduceGT, Int.reduceGE, Int.reduceAdd, Int.reduceSub, Int.reduceMul, Int.reduceNeg, Int.reduceBEq, Int.reduceBNe, Int.reducePow, Int.reduceDiv, Int.reduceMod, Int.reduceTDiv, Int.reduceTMod, Int.reduceNatCast]
                repeat (with_reducible refine And.intro (by first | assumption | omega | (simp; done) | (simp; omega)) ?_)
                refine toEnd hC ?_
                refine endX_seq ?_
                refine runX_ret ?_
                refine endX_blkR ?_
                refine endX_seqR ?_
                refine endX_q ?_
                obtain rfl := Option.some.inj h
                show RetW _ _ _ _ _
                simp only [RetW]
                (try simp -implicitDefEqProofs (maxSteps := 4000000) (disch := first | omega | decide | (simp only [go_sem]; omega)) only [go_sem, ↓reduceIte, String.reduceEq, String.reduceNe, reduceCtorEq, Int.reduceEq, Nat.reduceAdd, Nat.reduceSub, Nat.reduceMul, Nat.reduceLT, Nat.reduceLeDiff, Nat.reduceEqDiff, Nat.reduceBEq, Int.reduceToNat, Int.reduceLT, Int.reduceLE, Int.reduceGT, Int.reduceGE, Int.reduceAdd, Int.reduceSub, Int.reduceMul, Int.reduceNeg, Int.reduceBEq, Int.reduceBNe, Int.reducePow, Int.reduceDiv, Int.reduceMod, Int.reduceTDiv, Int.reduceTMod, Int.reduceNatCast])
                (try simp (disch := omega) only [if_pos, Nat.sub_zero])
                first | exact leT_refl _ | (refine ⟨rfl, ?_⟩; first | exact leT_refl _ | exact leT_sl | exact leT_sln | exact leT_nil | (refine leT_tup (by repeat (first | exact leL_refl _ | refine leL_cons (by first | exact leT_refl _ | exact leT_virt | exact leT_junk _ | exact leT_sl | exact leT_sln | exact leT_nil) ?_))) | (refine leT_agg (by repeat (first | exact leL_refl _ | refine leL_cons (by first | exact leT_refl _ | exact leT_virt | exact leT_junk _ | exact leT_sl | exact leT_sln | exact leT_nil) ?_)))) | (first | exact leT_refl _ | exact leT_sl | exact leT_sln | exact leT_nil | (refine leT_tup (by repeat (first | exact leL_refl _ | refine leL_cons (by first | exact leT_refl _ | exact leT_virt | exact leT_junk _ | exact leT_sl | exact leT_sln | exact leT_nil) ?_))) | (refine leT_agg (by repeat (first | exact leL_refl _ | refine leL_cons (by first | exact leT_refl _ | exact leT_virt | exact leT_junk _ | exact leT_sl | exact leT_sln | exact leT_nil) ?_)))) | (simp only [List.append_assoc, List.cons_append, List.nil_append]; exact leT_refl _) | (rw [List.take_of_length_le (by simp)]; (try simp only [List.append_assoc, List.cons_append, List.nil_append]); exact leT_refl _)
              · refine runX_condF rfl c10 ?_
                refine runX_skip ?_
                refine endX_blk ?_
                refine endX_seq ?_
                refine runX_seq ?_
                refine runX_regionC fun C hC => ?_
                try simp -implicitDefEqProofs (maxSteps := 4000000) (disch := first | omega | decide | (simp only [go_sem]; omega)) only [go_sem, ↓reduceIte, String.reduceEq, String.reduceNe, reduceCtorEq, Int.reduceEq, Nat.reduceAdd, Nat.reduceSub, Nat.reduceMul, Nat.reduceLT, Nat.reduceLeDiff, Nat.reduceEqDiff, Nat.reduceBEq, Int.reduceToNat, Int.reduceLT, Int.reduceLE, Int.reduceGT, Int.reduceGE, Int.reduceAdd, Int.reduceSub, Int.reduceMul, Int.reduceNeg, Int.reduceBEq, Int.reduceBNe, Int.reducePow, Int.reduceDiv, Int.reduceMod, Int.reduceTDiv, Int.reduceTMod, Int.reduceNatCast]
                repeat (with_reducible refine And.intro (by first | assumption | omega | (simp; done) | (simp; omega)) ?_)
                refine toEnd hC ?_
                refine endX_seq ?_
                refine runX_ret ?_
                refine endX_q ?_
                obtain rfl := Option.some.inj h
                show RetW _ _ _ _ _
                simp only [RetW]
                (try simp -implicitDefEqProofs (maxSteps := 4000000) (disch := first | omega | decide | (simp only [go_sem]; omega)) only [go_sem, ↓reduceIte, String.reduceEq, String.reduceNe, reduceCtorEq, Int.reduceEq, Nat.reduceAdd, Nat.reduceSub, Nat.reduceMul, Nat.reduceLT, Nat.reduceLeDiff, Nat.reduceEqDiff, Nat.reduceBEq, Int.reduceToNat, Int.reduceLT, Int.reduceLE, Int.reduceGT, Int.reduceGE, Int.reduceAdd, Int.reduceSub, Int.reduceMul, Int.reduceNeg, Int.reduceBEq, Int.reduceBNe, Int.reducePow, Int.reduceDiv, Int.reduceMod, Int.reduceTDiv, Int.reduceTMod, Int.reduceNatCast])
                (try simp (disch := omega) only [if_pos, Nat.sub_zero])
                first | exact leT_refl _ | (refine ⟨rfl, ?_⟩; first | exact leT_refl _ | exact leT_sl | exact leT_sln | exact leT_nil | (refine leT_tup (by repeat (first | exact leL_refl _ | refine leL_cons (by first | exact leT_refl _ | exact leT_virt | exact leT_junk _ | exact leT_sl | exact leT_sln | exact leT_nil) ?_))) | (refine leT_agg (by repeat (first | exact leL_refl _ | refine leL_cons (by first | exact leT_refl _ | exact leT_virt | exact leT_junk _ | exact leT_sl | exact leT_sln | exact leT_nil) ?_)))) | (first | exact leT_refl _ | exact leT_sl | exact leT_sln | exact leT_nil | (refine leT_tup (by repeat (first | exact leL_refl _ | refine leL_cons (by first | exact leT_refl _ | exact leT_virt | exact leT_junk _ | exact leT_sl | exact leT_sln | exact leT_nil) ?_))) | (refine leT_agg (by repeat (first | exact leL_refl _ | refine leL_cons (by first | exact leT_refl _ | exact leT_virt | exact leT_junk _ | exact leT_sl | exact leT_sln | exact leT_nil) ?_)))) | (simp only [List.append_assoc, List.cons_append, List.nil_append]; exact leT_refl _) | (rw [List.take_of_length_le (by simp)]; (try simp only [List.append_assoc, List.cons_append, List.nil_append]); exact leT_refl _)
end Go.Proofs.YtdfghdppbfabfaaDoorX

set_option linter.unusedVariables false
set_option linter.unusedSimpArgs false
namespace Go.Proofs.YtdfghdppbfabfaaDoorX
open Go Go.RowKit Go.Proofs
set_option maxRecDepth 100000
/-! ### hex.Lower -/
def F10_S1 (a0 : List UInt8) (x1 : Int) (x2 : List (Int)) : St := ⟨[.junk, .junk, .junk, .rsl 0 1 0 x2.length, .junk, .junk, .junk, .junk, .rsl 0 1 0 x2.length, .imm (.int .i64 (a0.length : Int)), .imm (.int .i64 x1), .junk, .junk, .junk, .junk, .junk, .junk, .junk, .junk, .junk, .junk, .junk, .junk, .junk, .junk, .junk], [some (.buf 5 1 (List.map byteT x2) 0)]⟩
def F10_L1 : Nat → (List UInt8) → (Int) → (List (Int)) → Option (List UInt8)
  | 0, _, _, _ => none
  | m1 + 1, a0, x1, x2 => iteB (decide (x1 < (a0.length : Int))) (grd (0 ≤ x1 ∧ x1 < (x2.length : Int)) (grd (x1.toNat < x2.length) ((F23 m1 (x2.getD x1.toNat default)).bind fun v6 => iteB (v6 == (4 : Int)) (grd (0 ≤ x1 ∧ x1 < (x2.length : Int)) (grd (x1.toNat < x2.length) (F10_L1 m1 a0 (IntKind.wrap .i64 (x1 + (1 : Int))) (List.set x2 x1.toNat (IntKind.wrap .u8 ((x2.getD x1.toNat default) + (32 : Int))))))) (F10_L1 m1 a0 (IntKind.wrap .i64 (x1 + (1 : Int))) x2)))) (some (x2.map toB))
def F10 (n : Nat) (a0 : List UInt8) : Option (List UInt8) := F10_L1 n a0 (0 : Int) (a0.map ofB)
set_option maxHeartbeats 4000000 in
theorem F10_ok : ∀ (n : Nat) (a0 : List UInt8) (r : List UInt8), F10 n a0 = some r → FnC Tryd.prog 10 [.imm (.string (bs a0))] (.imm (.string (bs r)))
  | n, a0, r, h => by
    unfold F10 at h
    refine FnC.goX mixed Tryd.func10 (by kernel_rfl) rfl ?_
    simp only [Tryd.ntmps10, List.length_cons, List.length_nil, List.replicate, List.cons_append, List.nil_append, Nat.reduceAdd, Nat.reduceSub]
    refine runX_seq ?_
    refine runX_regionC fun C hC => ?_
    try simp -implicitDefEqProofs (maxSteps := 4000000) (disch := first | omega | decide | (simp only [go_sem]; omega)) only [go_sem, ↓reduceIte, String.reduceEq, String.reduceNe, reduceCtorEq, Int.reduceEq, Nat.reduceAdd, Nat.reduceSub, Nat.reduceMul, Nat.reduceLT, Nat.reduceLeDiff, Nat.reduceEqDiff, Nat.reduceBEq, Int.reduceToNat, Int.reduceLT, Int.reduceLE, Int.reduceGT, Int.reduceGE, Int.reduceAdd, Int.reduceSub, Int.reduceMul, Int.reduceNeg, Int.reduceBEq, Int.reduceBNe, Int.reducePow, Int.reduceDiv, Int.reduceMod, Int.reduceTDiv, Int.reduceTMod, Int.reduceNatCast]
    repeat (with_reducible refine And.intro (by first | assumption | omega | (simp; done) | (simp; omega)) ?_)
    refine toEnd hC ?_
    refine endX_seq ?_
    refine runX_seq ?_
    refine runX_regionC fun C hC => ?_
    try simp -implicitDefEqProofs (maxSteps := 4000000) (disch := first | omega | decide | (simp only [go_sem]; omega)) only [go_sem, ↓reduceIte, String.reduceEq, String.reduceNe, reduceCtorEq, Int.reduceEq, Nat.reduceAdd, Nat.reduceSub, Nat.reduceMul, Nat.reduceLT, Nat.reduceLeDiff, Nat.reduceEqDiff, Nat.reduceBEq, Int.reduceToNat, Int.reduceLT, Int.reduceLE, Int.reduceGT, Int.reduceGE, Int.reduceAdd, Int.reduceSub, Int.reduceMul, Int.reduceNeg, Int.reduceBEq, Int.reduceBNe, Int.reducePow, Int.reduceDiv, Int.reduceMod, Int.reduceTDiv, Int.reduceTMod, Int.reduceNatCast]
    repeat (with_reducible refine And.intro (by first | assumption | omega | (simp; done) | (simp; omega)) ?_)
    refine toEnd hC ?_
    refine endX_seq ?_
    refine runX_seq ?_
    refine runX_seq ?_
    refine runX_regionC fun C hC => ?_
    try simp -implicitDefEqProofs (maxSteps := 4000000) (disch := first | omega | decide | (simp only [go_sem]; omega)) only [go_sem, ↓reduceIte, String.reduceEq, String.reduceNe, reduceCtorEq, Int.reduceEq, Nat.reduceAdd, Nat.reduceSub, Nat.reduceMul, Nat.reduceLT, Nat.reduceLeDiff, Nat.reduceEqDiff, Nat.reduceBEq, Int.reduceToNat, Int.reduceLT, Int.reduceLE, Int.reduceGT, Int.reduceGE, Int.reduceAdd, Int.reduceSub, Int.reduceMul, Int.reduceNeg, Int.reduceBEq, Int.reduceBNe, Int.reducePow, Int.reduceDiv, Int.reduceMod, Int.reduceTDiv, Int.reduceTMod, Int.reduceNatCast]
    repeat (with_reducible refine And.intro (by first | assumption | omega | (simp; done) | (simp; omega)) ?_)
    refine toEnd hC ?_
    refine endX_seq ?_
    refine runX_block ?_
    refine runX_loop [3, 8, 9, 10] (fun m S => ∃ (x1 : Int) (x2 : List (Int)), S = F10_S1 a0 x1 x2 ∧ m ≤ n ∧ F10_L1 m a0 x1 x2 = some r) n ⟨F10_S1 a0 (0 : Int) (a0.map ofB), ?_, (0 : Int), (a0.map ofB), rfl, Nat.le_refl _, h⟩ ?_
    · simp only [F10_S1]
      (try simp -implicitDefEqProofs (maxSteps := 4000000) (disch := first | omega | decide | (simp only [go_sem]; omega)) only [go_sem, ↓reduceIte, String.reduceEq, String.reduceNe, reduceCtorEq, Int.reduceEq, Nat.reduceAdd, Nat.reduceSub, Nat.reduceMul, Nat.reduceLT, Nat.reduceLeDiff, Nat.reduceEqDiff, Nat.reduceBEq, Int.reduceToNat, Int.reduceLT, Int.reduceLE, Int.reduceGT, Int.reduceGE, Int.reduceAdd, Int.reduceSub, Int.reduceMul, Int.reduceNeg, Int.reduceBEq, Int.reduceBNe, Int.reducePow, Int.reduceDiv, Int.reduceMod, Int.reduceTDiv, Int.reduceTMod, Int.reduceNatCast])
      first | exact leS_refl _ | (refine leS_le ?_ ?_ <;> first | exact leL_refl _ | exact leOs_refl _ | (repeat (first | exact leL_refl _ | refine leL_cons (by first | exact leT_refl _ | exact leT_virt | exact leT_junk _ | exact leT_sl | exact leT_sln | exact leT_nil) ?_)))
    · clear h
      rintro m1 S ⟨x1, x2, rfl, hm1, h⟩
      cases m1 with
      | zero => cases (show (none : Option _) = some _ from h)
      | succ m1 =>
        rw [F10_L1] at h
        simp only [F10_S1]
        refine runX_seq ?_
        refine runX_regionC fun C hC => ?_
        try simp -implicitDefEqProofs (maxSteps := 4000000) (disch := first | omega | decide | (simp only [go_sem]; omega)) only [go_sem, ↓reduceIte, String.reduceEq, String.reduceNe, reduceCtorEq, Int.reduceEq, Nat.reduceAdd, Nat.reduceSub, Nat.reduceMul, Nat.reduceLT, Nat.reduceLeDiff, Nat.reduceEqDiff, Nat.reduceBEq, Int.reduceToNat, Int.reduceLT, Int.reduceLE, Int.reduceGT, Int.reduceGE, Int.reduceAdd, Int.reduceSub, Int.reduceMul, Int.reduceNeg, Int.reduceBEq, Int.reduceBNe, Int.reducePow, Int.reduceDiv, Int.reduceMod, Int.reduceTDiv, Int.reduceTMod, Int.reduceNatCast]
        repeat (with_reducible refine And.intro (by first | assumption | omega | (simp; done) | (simp; omega)) ?_)
        refine toEnd hC ?_
        refine endX_seq ?_
        refine runX_seq ?_
        rcases iteB_some h with ⟨c3, h⟩ | ⟨c3, h⟩
        · refine runX_condT rfl c3 ?_
          refine runX_skip ?_
          refine endX_seq ?_
          refine runX_seq ?_
          refine runX_block ?_
          refine runX_seq ?_
          refine runX_regionC fun C hC => ?_
          obtain ⟨g4, h⟩ := grd_some h
          obtain ⟨g5, h⟩ := grd_some h
          try simp -implicitDefEqProofs (maxSteps := 4000000) (disch := first | omega | decide | (simp only [go_sem]; omega)) only [go_sem, ↓reduceIte, String.reduceEq, String.reduceNe, reduceCtorEq, Int.reduceEq, Nat.reduceAdd, Nat.reduceSub, Nat.reduceMul, Nat.reduceLT, Nat.reduceLeDiff, Nat.reduceEqDiff, Nat.reduceBEq, Int.reduceToNat, Int.reduceLT, Int.reduceLE, Int.reduceGT, Int.reduceGE, Int.reduceAdd, Int.reduceSub, Int.reduceMul, Int.reduceNeg, Int.reduceBEq, Int.reduceBNe, Int.reducePow, Int.reduceDiv, Int.reduceMod, Int.reduceTDiv, Int.reduceTMod, Int.reduceNatCast]
          repeat (with_reducible refine And.intro (by first | assumption | omega | (simp; done) | (simp; omega)) ?_)
          refine toEnd hC ?_
          refine endX_seq ?_
          refine runX_seq ?_
          refine runX_regionC fun C hC => ?_
          obtain ⟨v6, h6, h⟩ := bnd_some h
          try simp -implicitDefEqProofs (maxSteps := 4000000) (disch := first | omega | decide | (simp only [go_sem]; omega)) only [go_sem, ↓reduceIte, String.reduceEq, String.reduceNe, reduceCtorEq, Int.reduceEq, Nat.reduceAdd, Nat.reduceSub, Nat.reduceMul, Nat.reduceLT, Nat.reduceLeDiff, Nat.reduceEqDiff, Nat.reduceBEq, Int.reduceToNat, Int.reduceLT, Int.reduceLE, Int.reduceGT, Int.reduceGE, Int.reduceAdd, Int.reduceSub, Int.reduceMul, Int.reduceNeg, Int.reduceBEq, Int.reduceBNe, Int.reducePow, Int.reduceDiv, Int.reduceMod, Int.reduceTDiv, Int.reduceTMod, Int.reduceNatCast]
          repeat (with_reducible refine And.intro (by first | assumption | omega | (simp; done) | (simp; omega)) ?_)
          refine callG_X (F23_ok m1 (x2.getD x1.toNat default) _ h6) (by repeat (first | exact leL_refl _ | refine leL_cons (by first | exact leT_refl _ | exact leT_virt | exact leT_junk _ | exact leT_sl | exact leT_sln | exact leT_nil) ?_)) ?_
          try simp -implicitDefEqProofs (maxSteps := 4000000) (disch := first | omega | decide | (simp only [go_sem]; omega)) only [go_sem, ↓reduceIte, String.reduceEq, String.reduceNe, reduceCtorEq, Int.reduceEq, Nat.reduceAdd, Nat.reduceSub, Nat.reduceMul, Nat.reduceLT, Nat.reduceLeDiff, Nat.reduceEqDiff, Nat.reduceBEq, Int.reduceToNat, Int.reduceLT, Int.reduceLE, Int.reduceGT, Int.reduceGE, Int.reduceAdd, Int.reduceSub, Int.reduceMul, Int.reduceNeg, Int.reduceBEq, Int.reduceBNe, Int.reducePow, Int.reduceDiv, Int.reduceMod, Int.reduceTDiv, Int.reduceTMod, Int.reduceNatCast]
          repeat (with_reducible refine And.intro (by first | assumption | omega | (simp; done) | (simp; omega)) ?_)
          refine toEnd hC ?_
          refine endX_seq ?_
          rcases iteB_some h with ⟨c7, h⟩ | ⟨c7, h⟩
          · refine runX_condT rfl c7 ?_
            refine runX_regionC fun C hC => ?_
            obtain ⟨g8, h⟩ := grd_some h
            obtain ⟨g9, h⟩ := grd_some h
            try simp -implicitDefEqProofs (maxSteps := 4000000) (disch := first | omega | decide | (simp only [go_sem]; omega)) only [go_sem, ↓reduceIte, String.reduceEq, String.reduceNe, reduceCtorEq, Int.reduceEq, Nat.reduceAdd, Nat.reduceSub, Nat.reduceMul, Nat.reduceLT, Nat.reduceLeDiff, Nat.reduceEqDiff, Nat.reduceBEq, Int.reduceToNat, Int.reduceLT, Int.reduceLE, Int.reduceGT, Int.reduceGE, Int.reduceAdd, Int.reduceSub, Int.reduceMul, Int.reduceNeg, Int.reduceBEq, Int.reduceBNe, Int.reducePow, Int.reduceDiv, Int.reduceMod, Int.reduceTDiv, Int.reduceTMod, Int.reduceNatCast]
            repeat (with_reducible refine And.intro (by first | assumption | omega | (simp; done) | (simp; omega)) ?_)
            refine toEnd hC ?_
            refine endX_blk ?_
            refine endX_seq ?_
            refine runX_regionC fun C hC => ?_
            try simp -implicitDefEqProofs (maxSteps := 4000000) (disch := first | omega | decide | (simp only [go_sem]; omega)) only [go_sem, ↓reduceIte, String.reduceEq, String.reduceNe, reduceCtorEq, Int.reduceEq, Nat.reduceAdd, Nat.reduceSub, Nat.reduceMul, Nat.reduceLT, Nat.reduceLeDiff, Nat.reduceEqDiff, Nat.reduceBEq, Int.reduceToNat, Int.reduceLT, Int.reduceLE, Int.reduceGT, Int.reduceGE, Int.reduceAdd, Int.reduceSub, Int.reduceMul, Int.reduceNeg, Int.reduceBEq, Int.reduceBNe, Int.reducePow, Int.reduceDiv, Int.reduceMod, Int.reduceTDiv, Int.reduceTMod, Int.reduceNatCast]
            repeat (with_reducible refine And.intro (by first | assumption | omega | (simp; done) | (simp; omega)) ?_)
            refine toEnd hC ?_
            refine endX_q (roundQ_normal ⟨m1, by omega, F10_S1 a0 (IntKind.wrap .i64 (x1 + (1 : Int))) (List.set x2 x1.toNat (IntKind.wrap .u8 ((x2.getD x1.toNat default) + (32 : Int)))), ?_, (IntKind.wrap .i64 (x1 + (1 : Int))), (List.set x2 x1.toNat (IntKind.wrap .u8 ((x2.getD x1.toNat default) + (32 : Int)))), rfl, by omega, h⟩)
            simp only [F10_S1]
            (try simp -implicitDefEqProofs (maxSteps := 4000000) (disch := first | omega | decide | (simp only [go_sem]; omega)) only [go_sem, ↓reduceIte, String.reduceEq, String.reduceNe, reduceCtorEq, Int.reduceEq, Nat.reduceAdd, Nat.reduceSub, Nat.reduceMul, Nat.reduceLT, Nat.reduceLeDiff, Nat.reduceEqDiff, Nat.reduceBEq, Int.reduceToNat, Int.reduceLT, Int.reduceLE, Int.reduceGT, Int.reduceGE, Int.reduceAdd, Int.reduceSub, Int.reduceMul, Int.reduceNeg, Int.reduceBEq, Int.reduceBNe, Int.reducePow, Int.reduceDiv, Int.reduceMod, Int.reduceTDiv, Int.reduceTMod, Int.reduceNatCast])
            first | exact leS_refl _ | (refine leS_le ?_ ?_ <;> first | exact leL_refl _ | exact leOs_refl _ | (repeat (first | exact leL_refl _ | refine leL_cons (by first | exact leT_refl _ | exact leT_virt | exact leT_junk _ | exact leT_sl | exact leT_sln | exact leT_nil) ?_)))
          · refine runX_condF rfl c7 ?_
            refine runX_skip ?_
            refine endX_blk ?_
            refine endX_seq ?_
            refine runX_regionC fun C hC => ?_
            try simp -implicitDefEqProofs (maxSteps := 4000000) (disch := first | omega | decide | (simp only [go_sem]; omega)) only [go_sem, ↓reduceIte, String.reduceEq, String.reduceNe, reduceCtorEq, Int.reduceEq, Nat.reduceAdd, Nat.reduceSub, Nat.reduceMul, Nat.reduceLT, Nat.reduceLeDiff, Nat.reduceEqDiff, Nat.reduceBEq, Int.reduceToNat, Int.reduceLT, Int.reduceLE, Int.reduceGT, Int.reduceGE, Int.reduceAdd, Int.reduceSub, Int.reduceMul, Int.reduceNeg, Int.reduceBEq, Int.reduceBNe, Int.reducePow, Int.reduceDiv, Int.reduceMod, Int.reduceTDiv, Int.reduceTMod, Int.reduceNatCast]
            repeat (with_reducible refine And.intro (by first | assumption | omega | (simp; done) | (simp; omega)) ?_)
            refine toEnd hC ?_
            refine endX_q (roundQ_normal ⟨m1, by omega, F10_S1 a0 (IntKind.wrap .i64 (x1 + (1 : Int))) x2, ?_, (IntKind.wrap .i64 (x1 + (1 : Int))), x2, rfl, by omega, h⟩)
            simp only [F10_S1]
            (try simp -implicitDefEqProofs (maxSteps := 4000000) (disch := first | omega | decide | (simp only [go_sem]; omega)) only [go_sem, ↓reduceIte, String.reduceEq, String.reduceNe, reduceCtorEq, Int.reduceEq, Nat.reduceAdd, Nat.reduceSub, Nat.reduceMul, Nat.reduceLT, Nat.reduceLeDiff, Nat.reduceEqDiff, Nat.reduceBEq, Int.reduceToNat, Int.reduceLT, Int.reduceLE, Int.reduceGT, Int.reduceGE, Int.reduceAdd, Int.reduceSub, Int.reduceMul, Int.reduceNeg, Int.reduceBEq, Int.reduceBNe, Int.reducePow, Int.reduceDiv, Int.reduceMod, Int.reduceTDiv, Int.reduceTMod, Int.reduceNatCast])
            first | exact leS_refl _ | (refine leS_le ?_ ?_ <;> first | exact leL_refl _ | exact leOs_refl _ | (repeat (first | exact leL_refl _ | refine leL_cons (by first | exact leT_refl _ | exact leT_virt | exact leT_junk _ | exact leT_sl | exact leT_sln | exact leT_nil) ?_)))
        · refine runX_condF rfl c3 ?_
          refine runX_exit ?_
          refine endX_seqE ?_
          refine endX_q (roundQ_exit ?_)
          refine endX_blkE ?_
          refine endX_seq ?_
          refine runX_seq ?_
          refine runX_regionC fun C hC => ?_
          try simp -implicitDefEqProofs (maxSteps := 4000000) (disch := first | omega | decide | (simp only [go_sem]; omega)) only [go_sem, ↓reduceIte, String.reduceEq, String.reduceNe, reduceCtorEq, Int.reduceEq, Nat.reduceAdd, Nat.reduceSub, Nat.reduceMul, Nat.reduceLT, Nat.reduceLeDiff, Nat.reduceEqDiff, Nat.reduceBEq, Int.reduceToNat, Int.reduceLT, Int.reduceLE, Int.reduceGT, Int.reduceGE, Int.reduceAdd, Int.reduceSub, Int.reduceMul, Int.reduceNeg, Int.reduceBEq, Int.reduceBNe, Int.reducePow, Int.reduceDiv, Int.reduceMod, Int.reduceTDiv, Int.reduceTMod, Int.reduceNatCast]
          repeat (with_reducible refine And.intro (by first | assumption | omega | (simp; done) | (simp; omega)) ?_)
          refine toEnd hC ?_
          refine endX_seq ?_
          refine runX_ret ?_
          refine endX_q ?_
          obtain rfl := Option.some.inj h
          show RetW _ _ _ _ _
          simp only [RetW]
          (try simp -implicitDefEqProofs (maxSteps := 4000000) (disch := first | omega | decide | (simp only [go_sem]; omega)) only [go_sem, ↓reduceIte, String.reduceEq, String.reduceNe, reduceCtorEq, Int.reduceEq, Nat.reduceAdd, Nat.reduceSub, Nat.reduceMul, Nat.reduceLT, Nat.reduceLeDiff, Nat.reduceEqDiff, Nat.reduceBEq, Int.reduceToNat, Int.reduceLT, Int.reduceLE, Int.reduceGT, Int.reduceGE, Int.reduceAdd, Int.reduceSub, Int.reduceMul, Int.reduceNeg, Int.reduceBEq, Int.reduceBNe, Int.reducePow, Int.reduceDiv, Int.reduceMod, Int.reduceTDiv, Int.reduceTMod, Int.reduceNatCast])
          (try simp (disch := omega) only [if_pos, Nat.sub_zero])
          first | exact leT_refl _ | (refine ⟨rfl, ?_⟩; first | exact leT_refl _ | exact leT_sl | exact leT_sln | exact leT_nil | (refine leT_tup (by repeat (first | exact leL_refl _ | refine leL_cons (by first | exact leT_refl _ | exact leT_virt | exact leT_junk _ | exact leT_sl | exact leT_sln | exact leT_nil) ?_))) | (refine leT_agg (by repeat (first | exact leL_refl _ | refine leL_cons (by first | exact leT_refl _ | exact leT_virt | exact leT_junk _ | exact leT_sl | exact leT_sln | exact leT_nil) ?_)))) | (first | exact leT_refl _ | exact leT_sl | exact leT_sln | exact leT_nil | (refine leT_tup (by repeat (first | exact leL_refl _ | refine leL_cons (by first | exact leT_refl _ | exact leT_virt | exact leT_junk _ | exact leT_sl | exact leT_sln | exact leT_nil) ?_))) | (refine leT_agg (by repeat (first | exact leL_refl _ | refine leL_cons (by first | exact leT_refl _ | exact leT_virt | exact leT_junk _ | exact leT_sl | exact leT_sln | exact leT_nil) ?_)))) | (simp only [List.append_assoc, List.cons_append, List.nil_append]; exact leT_refl _) | (rw [List.take_of_length_le (by simp)]; (try simp only [List.append_assoc, List.cons_append, List.nil_append]); exact leT_refl _)
end Go.Proofs.YtdfghdppbfabfaaDoorX

set_option linter.unusedVariables false
set_option linter.unusedSimpArgs false
namespace Go.Proofs.YtdfghdppbfabfaaDoorX
open Go Go.RowKit Go.Proofs
set_option maxRecDepth 100000
/-! ### shadowboxlaw27.NameSmall -/
def F4 (n : Nat) (a0 : List UInt8) : Option (Bool) := iteB (decide ((1000 : Int) < (a0.length : Int))) ((F9 n a0).bind fun v2 => some (v2 == (1 : Int))) ((F9 n a0).bind fun v3 => iteB (v3 != (0 : Int)) ((F9 n ([100, 97, 116, 97, 46, 111, 110, 101] : List UInt8)).bind fun v5 => iteB (v5 == (0 : Int)) ((F9 n ([49, 57, 50, 46, 49, 54, 56, 46, 48, 46, 49] : List UInt8)).bind fun v7 => some (v7 == (4 : Int))) (some false)) (grd (a0.length + 1 ≤ 9223372036854775807) ((F9 n (a0 ++ ([97] : List UInt8))).bind fun v9 => (F10 n a0).bind fun v10 => iteB (v10 == a0) (iteB (decide ((3 : Int) ≤ (a0.length : Int))) (iteB (decide ((a0.length : Int) ≤ (63 : Int))) (iteB (v9 == (0 : Int)) (grd (a0.length + 1 ≤ 9223372036854775807) ((F9 n (a0 ++ ([45] : List UInt8))).bind fun v16 => iteB (v16 != (0 : Int)) (grd (1 + a0.length ≤ 9223372036854775807) ((F9 n (([65] : List UInt8) ++ a0)).bind fun v19 => some (v19 != (0 : Int)))) (some false))) (iteB ((a0.length : Int) == (63 : Int)) (iteB (v9 == (1 : Int)) (grd (a0.length + 1 ≤ 9223372036854775807) ((F9 n (a0 ++ ([45] : List UInt8))).bind fun v23 => iteB (v23 != (0 : Int)) (grd (1 + a0.length ≤ 9223372036854775807) ((F9 n (([65] : List UInt8) ++ a0)).bind fun v26 => some (v26 != (0 : Int)))) (some false))) (some false)) (some false))) (some false)) (some false)) (some false))))
set_option maxHeartbeats 4000000 in
theorem F4_ok : ∀ (n : Nat) (a0 : List UInt8) (r : Bool), F4 n a0 = some r → FnC Tryd.prog 4 [.imm (.string (bs a0))] (.imm (.bool r))
  | n, a0, r, h => by
    unfold F4 at h
    refine FnC.goX mixed Tryd.func4 (by kernel_rfl) rfl ?_
    simp only [Tryd.ntmps4, List.length_cons, List.length_nil, List.replicate, List.cons_append, List.nil_append, Nat.reduceAdd, Nat.reduceSub]
    refine runX_seq ?_
    refine runX_regionC fun C hC => ?_
    try simp -implicitDefEqProofs (maxSteps := 4000000) (disch := first | omega | decide | (simp only [go_sem]; omega)) only [go_sem, ↓reduceIte, String.reduceEq, String.reduceNe, reduceCtorEq, Int.reduceEq, Nat.reduceAdd, Nat.reduceSub, Nat.reduceMul, Nat.reduceLT, Nat.reduceLeDiff, Nat.reduceEqDiff, Nat.reduceBEq, Int.reduceToNat, Int.reduceLT, Int.reduceLE, Int.reduceGT, Int.reduceGE, Int.reduceAdd, Int.reduceSub, Int.reduceMul, Int.reduceNeg, Int.reduceBEq, Int.reduceBNe, Int.reducePow, Int.reduceDiv, Int.reduceMod, Int.reduceTDiv, Int.reduceTMod, Int.reduceNatCast]
    repeat (with_reducible refine And.intro (by first | assumption | omega | (simp; done) | (simp; omega)) ?_)
    refine toEnd hC ?_
    refine endX_seq ?_
    refine runX_seq ?_
    refine runX_seq ?_
    refine runX_regionC fun C hC => ?_
    try simp -implicitDefEqProofs (maxSteps := 4000000) (disch := first | omega | decide | (simp only [go_sem]; omega)) only [go_sem, ↓reduceIte, String.reduceEq, String.reduceNe, reduceCtorEq, Int.reduceEq, Nat.reduceAdd, Nat.reduceSub, Nat.reduceMul, Nat.reduceLT, Nat.reduceLeDiff, Nat.reduceEqDiff, Nat.reduceBEq, Int.reduceToNat, Int.reduceLT, Int.reduceLE, Int.reduceGT, Int.reduceGE, Int.reduceAdd, Int.reduceSub, Int.reduceMul, Int.reduceNeg, Int.reduceBEq, Int.reduceBNe, Int.reducePow, Int.reduceDiv, Int.reduceMod, Int.reduceTDiv, Int.reduceTMod, Int.reduceNatCast]
    repeat (with_reducible refine And.intro (by first | assumption | omega | (simp; done) | (simp; omega)) ?_)
    refine toEnd hC ?_
    refine endX_seq ?_
    rcases iteB_some h with ⟨c1, h⟩ | ⟨c1, h⟩
    · refine runX_condT rfl c1 ?_
      refine runX_seq ?_
      refine runX_regionC fun C hC => ?_
      obtain ⟨v2, h2, h⟩ := bnd_some h
      try simp -implicitDefEqProofs (maxSteps := 4000000) (disch := first | omega | decide | (simp only [go_sem]; omega)) only [go_sem, ↓reduceIte, String.reduceEq, String.reduceNe, reduceCtorEq, Int.reduceEq, Nat.reduceAdd, Nat.reduceSub, Nat.reduceMul, Nat.reduceLT, Nat.reduceLeDiff, Nat.reduceEqDiff, Nat.reduceBEq, Int.reduceToNat, Int.reduceLT, Int.reduceLE, Int.reduceGT, Int.reduceGE, Int.reduceAdd, Int.reduceSub, Int.reduceMul, Int.reduceNeg, Int.reduceBEq, Int.reduceBNe, Int.reducePow, Int.reduceDiv, Int.reduceMod, Int.reduceTDiv, Int.reduceTMod, Int.reduceNatCast]
      repeat (with_reducible refine And.intro (by first | assumption | omega | (simp; done) | (simp; omega)) ?_)
      refine callG_X (F9_ok n a0 _ h2) (by repeat (first | exact leL_refl _ | refine leL_cons (by first | exact leT_refl _ | exact leT_virt | exact leT_junk _ | exact leT_sl | exact leT_sln | exact leT_nil) ?_)) ?_
      try simp -implicitDefEqProofs (maxSteps := 4000000) (disch := first | omega | decide | (simp only [go_sem]; omega)) only [go_sem, ↓reduceIte, String.reduceEq, String.reduceNe, reduceCtorEq, Int.reduceEq, Nat.reduceAdd, Nat.reduceSub, Nat.reduceMul, Nat.reduceLT, Nat.reduceLeDiff, Nat.reduceEqDiff, Nat.reduceBEq, Int.reduceToNat, Int.reduceLT, Int.reduceLE, Int.reduceGT, Int.reduceGE, Int.reduceAdd, Int.reduceSub, Int.reduceMul, Int.reduceNeg, Int.reduceBEq, Int.reduceBNe, Int.reducePow, Int.reduceDiv, Int.reduceMod, Int.reduceTDiv, Int.reduceTMod, Int.reduceNatCast]
      repeat (with_reducible refine And.intro (by first | assumption | omega | (simp; done) | (simp; omega)) ?_)
      refine toEnd hC ?_
      refine endX_seq ?_
      refine runX_ret ?_
      refine endX_seqR ?_
      refine endX_q ?_
      obtain rfl := Option.some.inj h
      show RetW _ _ _ _ _
      simp only [RetW]
      (try simp -implicitDefEqProofs (maxSteps := 4000000) (disch := first | omega | decide | (simp only [go_sem]; omega)) only [go_sem, ↓reduceIte, String.reduceEq, String.reduceNe, reduceCtorEq, Int.reduceEq, Nat.reduceAdd, Nat.reduceSub, Nat.reduceMul, Nat.reduceLT, Nat.reduceLeDiff, Nat.reduceEqDiff, Nat.reduceBEq, Int.reduceToNat, Int.reduceLT, Int.reduceLE, Int.reduceGT, Int.reduceGE, Int.reduceAdd, Int.reduceSub, Int.reduceMul, Int.reduceNeg, Int.reduceBEq, Int.reduceBNe, Int.reducePow, Int.reduceDiv, Int.reduceMod, Int.reduceTDiv, Int.reduceTMod, Int.reduceNatCast])
      (try simp (disch := omega) only [if_pos, Nat.sub_zero])
      first | exact leT_refl _ | (refine ⟨rfl, ?_⟩; first | exact leT_refl _ | exact leT_sl | exact leT_sln | exact leT_nil | (refine leT_tup (by repeat (first | exact leL_refl _ | refine leL_cons (by first | exact leT_refl _ | exact leT_virt | exact leT_junk _ | exact leT_sl | exact leT_sln | exact leT_nil) ?_))) | (refine leT_agg (by repeat (first | exact leL_refl _ | refine leL_cons (by first | exact leT_refl _ | exact leT_virt | exact leT_junk _ | exact leT_sl | exact leT_sln | exact leT_nil) ?_)))) | (first | exact leT_refl _ | exact leT_sl | exact leT_sln | exact leT_nil | (refine leT_tup (by repeat (first | exact leL_refl _ | refine leL_cons (by first | exact leT_refl _ | exact leT_virt | exact leT_junk _ | exact leT_sl | exact leT_sln | exact leT_nil) ?_))) | (refine leT_agg (by repeat (first | exact leL_refl _ | refine leL_cons (by first | exact leT_refl _ | exact leT_virt | exact leT_junk _ | exact leT_sl | exact leT_sln | exact leT_nil) ?_)))) | (simp only [List.append_assoc, List.cons_append, List.nil_append]; exact leT_refl _) | (rw [List.take_of_length_le (by simp)]; (try simp only [List.append_assoc, List.cons_append, List.nil_append]); exact leT_refl _)
    · refine runX_condF rfl c1 ?_
      refine runX_skip ?_
      refine endX_seq ?_
      refine runX_seq ?_
      refine runX_seq ?_
      refine runX_regionC fun C hC => ?_
      obtain ⟨v3, h3, h⟩ := bnd_some h
      try simp -implicitDefEqProofs (maxSteps := 4000000) (disch := first | omega | decide | (simp only [go_sem]; omega)) only [go_sem, ↓reduceIte, String.reduceEq, String.reduceNe, reduceCtorEq, Int.reduceEq, Nat.reduceAdd, Nat.reduceSub, Nat.reduceMul, Nat.reduceLT, Nat.reduceLeDiff, Nat.reduceEqDiff, Nat.reduceBEq, Int.reduceToNat, Int.reduceLT, Int.reduceLE, Int.reduceGT, Int.reduceGE, Int.reduceAdd, Int.reduceSub, Int.reduceMul, Int.reduceNeg, Int.reduceBEq, Int.reduceBNe, Int.reducePow, Int.reduceDiv, Int.reduceMod, Int.reduceTDiv, Int.reduceTMod, Int.reduceNatCast]
      repeat (with_reducible refine And.intro (by first | assumption | omega | (simp; done) | (simp; omega)) ?_)
      refine callG_X (F9_ok n a0 _ h3) (by repeat (first | exact leL_refl _ | refine leL_cons (by first | exact leT_refl _ | exact leT_virt | exact leT_junk _ | exact leT_sl | exact leT_sln | exact leT_nil) ?_)) ?_
      try simp -implicitDefEqProofs (maxSteps := 4000000) (disch := first | omega | decide | (simp only [go_sem]; omega)) only [go_sem, ↓reduceIte, String.reduceEq, String.reduceNe, reduceCtorEq, Int.reduceEq, Nat.reduceAdd, Nat.reduceSub, Nat.reduceMul, Nat.reduceLT, Nat.reduceLeDiff, Nat.reduceEqDiff, Nat.reduceBEq, Int.reduceToNat, Int.reduceLT, Int.reduceLE, Int.reduceGT, Int.reduceGE, Int.reduceAdd, Int.reduceSub, Int.reduceMul, Int.reduceNeg, Int.reduceBEq, Int.reduceBNe, Int.reducePow, Int.reduceDiv, Int.reduceMod, Int.reduceTDiv, Int.reduceTMod, Int.reduceNatCast]
      repeat (with_reducible refine And.intro (by first | assumption | omega | (simp; done) | (simp; omega)) ?_)
      refine toEnd hC ?_
      refine endX_seq ?_
      rcases iteB_some h with ⟨c4, h⟩ | ⟨c4, h⟩
      · refine runX_condT rfl c4 ?_
        refine runX_seq ?_
        refine runX_regionC fun C hC => ?_
        simp only [runK_region, runK_draw, liteL, liteL2, dstsL, gL, List.getD_cons_zero, List.getD_cons_succ]
        obtain ⟨v5, h5, h⟩ := bnd_some h
        try simp -implicitDefEqProofs (maxSteps := 4000000) (disch := first | omega | decide | (simp only [go_sem]; omega)) only [go_sem, ↓reduceIte, String.reduceEq, String.reduceNe, reduceCtorEq, Int.reduceEq, Nat.reduceAdd, Nat.reduceSub, Nat.reduceMul, Nat.reduceLT, Nat.reduceLeDiff, Nat.reduceEqDiff, Nat.reduceBEq, Int.reduceToNat, Int.reduceLT, Int.reduceLE, Int.reduceGT, Int.reduceGE, Int.reduceAdd, Int.reduceSub, Int.reduceMul, Int.reduceNeg, Int.reduceBEq, Int.reduceBNe, Int.reducePow, Int.reduceDiv, Int.reduceMod, Int.reduceTDiv, Int.reduceTMod, Int.reduceNatCast]
        repeat (with_reducible refine And.intro (by first | assumption | omega | (simp; done) | (simp; omega)) ?_)
        refine callG_X (F9_ok n ([100, 97, 116, 97, 46, 111, 110, 101] : List UInt8) _ h5) (by repeat (first | exact leL_refl _ | refine leL_cons (by first | exact leT_refl _ | exact leT_virt | exact leT_junk _ | exact leT_sl | exact leT_sln | exact leT_nil) ?_)) ?_
        try simp -implicitDefEqProofs (maxSteps := 4000000) (disch := first | omega | decide | (simp only [go_sem]; omega)) only [go_sem, ↓reduceIte, String.reduceEq, String.reduceNe, reduceCtorEq, Int.reduceEq, Nat.reduceAdd, Nat.reduceSub, Nat.reduceMul, Nat.reduceLT, Nat.reduceLeDiff, Nat.reduceEqDiff, Nat.reduceBEq, Int.reduceToNat, Int.reduceLT, Int.reduceLE, Int.reduceGT, Int.reduceGE, Int.reduceAdd, Int.reduceSub, Int.reduceMul, Int.reduceNeg, Int.reduceBEq, Int.reduceBNe, Int.reducePow, Int.reduceDiv, Int.reduceMod, Int.reduceTDiv, Int.reduceTMod, Int.reduceNatCast]
        repeat (with_reducible refine And.intro (by first | assumption | omega | (simp; done) | (simp; omega)) ?_)
        rcases iteB_some h with ⟨c6, h⟩ | ⟨c6, h⟩
        · refine guardK_T c6 ?_
          obtain ⟨v7, h7, h⟩ := bnd_some h
          try simp -implicitDefEqProofs (maxSteps := 4000000) (disch := first | omega | decide | (simp only [go_sem]; omega)) only [go_sem, ↓reduceIte, String.reduceEq, String.reduceNe, reduceCtorEq, Int.reduceEq, Nat.reduceAdd, Nat.reduceSub, Nat.reduceMul, Nat.reduceLT, Nat.reduceLeDiff, Nat.reduceEqDiff, Nat.reduceBEq, Int.reduceToNat, Int.reduceLT, Int.reduceLE, Int.reduceGT, Int.reduceGE, Int.reduceAdd, Int.reduceSub, Int.reduceMul, Int.reduceNeg, Int.reduceBEq, Int.reduceBNe, Int.reducePow, Int.reduceDiv, Int.reduceMod, Int.reduceTDiv, Int.reduceTMod, Int.reduceNatCast]
          repeat (with_reducible refine And.intro (by first | assumption | omega | (simp; done) | (simp; omega)) ?_)
          refine callG_X (F9_ok n ([49, 57, 50, 46, 49, 54, 56, 46, 48, 46, 49] : List UInt8) _ h7) (by repeat (first | exact leL_refl _ | refine leL_cons (by first | exact leT_refl _ | exact leT_virt | exact leT_junk _ | exact leT_sl | exact leT_sln | exact leT_nil) ?_)) ?_
          try simp -implicitDefEqProofs (maxSteps := 4000000) (disch := first | omega | decide | (simp only [go_sem]; omega)) only [go_sem, ↓reduceIte, String.reduceEq, String.reduceNe, reduceCtorEq, Int.reduceEq, Nat.reduceAdd, Nat.reduceSub, Nat.reduceMul, Nat.reduceLT, Nat.reduceLeDiff, Nat.reduceEqDiff, Nat.reduceBEq, Int.reduceToNat, Int.reduceLT, Int.reduceLE, Int.reduceGT, Int.reduceGE, Int.reduceAdd, Int.reduceSub, Int.reduceMul, Int.reduceNeg, Int.reduceBEq, Int.reduceBNe, Int.reducePow, Int.reduceDiv, Int.reduceMod, Int.reduceTDiv, Int.reduceTMod, Int.reduceNatCast]
          repeat (with_reducible refine And.intro (by first | assumption | omega | (simp; done) | (simp; omega)) ?_)
          refine toEnd hC ?_
          refine endX_seq ?_
          refine runX_ret ?_
          refine endX_seqR ?_
          refine endX_q ?_
          obtain rfl := Option.some.inj h
          show RetW _ _ _ _ _
          simp only [RetW]
          (try simp -implicitDefEqProofs (maxSteps := 4000000) (disch := first | omega | decide | (simp only [go_sem]; omega)) only [go_sem, ↓reduceIte, String.reduceEq, String.reduceNe, reduceCtorEq, Int.reduceEq, Nat.reduceAdd, Nat.reduceSub, Nat.reduceMul, Nat.reduceLT, Nat.reduceLeDiff, Nat.reduceEqDiff, Nat.reduceBEq, Int.reduceToNat, Int.reduceLT, Int.reduceLE, Int.reduceGT, Int.reduceGE, Int.reduceAdd, Int.reduceSub, Int.reduceMul, Int.reduceNeg, Int.reduceBEq, Int.reduceBNe, Int.reducePow, Int.reduceDiv, Int.reduceMod, Int.reduceTDiv, Int.reduceTMod, Int.reduceNatCast])
          (try simp (disch := omega) only [if_pos, Nat.sub_zero])
          first | exact leT_refl _ | (refine ⟨rfl, ?_⟩; first | exact leT_refl _ | exact leT_sl | exact leT_sln | exact leT_nil | (refine leT_tup (by repeat (first | exact leL_refl _ | refine leL_cons (by first | exact leT_refl _ | exact leT_virt | exact leT_junk _ | exact leT_sl | exact leT_sln | exact leT_nil) ?_))) | (refine leT_agg (by repeat (first | exact leL_refl _ | refine leL_cons (by first | exact leT_refl _ | exact leT_virt | exact leT_junk _ | exact leT_sl | exact leT_sln | exact leT_nil) ?_)))) | (first | exact leT_refl _ | exact leT_sl | exact leT_sln | exact leT_nil | (refine leT_tup (by repeat (first | exact leL_refl _ | refine leL_cons (by first | exact leT_refl _ | exact leT_virt | exact leT_junk _ | exact leT_sl | exact leT_sln | exact leT_nil) ?_))) | (refine leT_agg (by repeat (first | exact leL_refl _ | refine leL_cons (by first | exact leT_refl _ | exact leT_virt | exact leT_junk _ | exact leT_sl | exact leT_sln | exact leT_nil) ?_)))) | (simp only [List.append_assoc, List.cons_append, List.nil_append]; exact leT_refl _) | (rw [List.take_of_length_le (by simp)]; (try simp only [List.append_assoc, List.cons_append, List.nil_append]); exact leT_refl _)
        · refine guardK_F c6 ?_
          try simp -implicitDefEqProofs (maxSteps := 4000000) (disch := first | omega | decide | (simp only [go_sem]; omega)) only [go_sem, ↓reduceIte, String.reduceEq, String.reduceNe, reduceCtorEq, Int.reduceEq, Nat.reduceAdd, Nat.reduceSub, Nat.reduceMul, Nat.reduceLT, Nat.reduceLeDiff, Nat.reduceEqDiff, Nat.reduceBEq, Int.reduceToNat, Int.reduceLT, Int.reduceLE, Int.reduceGT, Int.reduceGE, Int.reduceAdd, Int.reduceSub, Int.reduceMul, Int.reduceNeg, Int.reduceBEq, Int.reduceBNe, Int.reducePow, Int.reduceDiv, Int.reduceMod, Int.reduceTDiv, Int.reduceTMod, Int.reduceNatCast]
          repeat (with_reducible refine And.intro (by first | assumption | omega | (simp; done) | (simp; omega)) ?_)
          refine toEnd hC ?_
          refine endX_seq ?_
          refine runX_ret ?_
          refine endX_seqR ?_
          refine endX_q ?_
          obtain rfl := Option.some.inj h
          show RetW _ _ _ _ _
          simp only [RetW]
          (try simp -implicitDefEqProofs (maxSteps := 4000000) (disch := first | omega | decide | (simp only [go_sem]; omega)) only [go_sem, ↓reduceIte, String.reduceEq, String.reduceNe, reduceCtorEq, Int.reduceEq, Nat.reduceAdd, Nat.reduceSub, Nat.reduceMul, Nat.reduceLT, Nat.reduceLeDiff, Nat.reduceEqDiff, Nat.reduceBEq, Int.reduceToNat, Int.reduceLT, Int.reduceLE, Int.reduceGT, Int.reduceGE, Int.reduceAdd, Int.reduceSub, Int.reduceMul, Int.reduceNeg, Int.reduceBEq, Int.reduceBNe, Int.reducePow, Int.reduceDiv, Int.reduceMod, Int.reduceTDiv, Int.reduceTMod, Int.reduceNatCast])
          (try simp (disch := omega) only [if_pos, Nat.sub_zero])
          first | exact leT_refl _ | (refine ⟨rfl, ?_⟩; first | exact leT_refl _ | exact leT_sl | exact leT_sln | exact leT_nil | (refine leT_tup (by repeat (first | exact leL_refl _ | refine leL_cons (by first | exact leT_refl _ | exact leT_virt | exact leT_junk _ | exact leT_sl | exact leT_sln | exact leT_nil) ?_))) | (refine leT_agg (by repeat (first | exact leL_refl _ | refine leL_cons (by first | exact leT_refl _ | exact leT_virt | exact leT_junk _ | exact leT_sl | exact leT_sln | exact leT_nil) ?_)))) | (first | exact leT_refl _ | exact leT_sl | exact leT_sln | exact leT_nil | (refine leT_tup (by repeat (first | exact leL_refl _ | refine leL_cons (by first | exact leT_refl _ | exact leT_virt | exact leT_junk _ | exact leT_sl | exact leT_sln | exact leT_nil) ?_))) | (refine leT_agg (by repeat (first | exact leL_refl _ | refine leL_cons (by first | exact leT_refl _ | exact leT_virt | exact leT_junk _ | exact leT_sl | exact leT_sln | exact leT_nil) ?_)))) | (simp only [List.append_assoc, List.cons_append, List.nil_append]; exact leT_refl _) | (rw [List.take_of_length_le (by simp)]; (try simp only [List.append_assoc, List.cons_append, List.nil_append]); exact leT_refl _)
      · refine runX_condF rfl c4 ?_
        refine runX_skip ?_
        refine endX_seq ?_
        refine runX_seq ?_
        refine runX_regionC fun C hC => ?_
        obtain ⟨g8, h⟩ := grd_some h
        obtain ⟨v9, h9, h⟩ := bnd_some h
        try simp -implicitDefEqProofs (maxSteps := 4000000) (disch := first | omega | decide | (simp only [go_sem]; omega)) only [go_sem, ↓reduceIte, String.reduceEq, String.reduceNe, reduceCtorEq, Int.reduceEq, Nat.reduceAdd, Nat.reduceSub, Nat.reduceMul, Nat.reduceLT, Nat.reduceLeDiff, Nat.reduceEqDiff, Nat.reduceBEq, Int.reduceToNat, Int.reduceLT, Int.reduceLE, Int.reduceGT, Int.reduceGE, Int.reduceAdd, Int.reduceSub, Int.reduceMul, Int.reduceNeg, Int.reduceBEq, Int.reduceBNe, Int.reducePow, Int.reduceDiv, Int.reduceMod, Int.reduceTDiv, Int.reduceTMod, Int.reduceNatCast]
        repeat (with_reducible refine And.intro (by first | assumption | omega | (simp; done) | (simp; omega)) ?_)
        refine callG_X (F9_ok n (a0 ++ ([97] : List UInt8)) _ h9) (by repeat (first | exact leL_refl _ | refine leL_cons (by first | exact leT_refl _ | exact leT_virt | exact leT_junk _ | exact leT_sl | exact leT_sln | exact leT_nil) ?_)) ?_
        try simp -implicitDefEqProofs (maxSteps := 4000000) (disch := first | omega | decide | (simp only [go_sem]; omega)) only [go_sem, ↓reduceIte, String.reduceEq, String.reduceNe, reduceCtorEq, Int.reduceEq, Nat.reduceAdd, Nat.reduceSub, Nat.reduceMul, Nat.reduceLT, Nat.reduceLeDiff, Nat.reduceEqDiff, Nat.reduceBEq, Int.reduceToNat, Int.reduceLT, Int.reduceLE, Int.reduceGT, Int.reduceGE, Int.reduceAdd, Int.reduceSub, Int.reduceMul, Int.reduceNeg, Int.reduceBEq, Int.reduceBNe, Int.reducePow, Int.reduceDiv, Int.reduceMod, Int.reduceTDiv, Int.reduceTMod, Int.reduceNatCast]
        repeat (with_reducible refine And.intro (by first | assumption | omega | (simp; done) | (simp; omega)) ?_)
        refine toEnd hC ?_
        refine endX_seq ?_
        refine runX_seq ?_
        refine runX_regionC fun C hC => ?_
        obtain ⟨v10, h10, h⟩ := bnd_some h
        try simp -implicitDefEqProofs (maxSteps := 4000000) (disch := first | omega | decide | (simp only [go_sem]; omega)) only [go_sem, ↓reduceIte, String.reduceEq, String.reduceNe, reduceCtorEq, Int.reduceEq, Nat.reduceAdd, Nat.reduceSub, Nat.reduceMul, Nat.reduceLT, Nat.reduceLeDiff, Nat.reduceEqDiff, Nat.reduceBEq, Int.reduceToNat, Int.reduceLT, Int.reduceLE, Int.reduceGT, Int.reduceGE, Int.reduceAdd, Int.reduceSub, Int.reduceMul, Int.reduceNeg, Int.reduceBEq, Int.reduceBNe, Int.reducePow, Int.reduceDiv, Int.reduceMod, Int.reduceTDiv, Int.reduceTMod, Int.reduceNatCast]
        repeat (with_reducible refine And.intro (by first | assumption | omega | (simp; done) | (simp; omega)) ?_)
        refine callG_X (F10_ok n a0 _ h10) (by repeat (first | exact leL_refl _ | refine leL_cons (by first | exact leT_refl _ | exact leT_virt | exact leT_junk _ | exact leT_sl | exact leT_sln | exact leT_nil) ?_)) ?_
        try simp -implicitDefEqProofs (maxSteps := 4000000) (disch := first | omega | decide | (simp only [go_sem]; omega)) only [go_sem, ↓reduceIte, String.reduceEq, String.reduceNe, reduceCtorEq, Int.reduceEq, Nat.reduceAdd, Nat.reduceSub, Nat.reduceMul, Nat.reduceLT, Nat.reduceLeDiff, Nat.reduceEqDiff, Nat.reduceBEq, Int.reduceToNat, Int.reduceLT, Int.reduceLE, Int.reduceGT, Int.reduceGE, Int.reduceAdd, Int.reduceSub, Int.reduceMul, Int.reduceNeg, Int.reduceBEq, Int.reduceBNe, Int.reducePow, Int.reduceDiv, Int.reduceMod, Int.reduceTDiv, Int.reduceTMod, Int.reduceNatCast]
        repeat (with_reducible refine And.intro (by first | assumption | omega | (simp; done) | (simp; omega)) ?_)
        rcases iteB_some h with ⟨c11, h⟩ | ⟨c11, h⟩
        · refine guardK_T c11 ?_
          try simp -implicitDefEqProofs (maxSteps := 4000000) (disch := first | omega | decide | (simp only [go_sem]; omega)) only [go_sem, ↓reduceIte, String.reduceEq, String.reduceNe, reduceCtorEq, Int.reduceEq, Nat.reduceAdd, Nat.reduceSub, Nat.reduceMul, Nat.reduceLT, Nat.reduceLeDiff, Nat.reduceEqDiff, Nat.reduceBEq, Int.reduceToNat, Int.reduceLT, Int.reduceLE, Int.reduceGT, Int.reduceGE, Int.reduceAdd, Int.reduceSub, Int.reduceMul, Int.reduceNeg, Int.reduceBEq, Int.reduceBNe, Int.reducePow, Int.reduceDiv, Int.reduceMod, Int.reduceTDiv, Int.reduceTMod, Int.reduceNatCast]
          repeat (with_reducible refine And.intro (by first | assumption | omega | (simp; done) | (simp; omega)) ?_)
          rcases iteB_some h with ⟨c12, h⟩ | ⟨c12, h⟩
          · refine guardK_T c12 ?_
            try simp -implicitDefEqProofs (maxSteps := 4000000) (disch := first | omega | decide | (simp only [go_sem]; omega)) only [go_sem, ↓reduceIte, String.reduceEq, String.reduceNe, reduceCtorEq, Int.reduceEq, Nat.reduceAdd, Nat.reduceSub, Nat.reduceMul, Nat.reduceLT, Nat.reduceLeDiff, Nat.reduceEqDiff, Nat.reduceBEq, Int.reduceToNat, Int.reduceLT, Int.reduceLE, Int.reduceGT, Int.reduceGE, Int.reduceAdd, Int.reduceSub, Int.reduceMul, Int.reduceNeg, Int.reduceBEq, Int.reduceBNe, Int.reducePow, Int.reduceDiv, Int.reduceMod, Int.reduceTDiv, Int.reduceTMod, Int.reduceNatCast]
            repeat (with_reducible refine And.intro (by first | assumption | omega | (simp; done) | (simp; omega)) ?_)
            rcases iteB_some h with ⟨c13, h⟩ | ⟨c13, h⟩
            · refine guardK_T c13 ?_
              try simp -implicitDefEqProofs (maxSteps := 4000000) (disch := first | omega | decide | (simp only [go_sem]; omega)) only [go_sem, ↓reduceIte, String.reduceEq, String.reduceNe, reduceCtorEq, Int.reduceEq, Nat.reduceAdd, Nat.reduceSub, Nat.reduceMul, Nat.reduceLT, Nat.reduceLeDiff, Nat.reduceEqDiff, Nat.reduceBEq, Int.reduceToNat, Int.reduceLT, Int.reduceLE, Int.reduceGT, Int.reduceGE, Int.reduceAdd, Int.reduceSub, Int.reduceMul, Int.reduceNeg, Int.reduceBEq, Int.reduceBNe, Int.reducePow, Int.reduceDiv, Int.reduceMod, Int.reduceTDiv, Int.reduceTMod, Int.reduceNatCast]
              repeat (with_reducible refine And.intro (by first | assumption | omega | (simp; done) | (simp; omega)) ?_)
              rcases iteB_some h with ⟨c14, h⟩ | ⟨c14, h⟩
              · refine guardK_F c14 ?_
                obtain ⟨g15, h⟩ := grd_some h
                obtain ⟨v16, h16, h⟩ := bnd_some h
                try simp -implicitDefEqProofs (maxSteps := 4000000) (disch := first | omega | decide | (simp only [go_sem]; omega)) only [go_sem, ↓reduceIte, String.reduceEq, String.reduceNe, reduceCtorEq, Int.reduceEq, Nat.reduceAdd, Nat.reduceSub, Nat.reduceMul, Nat.reduceLT, Nat.reduceLeDiff, Nat.reduceEqDiff, Nat.reduceBEq, Int.reduceToNat, Int.reduceLT, Int.reduceLE, Int.reduceGT, Int.reduceGE, Int.reduceAdd, Int.reduceSub, Int.reduceMul, Int.reduceNeg, Int.reduceBEq, Int.reduceBNe, Int.reducePow, Int.reduceDiv, Int.reduceMod, Int.reduceTDiv, Int.reduceTMod, Int.reduceNatCast]
                repeat (with_reducible refine And.intro (by first | assumption | omega | (simp; done) | (simp; omega)) ?_)
                refine callG_X (F9_ok n (a0 ++ ([45] : List UInt8)) _ h16) (by repeat (first | exact leL_refl _ | refine leL_cons (by first | exact leT_refl _ | exact leT_virt | exact leT_junk _ | exact leT_sl | exact leT_sln | exact leT_nil) ?_)) ?_
                try simp -implicitDefEqProofs (maxSteps := 4000000) (disch := first | omega | decide | (simp only [go_sem]; omega)) only [go_sem, ↓reduceIte, String.reduceEq, String.reduceNe, reduceCtorEq, Int.reduceEq, Nat.reduceAdd, Nat.reduceSub, Nat.reduceMul, Nat.reduceLT, Nat.reduceLeDiff, Nat.reduceEqDiff, Nat.reduceBEq, Int.reduceToNat, Int.reduceLT, Int.reduceLE, Int.reduceGT, Int.reduceGE, Int.reduceAdd, Int.reduceSub, Int.reduceMul, Int.reduceNeg, Int.reduceBEq, Int.reduceBNe, Int.reducePow, Int.reduceDiv, Int.reduceMod, Int.reduceTDiv, Int.reduceTMod, Int.reduceNatCast]
                repeat (with_reducible refine And.intro (by first | assumption | omega | (simp; done) | (simp; omega)) ?_)
                rcases iteB_some h with ⟨c17, h⟩ | ⟨c17, h⟩
                · refine guardK_T c17 ?_
                  obtain ⟨g18, h⟩ := grd_some h
                  obtain ⟨v19, h19, h⟩ := bnd_some h
                  try simp -implicitDefEqProofs (maxSteps := 4000000) (disch := first | omega | decide | (simp only [go_sem]; omega)) only [go_sem, ↓reduceIte, String.reduceEq, String.reduceNe, reduceCtorEq, Int.reduceEq, Nat.reduceAdd, Nat.reduceSub, Nat.reduceMul, Nat.reduceLT, Nat.reduceLeDiff, Nat.reduceEqDiff, Nat.reduceBEq, Int.reduceToNat, Int.reduceLT, Int.reduceLE, Int.reduceGT, Int.reduceGE, Int.reduceAdd, Int.reduceSub, Int.reduceMul, Int.reduceNeg, Int.reduceBEq, Int.reduceBNe, Int.reducePow, Int.reduceDiv, Int.reduceMod, Int.reduceTDiv, Int.reduceTMod, Int.reduceNatCast]
                  repeat (with_reducible refine And.intro (by first | assumption | omega | (simp; done) | (simp; omega)) ?_)
                  refine callG_X (F9_ok n (([65] : List UInt8) ++ a0) _ h19) (by repeat (first | exact leL_refl _ | refine leL_cons (by first | exact leT_refl _ | exact leT_virt | exact leT_junk _ | exact leT_sl | exact leT_sln | exact leT_nil) ?_)) ?_
                  try simp -implicitDefEqProofs (maxSteps := 4000000) (disch := first | omega | decide | (simp only [go_sem]; omega)) only [go_sem, ↓reduceIte, String.reduceEq, String.reduceNe, reduceCtorEq, Int.reduceEq, Nat.reduceAdd, Nat.reduceSub, Nat.reduceMul, Nat.reduceLT, Nat.reduceLeDiff, Nat.reduceEqDiff, Nat.reduceBEq, Int.reduceToNat, Int.reduceLT, Int.reduceLE, Int.reduceGT, Int.reduceGE, Int.reduceAdd, Int.reduceSub, Int.reduceMul, Int.reduceNeg, Int.reduceBEq, Int.reduceBNe, Int.reducePow, Int.reduceDiv, Int.reduceMod, Int.reduceTDiv, Int.reduceTMod, Int.reduceNatCast]
                  repeat (with_reducible refine And.intro (by first | assumption | omega | (simp; done) | (simp; omega)) ?_)
                  refine toEnd hC ?_
                  refine endX_seq ?_
                  refine runX_ret ?_
                  refine endX_q ?_
                  obtain rfl := Option.some.inj h
                  show RetW _ _ _ _ _
                  simp only [RetW]
                  (try simp -implicitDefEqProofs (maxSteps := 4000000) (disch := first | omega | decide | (simp only [go_sem]; omega)) only [go_sem, ↓reduceIte, String.reduceEq, String.reduceNe, reduceCtorEq, Int.reduceEq, Nat.reduceAdd, Nat.reduceSub, Nat.reduceMul, Nat.reduceLT, Nat.reduceLeDiff, Nat.reduceEqDiff, Nat.reduceBEq, Int.reduceToNat, Int.reduceLT, Int.reduceLE, Int.reduceGT, Int.reduceGE, Int.reduceAdd, Int.reduceSub, Int.reduceMul, Int.reduceNeg, Int.reduceBEq, Int.reduceBNe, Int.reducePow, Int.reduceDiv, Int.reduceMod, Int.reduceTDiv, Int.reduceTMod, Int.reduceNatCast])
                  (try simp (disch := omega) only [if_pos, Nat.sub_zero])
                  first | exact leT_refl _ | (refine ⟨rfl, ?_⟩; first | exact leT_refl _ | exact leT_sl | exact leT_sln | exact leT_nil | (refine leT_tup (by repeat (first | exact leL_refl _ | refine leL_cons (by first | exact leT_refl _ | exact leT_virt | exact leT_junk _ | exact leT_sl | exact leT_sln | exact leT_nil) ?_))) | (refine leT_agg (by repeat (first | exact leL_refl _ | refine leL_cons (by first | exact leT_refl _ | exact leT_virt | exact leT_junk _ | exact leT_sl | exact leT_sln | exact leT_nil) ?_)))) | (first | exact leT_refl _ | exact leT_sl | exact leT_sln | exact leT_nil | (refine leT_tup (by repeat (first | exact leL_refl _ | refine leL_cons (by first | exact leT_refl _ | exact leT_virt | exact leT_junk _ | exact leT_sl | exact leT_sln | exact leT_nil) ?_))) | (refine leT_agg (by repeat (first | exact leL_refl _ | refine leL_cons (by first | exact leT_refl _ | exact leT_virt | exact leT_junk _ | exact leT_sl | exact leT_sln | exact leT_nil) ?_)))) | (simp only [List.append_assoc, List.cons_append, List.nil_append]; exact leT_refl _) | (rw [List.take_of_length_le (by simp)]; (try simp only [List.append_assoc, List.cons_append, List.nil_append]); exact leT_refl _)
                · refine guardK_F c17 ?_
                  try simp -implicitDefEqProofs (maxSteps := 4000000) (disch := first | omega | decide | (simp only [go_sem]; omega)) only [go_sem, ↓reduceIte, String.reduceEq, String.reduceNe, reduceCtorEq, Int.reduceEq, Nat.reduceAdd, Nat.reduceSub, Nat.reduceMul, Nat.reduceLT, Nat.reduceLeDiff, Nat.reduceEqDiff, Nat.reduceBEq, Int.reduceToNat, Int.reduceLT, Int.reduceLE, Int.reduceGT, Int.reduceGE, Int.reduceAdd, Int.reduceSub, Int.reduceMul, Int.reduceNeg, Int.reduceBEq, Int.reduceBNe, Int.reducePow, Int.reduceDiv, Int.reduceMod, Int.reduceTDiv, Int.reduceTMod, Int.reduceNatCast]
                  repeat (with_reducible refine And.intro (by first | assumption | omega | (simp; done) | (simp; omega)) ?_)
                  refine toEnd hC ?_
                  refine endX_seq ?_
                  refine runX_ret ?_
                  refine endX_q ?_
                  obtain rfl := Option.some.inj h
                  show RetW _ _ _ _ _
                  simp only [RetW]
                  (try simp -implicitDefEqProofs (maxSteps := 4000000) (disch := first | omega | decide | (simp only [go_sem]; omega)) only [go_sem, ↓reduceIte, String.reduceEq, String.reduceNe, reduceCtorEq, Int.reduceEq, Nat.reduceAdd, Nat.reduceSub, Nat.reduceMul, Nat.reduceLT, Nat.reduceLeDiff, Nat.reduceEqDiff, Nat.reduceBEq, Int.reduceToNat, Int.reduceLT, Int.reduceLE, Int.reduceGT, Int.reduceGE, Int.reduceAdd, Int.reduceSub, Int.reduceMul, Int.reduceNeg, Int.reduceBEq, Int.reduceBNe, Int.reducePow, Int.reduceDiv, Int.reduceMod, Int.reduceTDiv, Int.reduceTMod, Int.reduceNatCast])
                  (try simp (disch := omega) only [if_pos, Nat.sub_zero])
                  first | exact leT_refl _ | (refine ⟨rfl, ?_⟩; first | exact leT_refl _ | exact leT_sl | exact leT_sln | exact leT_nil | (refine leT_tup (by repeat (first | exact leL_refl _ | refine leL_cons (by first | exact leT_refl _ | exact leT_virt | exact leT_junk _ | exact leT_sl | exact leT_sln | exact leT_nil) ?_))) | (refine leT_agg (by repeat (first | exact leL_refl _ | refine leL_cons (by first | exact leT_refl _ | exact leT_virt | exact leT_junk _ | exact leT_sl | exact leT_sln | exact leT_nil) ?_)))) | (first | exact leT_refl _ | exact leT_sl | exact leT_sln | exact leT_nil | (refine leT_tup (by repeat (first | exact leL_refl _ | refine leL_cons (by first | exact leT_refl _ | exact leT_virt | exact leT_junk _ | exact leT_sl | exact leT_sln | exact leT_nil) ?_))) | (refine leT_agg (by repeat (first | exact leL_refl _ | refine leL_cons (by first | exact leT_refl _ | exact leT_virt | exact leT_junk _ | exact leT_sl | exact leT_sln | exact leT_nil) ?_)))) | (simp only [List.append_assoc, List.cons_append, List.nil_append]; exact leT_refl _) | (rw [List.take_of_length_le (by simp)]; (try simp only [List.append_assoc, List.cons_append, List.nil_append]); exact leT_refl _)
              · refine guardK_T c14 ?_
                try simp -implicitDefEqProofs (maxSteps := 4000000) (disch := first | omega | decide | (simp only [go_sem]; omega)) only [go_sem, ↓reduceIte, String.reduceEq, String.reduceNe, reduceCtorEq, Int.reduceEq, Nat.reduceAdd, Nat.reduceSub, Nat.reduceMul, Nat.reduceLT, Nat.reduceLeDiff, Nat.reduceEqDiff, Nat.reduceBEq, Int.reduceToNat, Int.reduceLT, Int.reduceLE, Int.reduceGT, Int.reduceGE, Int.reduceAdd, Int.reduceSub, Int.reduceMul, Int.reduceNeg, Int.reduceBEq, Int.reduceBNe, Int.reducePow, Int.reduceDiv, Int.reduceMod, Int.reduceTDiv, Int.reduceTMod, Int.reduceNatCast]
                repeat (with_reducible refine And.intro (by first | assumption | omega | (simp; done) | (simp; omega)) ?_)
                rcases iteB_some h with ⟨c20, h⟩ | ⟨c20, h⟩
                · refine guardK_T c20 ?_
                  try simp -implicitDefEqProofs (maxSteps := 4000000) (disch := first | omega | decide | (simp only [go_sem]; omega)) only [go_sem, ↓reduceIte, String.reduceEq, String.reduceNe, reduceCtorEq, Int.reduceEq, Nat.reduceAdd, Nat.reduceSub, Nat.reduceMul, Nat.reduceLT, Nat.reduceLeDiff, Nat.reduceEqDiff, Nat.reduceBEq, Int.reduceToNat, Int.reduceLT, Int.reduceLE, Int.reduceGT, Int.reduceGE, Int.reduceAdd, Int.reduceSub, Int.reduceMul, Int.reduceNeg, Int.reduceBEq, Int.reduceBNe, Int.reducePow, Int.reduceDiv, Int.reduceMod, Int.reduceTDiv, Int.reduceTMod, Int.reduceNatCast]
                  repeat (with_reducible refine And.intro (by first | assumption | omega | (simp; done) | (simp; omega)) ?_)
                  rcases iteB_some h with ⟨c21, h⟩ | ⟨c21, h⟩
                  · refine guardK_T c21 ?_
                    obtain ⟨g22, h⟩ := grd_some h
                    obtain ⟨v23, h23, h⟩ := bnd_some h
                    try simp -implicitDefEqProofs (maxSteps := 4000000) (disch := first | omega | decide | (simp only [go_sem]; omega)) only [go_sem, ↓reduceIte, String.reduceEq, String.reduceNe, reduceCtorEq, Int.reduceEq, Nat.reduceAdd, Nat.reduceSub, Nat.reduceMul, Nat.reduceLT, Nat.reduceLeDiff, Nat.reduceEqDiff, Nat.reduceBEq, Int.reduceToNat, Int.reduceLT, Int.reduceLE, Int.reduceGT, Int.reduceGE, Int.reduceAdd, Int.reduceSub, Int.reduceMul, Int.reduceNeg, Int.reduceBEq, Int.reduceBNe, Int.reducePow, Int.reduceDiv, Int.reduceMod, Int.reduceTDiv, Int.reduceTMod, Int.reduceNatCast]
                    repeat (with_reducible refine And.intro (by first | assumption | omega | (simp; done) | (simp; omega)) ?_)
                    refine callG_X (F9_ok n (a0 ++ ([45] : List UInt8)) _ h23) (by repeat (first | exact leL_refl _ | refine leL_cons (by first | exact leT_refl _ | exact leT_virt | exact leT_junk _ | exact leT_sl | exact leT_sln | exact leT_nil) ?_)) ?_
                    try simp -implicitDefEqProofs (maxSteps := 4000000) (disch := first | omega | decide | (simp only [go_sem]; omega)) only [go_sem, ↓reduceIte, String.reduceEq, String.reduceNe, reduceCtorEq, Int.reduceEq, Nat.reduceAdd, Nat.reduceSub, Nat.reduceMul, Nat.reduceLT, Nat.reduceLeDiff, Nat.reduceEqDiff, Nat.reduceBEq, Int.reduceToNat, Int.reduceLT, Int.reduceLE, Int.reduceGT, Int.reduceGE, Int.reduceAdd, Int.reduceSub, Int.reduceMul, Int.reduceNeg, Int.reduceBEq, Int.reduceBNe, Int.reducePow, Int.reduceDiv, Int.reduceMod, Int.reduceTDiv, Int.reduceTMod, Int.reduceNatCast]
                    repeat (with_reducible refine And.intro (by first | assumption | omega | (simp; done) | (simp; omega)) ?_)
                    rcases iteB_some h with ⟨c24, h⟩ | ⟨c24, h⟩
                    · refine guardK_T c24 ?_
                      obtain ⟨g25, h⟩ := grd_some h
                      obtain ⟨v26, h26, h⟩ := bnd_some h
                      try simp -implicitDefEqProofs (maxSteps := 4000000) (disch := first | omega | decide | (simp only [go_sem]; omega)) only [go_sem, ↓reduceIte, String.reduceEq, String.reduceNe, reduceCtorEq, Int.reduceEq, Nat.reduceAdd, Nat.reduceSub, Nat.reduceMul, Nat.reduceLT, Nat.reduceLeDiff, Nat.reduceEqDiff, Nat.reduceBEq, Int.reduceToNat, Int.reduceLT, Int.reduceLE, Int.reduceGT, Int.reduceGE, Int.reduceAdd, Int.reduceSub, Int.reduceMul, Int.reduceNeg, Int.reduceBEq, Int.reduceBNe, Int.reducePow, Int.reduceDiv, Int.reduceMod, Int.reduceTDiv, Int.reduceTMod, Int.reduceNatCast]
                      repeat (with_reducible refine And.intro (by first | assumption | omega | (simp; done) | (simp; omega)) ?_)
                      refine callG_X (F9_ok n (([65] : List UInt8) ++ a0) _ h26) (by repeat (first | exact leL_refl _ | refine leL_cons (by first | exact leT_refl _ | exact leT_virt | exact leT_junk _ | exact leT_sl | exact leT_sln | exact leT_nil) ?_)) ?_
                      try simp -implicitDefEqProofs (maxSteps := 4000000) (disch := first | omega | decide | (simp only [go_sem]; omega)) only [go_sem, ↓reduceIte, String.reduceEq, String.reduceNe, reduceCtorEq, Int.reduceEq, Nat.reduceAdd, Nat.reduceSub, Nat.reduceMul, Nat.reduceLT, Nat.reduceLeDiff, Nat.reduceEqDiff, Nat.reduceBEq, Int.reduceToNat, Int.reduceLT, Int.reduceLE, Int.reduceGT, Int.reduceGE, Int.reduceAdd, Int.reduceSub, Int.reduceMul, Int.reduceNeg, Int.reduceBEq, Int.reduceBNe, Int.reducePow, Int.reduceDiv, Int.reduceMod, Int.reduceTDiv, Int.reduceTMod, Int.reduceNatCast]
                      repeat (with_reducible refine And.intro (by first | assumption | omega | (simp; done) | (simp; omega)) ?_)
                      refine toEnd hC ?_
                      refine endX_seq ?_
                      refine runX_ret ?_
                      refine endX_q ?_
                      obtain rfl := Option.some.inj h
                      show RetW _ _ _ _ _
                      simp only [RetW]
                      (try simp -implicitDefEqProofs (maxSteps := 4000000) (disch := first | omega | decide | (simp only [go_sem]; omega)) only [go_sem, ↓reduceIte, String.reduceEq, String.reduceNe, reduceCtorEq, Int.reduceEq, Nat.reduceAdd, Nat.reduceSub, Nat.reduceMul, Nat.reduceLT, Nat.reduceLeDiff, Nat.reduceEqDiff, Nat.reduceBEq, Int.reduceToNat, Int.reduceLT, Int.reduceLE, Int.reduceGT, Int.reduceGE, Int.reduceAdd, Int.reduceSub, Int.reduceMul, Int.reduceNeg, Int.reduceBEq, Int.reduceBNe, Int.reducePow, Int.reduceDiv, Int.reduceMod, Int.reduceTDiv, Int.reduceTMod, Int.reduceNatCast])
                      (try simp (disch := omega) only [if_pos, Nat.sub_zero])
                      first | exact leT_refl _ | (refine ⟨rfl, ?_⟩; first | exact leT_refl _ | exact leT_sl | exact leT_sln | exact leT_nil | (refine leT_tup (by repeat (first | exact leL_refl _ | refine leL_cons (by first | exact leT_refl _ | exact leT_virt | exact leT_junk _ | exact leT_sl | exact leT_sln | exact leT_nil) ?_))) | (refine leT_agg (by repeat (first | exact leL_refl _ | refine leL_cons (by first | exact leT_refl _ | exact leT_virt | exact leT_junk _ | exact leT_sl | exact leT_sln | exact leT_nil) ?_)))) | (first | exact leT_refl _ | exact leT_sl | exact leT_sln | exact leT_nil | (refine leT_tup (by repeat (first | exact leL_refl _ | refine leL_cons (by first | exact leT_refl _ | exact leT_virt | exact leT_junk _ | exact leT_sl | exact leT_sln | exact leT_nil) ?_))) | (refine leT_agg (by repeat (first | exact leL_refl _ | refine leL_cons (by first | exact leT_refl _ | exact leT_virt | exact leT_junk _ | exact leT_sl | exact leT_sln | exact leT_nil) ?_)))) | (simp only [List.append_assoc, List.cons_append, List.nil_append]; exact leT_refl _) | (rw [List.take_of_length_le (by simp)]; (try simp only [List.append_assoc, List.cons_append, List.nil_append]); exact leT_refl _)
                    · refine guardK_F c24 ?_
                      try simp -implicitDefEqProofs (maxSteps := 4000000) (disch := first | omega | decide | (simp only [go_sem]; omega)) only [go_sem, ↓reduceIte, String.reduceEq, String.reduceNe, reduceCtorEq, Int.reduceEq, Nat.reduceAdd, Nat.reduceSub, Nat.reduceMul, Nat.reduceLT, Nat.reduceLeDiff, Nat.reduceEqDiff, Nat.reduceBEq, Int.reduceToNat, Int.reduceLT, Int.reduceLE, Int.reduceGT, Int.reduceGE, Int.reduceAdd, Int.reduceSub, Int.reduceMul, Int.reduceNeg, Int.reduceBEq, Int.reduceBNe, Int.reducePow, Int.reduceDiv, Int.reduceMod, Int.reduceTDiv, Int.reduceTMod, Int.reduceNatCast]
                      repeat (with_reducible refine And.intro (by first | assumption | omega | (simp; done) | (simp; omega)) ?_)
                      refine toEnd hC ?_
                      refine endX_seq ?_
                      refine runX_ret ?_
                      refine endX_q ?_
                      obtain rfl := Option.some.inj h
                      show RetW _ _ _ _ _
                      simp only [RetW]
                      (try simp -implicitDefEqProofs (maxSteps := 4000000) (disch := first | omega | decide | (simp only [go_sem]; omega)) only [go_sem, ↓reduceIte, String.reduceEq, String.reduceNe, reduceCtorEq, Int.reduceEq, Nat.reduceAdd, Nat.reduceSub, Nat.reduceMul, Nat.reduceLT, Nat.reduceLeDiff, Nat.reduceEqDiff, Nat.reduceBEq, Int.reduceToNat, Int.reduceLT, Int.reduceLE, Int.reduceGT, Int.reduceGE, Int.reduceAdd, Int.reduceSub, Int.reduceMul, Int.reduceNeg, Int.reduceBEq, Int.reduceBNe, Int.reducePow, Int.reduceDiv, Int.reduceMod, Int.reduceTDiv, Int.reduceTMod, Int.reduceNatCast])
                      (try simp (disch := omega) only [if_pos, Nat.sub_zero])
                      first | exact leT_refl _ | (refine ⟨rfl, ?_⟩; first | exact leT_refl _ | exact leT_sl | exact leT_sln | exact leT_nil | (refine leT_tup (by repeat (first | exact leL_refl _ | refine leL_cons (by first | exact leT_refl _ | exact leT_virt | exact leT_junk _ | exact leT_sl | exact leT_sln | exact leT_nil) ?_))) | (refine leT_agg (by repeat (first | exact leL_refl _ | refine leL_cons (by first | exact leT_refl _ | exact leT_virt | exact leT_junk _ | exact leT_sl | exact leT_sln | exact leT_nil) ?_)))) | (first | exact leT_refl _ | exact leT_sl | exact leT_sln | exact leT_nil | (refine leT_tup (by repeat (first | exact leL_refl _ | refine leL_cons (by first | exact leT_refl _ | exact leT_virt | exact leT_junk _ | exact leT_sl | exact leT_sln | exact leT_nil) ?_))) | (refine leT_agg (by repeat (first | exact leL_refl _ | refine leL_cons (by first | exact leT_refl _ | exact leT_virt | exact leT_junk _ | exact leT_sl | exact leT_sln | exact leT_nil) ?_)))) | (simp only [List.append_assoc, List.cons_append, List.nil_append]; exact leT_refl _) | (rw [List.take_of_length_le (by simp)]; (try simp only [List.append_assoc, List.cons_append, List.nil_append]); exact leT_refl _)
                  · refine guardK_F c21 ?_
                    try simp -implicitDefEqProofs (maxSteps := 4000000) (disch := first | omega | decide | (simp only [go_sem]; omega)) only [go_sem, ↓reduceIte, String.reduceEq, String.reduceNe, reduceCtorEq, Int.reduceEq, Nat.reduceAdd, Nat.reduceSub, Nat.reduceMul, Nat.reduceLT, Nat.reduceLeDiff, Nat.reduceEqDiff, Nat.reduceBEq, Int.reduceToNat, Int.reduceLT, Int.reduceLE, Int.reduceGT, Int.reduceGE, Int.reduceAdd, Int.reduceSub, Int.reduceMul, Int.reduceNeg, Int.reduceBEq, Int.reduceBNe, Int.reducePow, Int.reduceDiv, Int.reduceMod, Int.reduceTDiv, Int.reduceTMod, Int.reduceNatCast]
                    repeat (with_reducible refine And.intro (by first | assumption | omega | (simp; done) | (simp; omega)) ?_)
                    refine toEnd hC ?_
                    refine endX_seq ?_
                    refine runX_ret ?_
                    refine endX_q ?_
                    obtain rfl := Option.some.inj h
                    show RetW _ _ _ _ _
                    simp only [RetW]
                    (try simp -implicitDefEqProofs (maxSteps := 4000000) (disch := first | omega | decide | (simp only [go_sem]; omega)) only [go_sem, ↓reduceIte, String.reduceEq, String.reduceNe, reduceCtorEq, Int.reduceEq, Nat.reduceAdd, Nat.reduceSub, Nat.reduceMul, Nat.reduceLT, Nat.reduceLeDiff, Nat.reduceEqDiff, Nat.reduceBEq, Int.reduceToNat, Int.reduceLT, Int.reduceLE, Int.reduceGT, Int.reduceGE, Int.reduceAdd, Int.reduceSub, Int.reduceMul, Int.reduceNeg, Int.reduceBEq, Int.reduceBNe, Int.reducePow, Int.reduceDiv, Int.reduceMod, Int.reduceTDiv, Int.reduceTMod, Int.reduceNatCast])
                    (try simp (disch := omega) only [if_pos, Nat.sub_zero])
                    first | exact leT_refl _ | (refine ⟨rfl, ?_⟩; first | exact leT_refl _ | exact leT_sl | exact leT_sln | exact leT_nil | (refine leT_tup (by repeat (first | exact leL_refl _ | refine leL_cons (by first | exact leT_refl _ | exact leT_virt | exact leT_junk _ | exact leT_sl | exact leT_sln | exact leT_nil) ?_))) | (refine leT_agg (by repeat (first | exact leL_refl _ | refine leL_cons (by first | exact leT_refl _ | exact leT_virt | exact leT_junk _ | exact leT_sl | exact leT_sln | exact leT_nil) ?_)))) | (first | exact leT_refl _ | exact leT_sl | exact leT_sln | exact leT_nil | (refine leT_tup (by repeat (first | exact leL_refl _ | refine leL_cons (by first | exact leT_refl _ | exact leT_virt | exact leT_junk _ | exact leT_sl | exact leT_sln | exact leT_nil) ?_))) | (refine leT_agg (by repeat (first | exact leL_refl _ | refine leL_cons (by first | exact leT_refl _ | exact leT_virt | exact leT_junk _ | exact leT_sl | exact leT_sln | exact leT_nil) ?_)))) | (simp only [List.append_assoc, List.cons_append, List.nil_append]; exact leT_refl _) | (rw [List.take_of_length_le (by simp)]; (try simp only [List.append_assoc, List.cons_append, List.nil_append]); exact leT_refl _)
                · refine guardK_F c20 ?_
                  try simp -implicitDefEqProofs (maxSteps := 4000000) (disch := first | omega | decide | (simp only [go_sem]; omega)) only [go_sem, ↓reduceIte, String.reduceEq, String.reduceNe, reduceCtorEq, Int.reduceEq, Nat.reduceAdd, Nat.reduceSub, Nat.reduceMul, Nat.reduceLT, Nat.reduceLeDiff, Nat.reduceEqDiff, Nat.reduceBEq, Int.reduceToNat, Int.reduceLT, Int.reduceLE, Int.reduceGT, Int.reduceGE, Int.reduceAdd, Int.reduceSub, Int.reduceMul, Int.reduceNeg, Int.reduceBEq, Int.reduceBNe, Int.reducePow, Int.reduceDiv, Int.reduceMod, Int.reduceTDiv, Int.reduceTMod, Int.reduceNatCast]
                  repeat (with_reducible refine And.intro (by first | assumption | omega | (simp; done) | (simp; omega)) ?_)
                  refine toEnd hC ?_
                  refine endX_seq ?_
                  refine runX_ret ?_
                  refine endX_q ?_
                  obtain rfl := Option.some.inj h
                  show RetW _ _ _ _ _
                  simp only [RetW]
                  (try simp -implicitDefEqProofs (maxSteps := 4000000) (disch := first | omega | decide | (simp only [go_sem]; omega)) only [go_sem, ↓reduceIte, String.reduceEq, String.reduceNe, reduceCtorEq, Int.reduceEq, Nat.reduceAdd, Nat.reduceSub, Nat.reduceMul, Nat.reduceLT, Nat.reduceLeDiff, Nat.reduceEqDiff, Nat.reduceBEq, Int.reduceToNat, Int.reduceLT, Int.reduceLE, Int.reduceGT, Int.reduceGE, Int.reduceAdd, Int.reduceSub, Int.reduceMul, Int.reduceNeg, Int.reduceBEq, Int.reduceBNe, Int.reducePow, Int.reduceDiv, Int.reduceMod, Int.reduceTDiv, Int.reduceTMod, Int.reduceNatCast])
                  (try simp (disch := omega) only [if_pos, Nat.sub_zero])
                  first | exact leT_refl _ | (refine ⟨rfl, ?_⟩; first | exact leT_refl _ | exact leT_sl | exact leT_sln | exact leT_nil | (refine leT_tup (by repeat (first | exact leL_refl _ | refine leL_cons (by first | exact leT_refl _ | exact leT_virt | exact leT_junk _ | exact leT_sl | exact leT_sln | exact leT_nil) ?_))) | (refine leT_agg (by repeat (first | exact leL_refl _ | refine leL_cons (by first | exact leT_refl _ | exact leT_virt | exact leT_junk _ | exact leT_sl | exact leT_sln | exact leT_nil) ?_)))) | (first | exact leT_refl _ | exact leT_sl | exact leT_sln | exact leT_nil | (refine leT_tup (by repeat (first | exact leL_refl _ | refine leL_cons (by first | exact leT_refl _ | exact leT_virt | exact leT_junk _ | exact leT_sl | exact leT_sln | exact leT_nil) ?_))) | (refine leT_agg (by repeat (first | exact leL_refl _ | refine leL_cons (by first | exact leT_refl _ | exact leT_virt | exact leT_junk _ | exact leT_sl | exact leT_sln | exact leT_nil) ?_)))) | (simp only [List.append_assoc, List.cons_append, List.nil_append]; exact leT_refl _) | (rw [List.take_of_length_le (by simp)]; (try simp only [List.append_assoc, List.cons_append, List.nil_append]); exact leT_refl _)
            · refine guardK_F c13 ?_
              try simp -implicitDefEqProofs (maxSteps := 4000000) (disch := first | omega | decide | (simp only [go_sem]; omega)) only [go_sem, ↓reduceIte, String.reduceEq, String.reduceNe, reduceCtorEq, Int.reduceEq, Nat.reduceAdd, Nat.reduceSub, Nat.reduceMul, Nat.reduceLT, Nat.reduceLeDiff, Nat.reduceEqDiff, Nat.reduceBEq, Int.reduceToNat, Int.reduceLT, Int.reduceLE, Int.reduceGT, Int.reduceGE, Int.reduceAdd, Int.reduceSub, Int.reduceMul, Int.reduceNeg, Int.reduceBEq, Int.reduceBNe, Int.reducePow, Int.reduceDiv, Int.reduceMod, Int.reduceTDiv, Int.reduceTMod, Int.reduceNatCast]
              repeat (with_reducible refine And.intro (by first | assumption | omega | (simp; done) | (simp; omega)) ?_)
              refine toEnd hC ?_
              refine endX_seq ?_
              refine runX_ret ?_
              refine endX_q ?_
              obtain rfl := Option.some.inj h
              show RetW _ _ _ _ _
              simp only [RetW]
              (try simp -implicitDefEqProofs (maxSteps := 4000000) (disch := first | omega | decide | (simp only [go_sem]; omega)) only [go_sem, ↓reduceIte, String.reduceEq, String.reduceNe, reduceCtorEq, Int.reduceEq, Nat.reduceAdd, Nat.reduceSub, Nat.reduceMul, Nat.reduceLT, Nat.reduceLeDiff, Nat.reduceEqDiff, Nat.reduceBEq, Int.reduceToNat, Int.reduceLT, Int.reduceLE, Int.reduceGT, Int.reduceGE, Int.reduceAdd, Int.reduceSub, Int.reduceMul, Int.reduceNeg, Int.reduceBEq, Int.reduceBNe, Int.reducePow, Int.reduceDiv, Int.reduceMod, Int.reduceTDiv, Int.reduceTMod, Int.reduceNatCast])
              (try simp (disch := omega) only [if_pos, Nat.sub_zero])
              first | exact leT_refl _ | (refine ⟨rfl, ?_⟩; first | exact leT_refl _ | exact leT_sl | exact leT_sln | exact leT_nil | (refine leT_tup (by repeat (first | exact leL_refl _ | refine leL_cons (by first | exact leT_refl _ | exact leT_virt | exact leT_junk _ | exact leT_sl | exact leT_sln | exact leT_nil) ?_))) | (refine leT_agg (by repeat (first | exact leL_refl _ | refine leL_cons (by first | exact leT_refl _ | exact leT_virt | exact leT_junk _ | exact leT_sl | exact leT_sln | exact leT_nil) ?_)))) | (first | exact leT_refl _ | exact leT_sl | exact leT_sln | exact leT_nil | (refine leT_tup (by repeat (first | exact leL_refl _ | refine leL_cons (by first | exact leT_refl _ | exact leT_virt | exact leT_junk _ | exact leT_sl | exact leT_sln | exact leT_nil) ?_))) | (refine leT_agg (by repeat (first | exact leL_refl _ | refine leL_cons (by first | exact leT_refl _ | exact leT_virt | exact leT_junk _ | exact leT_sl | exact leT_sln | exact leT_nil) ?_)))) | (simp only [List.append_assoc, List.cons_append, List.nil_append]; exact leT_refl _) | (rw [List.take_of_length_le (by simp)]; (try simp only [List.append_assoc, List.cons_append, List.nil_append]); exact leT_refl _)
          · refine guardK_F c12 ?_
            try simp -implicitDefEqProofs (maxSteps := 4000000) (disch := first | omega | decide | (simp only [go_sem]; omega)) only [go_sem, ↓reduceIte, String.reduceEq, String.reduceNe, reduceCtorEq, Int.reduceEq, Nat.reduceAdd, Nat.reduceSub, Nat.reduceMul, Nat.reduceLT, Nat.reduceLeDiff, Nat.reduceEqDiff, Nat.reduceBEq, Int.reduceToNat, Int.reduceLT, Int.reduceLE, Int.reduceGT, Int.reduceGE, Int.reduceAdd, Int.reduceSub, Int.reduceMul, Int.reduceNeg, Int.reduceBEq, Int.reduceBNe, Int.reducePow, Int.reduceDiv, Int.reduceMod, Int.reduceTDiv, Int.reduceTMod, Int.reduceNatCast]
            repeat (with_reducible refine And.intro (by first | assumption | omega | (simp; done) | (simp; omega)) ?_)
            refine toEnd hC ?_
            refine endX_seq ?_
            refine runX_ret ?_
            refine endX_q ?_
            obtain rfl := Option.some.inj h
            show RetW _ _ _ _ _
            simp only [RetW]
            (try simp -implicitDefEqProofs (maxSteps := 4000000) (disch := first | omega | decide | (simp only [go_sem]; omega)) only [go_sem, ↓reduceIte, String.reduceEq, String.reduceNe, reduceCtorEq, Int.reduceEq, Nat.reduceAdd, Nat.reduceSub, Nat.reduceMul, Nat.reduceLT, Nat.reduceLeDiff, Nat.reduceEqDiff, Nat.reduceBEq, Int.reduceToNat, Int.reduceLT, Int.reduceLE, Int.reduceGT, Int.reduceGE, Int.reduceAdd, Int.reduceSub, Int.reduceMul, Int.reduceNeg, Int.reduceBEq, Int.reduceBNe, Int.reducePow, Int.reduceDiv, Int.reduceMod, Int.reduceTDiv, Int.reduceTMod, Int.reduceNatCast])
            (try simp (disch := omega) only [if_pos, Nat.sub_zero])
            first | exact leT_refl _ | (refine ⟨rfl, ?_⟩; first | exact leT_refl _ | exact leT_sl | exact leT_sln | exact leT_nil | (refine leT_tup (by repeat (first | exact leL_refl _ | refine leL_cons (by first | exact leT_refl _ | exact leT_virt | exact leT_junk _ | exact leT_sl | exact leT_sln | exact leT_nil) ?_))) | (refine leT_agg (by repeat (first | exact leL_refl _ | refine leL_cons (by first | exact leT_refl _ | exact leT_virt | exact leT_junk _ | exact leT_sl | exact leT_sln | exact leT_nil) ?_)))) | (first | exact leT_refl _ | exact leT_sl | exact leT_sln | exact leT_nil | (refine leT_tup (by repeat (first | exact leL_refl _ | refine leL_cons (by first | exact leT_refl _ | exact leT_virt | exact leT_junk _ | exact leT_sl | exact leT_sln | exact leT_nil) ?_))) | (refine leT_agg (by repeat (first | exact leL_refl _ | refine leL_cons (by first | exact leT_refl _ | exact leT_virt | exact leT_junk _ | exact leT_sl | exact leT_sln | exact leT_nil) ?_)))) | (simp only [List.append_assoc, List.cons_append, List.nil_append]; exact leT_refl _) | (rw [List.take_of_length_le (by simp)]; (try simp only [List.append_assoc, List.cons_append, List.nil_append]); exact leT_refl _)
        · refine guardK_F c11 ?_
          try simp -implicitDefEqProofs (maxSteps := 4000000) (disch := first | omega | decide | (simp only [go_sem]; omega)) only [go_sem, ↓reduceIte, String.reduceEq, String.reduceNe, reduceCtorEq, Int.reduceEq, Nat.reduceAdd, Nat.reduceSub, Nat.reduceMul, Nat.reduceLT, Nat.reduceLeDiff, Nat.reduceEqDiff, Nat.reduceBEq, Int.reduceToNat, Int.reduceLT, Int.reduceLE, Int.reduceGT, Int.reduceGE, Int.reduceAdd, Int.reduceSub, Int.reduceMul, Int.reduceNeg, Int.reduceBEq, Int.reduceBNe, Int.reducePow, Int.reduceDiv, Int.reduceMod, Int.reduceTDiv, Int.reduceTMod, Int.reduceNatCast]
          repeat (with_reducible refine And.intro (by first | assumption | omega | (simp; done) | (simp; omega)) ?_)
          refine toEnd hC ?_
          refine endX_seq ?_
          refine runX_ret ?_
          refine endX_q ?_
          obtain rfl := Option.some.inj h
          show RetW _ _ _ _ _
          simp only [RetW]
          (try simp -implicitDefEqProofs (maxSteps := 4000000) (disch := first | omega | decide | (simp only [go_sem]; omega)) only [go_sem, ↓reduceIte, String.reduceEq, String.reduceNe, reduceCtorEq, Int.reduceEq, Nat.reduceAdd, Nat.reduceSub, Nat.reduceMul, Nat.reduceLT, Nat.reduceLeDiff, Nat.reduceEqDiff, Nat.reduceBEq, Int.reduceToNat, Int.reduceLT, Int.reduceLE, Int.reduceGT, Int.reduceGE, Int.reduceAdd, Int.reduceSub, Int.reduceMul, Int.reduceNeg, Int.reduceBEq, Int.reduceBNe, Int.reducePow, Int.reduceDiv, Int.reduceMod, Int.reduceTDiv, Int.reduceTMod, Int.reduceNatCast])
          (try simp (disch := omega) only [if_pos, Nat.sub_zero])
          first | exact leT_refl _ | (refine ⟨rfl, ?_⟩; first | exact leT_refl _ | exact leT_sl | exact leT_sln | exact leT_nil | (refine leT_tup (by repeat (first | exact leL_refl _ | refine leL_cons (by first | exact leT_refl _ | exact leT_virt | exact leT_junk _ | exact leT_sl | exact leT_sln | exact leT_nil) ?_))) | (refine leT_agg (by repeat (first | exact leL_refl _ | refine leL_cons (by first | exact leT_refl _ | exact leT_virt | exact leT_junk _ | exact leT_sl | exact leT_sln | exact leT_nil) ?_)))) | (first | exact leT_refl _ | exact leT_sl | exact leT_sln | exact leT_nil | (refine leT_tup (by repeat (first | exact leL_refl _ | refine leL_cons (by first | exact leT_refl _ | exact leT_virt | exact leT_junk _ | exact leT_sl | exact leT_sln | exact leT_nil) ?_))) | (refine leT_agg (by repeat (first | exact leL_refl _ | refine leL_cons (by first | exact leT_refl _ | exact leT_virt | exact leT_junk _ | exact leT_sl | exact leT_sln | exact leT_nil) ?_)))) | (simp only [List.append_assoc, List.cons_append, List.nil_append]; exact leT_refl _) | (rw [List.take_of_length_le (by simp)]; (try simp only [List.append_assoc, List.cons_append, List.nil_append]); exact leT_refl _)
end Go.Proofs.YtdfghdppbfabfaaDoorX

/- Shapes of arguments, as plain values. Of no program. -/
set_option linter.unusedVariables false
namespace Go.Proofs.YtdfghdppbfabfaaDoorX
open Go Go.RowKit
theorem RepR.le {E : Env} {sz : Nat} : ∀ {l l' : List T} {c : List Value}, l.length = l'.length → (∀ i, leT anyE (l.getD i .junk) (l'.getD i .junk)) → RepR E sz l c → RepR E sz l' c
  | [], [], c, _, _, h => h
  | x :: l, y :: l', c, hl, hi, h => by
    simp only [RepR] at h ⊢
    obtain ⟨u, c', h1, h2, h3, h4⟩ := h
    exact ⟨u, c', h1, h2, by simpa using hi 0 E true u trivial (by simpa using h3), RepR.le (by simpa using hl) (fun i => by simpa using hi (i + 1)) h4⟩
  | [], _ :: _, c, hl, _, _ => by simp at hl
  | _ :: _, [], c, hl, _, _ => by simp at hl
theorem leT_slE {sz : Nat} {f : Bool} {l l' : List T} (hl : l.length = l'.length) (h : ∀ i, leT anyE (l.getD i .junk) (l'.getD i .junk)) : leT anyE (.sl sz f l) (.sl sz false l') := fun E cl v hp k => by
  simp only [Rep] at k ⊢
  obtain ⟨a, cap, c, h1, h2, h3, h4, h5⟩ := k
  exact ⟨a, cap, c, by rw [h1, hl], by rw [← hl]; exact h2, (fun h => by cases h), RepR.le hl h h4, h5⟩
theorem elems_shape {α : Type} (enc : α → T) (ok : α → Prop) : ∀ (l : List T), (∀ y ∈ l, ∃ v, leT anyE y (enc v) ∧ ok v) → ∃ vs : List α, vs.length = l.length ∧ (∀ i, leT anyE (l.getD i .junk) ((vs.map enc).getD i .junk)) ∧ ∀ v ∈ vs, ok v
  | [], _ => ⟨[], rfl, fun i => by simp [leT_refl], fun v hv => by simp at hv⟩
  | y :: l, h => by
    obtain ⟨v, h1, h2⟩ := h y (by simp)
    obtain ⟨vs, h3, h4, h5⟩ := elems_shape enc ok l fun z hz => h z (by simp [hz])
    refine ⟨v :: vs, by simp [h3], fun i => ?_, fun w hw => ?_⟩
    · cases i with
      | zero => simpa using h1
      | succ i => simpa using h4 i
    · rcases List.mem_cons.1 hw with rfl | hw
      · exact h2
      · exact h5 w hw
theorem sl_shape {α : Type} (enc : α → T) (ok : α → Prop) (l : List T) (h : ∀ y ∈ l, ∃ v, leT anyE y (enc v) ∧ ok v) {sz : Nat} {f : Bool} : ∃ vs : List α, leT anyE (.sl sz f l) (.sl sz false (vs.map enc)) ∧ vs.length = l.length ∧ ∀ v ∈ vs, ok v := by
  obtain ⟨vs, h1, h2, h3⟩ := elems_shape enc ok l h
  exact ⟨vs, leT_slE (by simp [h1]) h2, h1, h3⟩
theorem arr_shape {α : Type} (enc : α → T) (ok : α → Prop) : ∀ (l : List T), (∀ y ∈ l, ∃ v, y = enc v ∧ T.cells y = [y] ∧ ok v) → ∃ vs : List α, l.flatMap T.cells = vs.map enc ∧ vs.length = l.length ∧ ∀ v ∈ vs, ok v
  | [], _ => ⟨[], rfl, rfl, fun v hv => by simp at hv⟩
  | y :: l, h => by
    obtain ⟨v, rfl, hc, h2⟩ := h y (by simp)
    obtain ⟨vs, h3, h4, h5⟩ := arr_shape enc ok l fun z hz => h z (by simp [hz])
    refine ⟨v :: vs, by rw [List.flatMap_cons, hc, h3]; rfl, by simp [h4], fun w hw => ?_⟩
    rcases List.mem_cons.1 hw with rfl | hw
    · exact h2
    · exact h5 w hw
end Go.Proofs.YtdfghdppbfabfaaDoorX

set_option linter.unusedVariables false
set_option linter.unusedSimpArgs false
namespace Go.Proofs.YtdfghdppbfabfaaDoorX
open Go Go.RowKit Go.Proofs
set_option maxRecDepth 100000
def okT9 (v : List UInt8) : Prop := v.length ≤ 9223372036854775807
theorem shp9 : ∀ (n : Nat) (x : T), ShapeW Tryd.prog n 9 x → ∃ v : List UInt8, x = .imm (.string (bs v)) ∧ okT9 v
  | 0, x, h => h.elim
  | n + 1, x, h => by
    simp only [ShapeW, Tryd.underlying9] at h
    obtain ⟨s, rfl, hs⟩ := h
    exact ⟨s.data.toList, by rw [← of_bs], hs⟩
theorem shapedNameSmall (main : ∀ (v0 : List UInt8), okT9 v0 → ∃ n, F4 n v0 = some true) (xs : List T) (h : ShapesW Tryd.prog [9] xs) : FnC Tryd.prog 4 xs (tb true) := by
  obtain ⟨x0, xs0, rfl, ⟨n0, h0⟩, rfl⟩ := h
  obtain ⟨v0, rfl, k0⟩ := shp9 _ _ h0
  obtain ⟨N, hN⟩ := main v0 k0
  exact (F4_ok N v0 true hN).le (leL_cons (leT_refl _) (leL_nil)) (leT_refl _)

end Go.Proofs.YtdfghdppbfabfaaDoorX

/- Plain functions with fuel: what they come to. Of no program. -/
set_option linter.unusedVariables false
set_option linter.unusedSimpArgs false
namespace Go.Proofs.YtdfghdppbfabfaaDoorX
open Go

/-- With fuel enough the answer is this. -/
def Ev {α : Type} (f : Nat → Option α) (r : α) : Prop := ∃ N, ∀ n, N ≤ n → f n = some r
theorem Ev.pure {α : Type} {r : α} : Ev (fun _ => some r) r := ⟨0, fun _ _ => rfl⟩
theorem Ev.const {α : Type} {x : Option α} {r : α} (h : x = some r) : Ev (fun _ => x) r := ⟨0, fun _ _ => h⟩
theorem Ev.bind {α β : Type} {f : Nat → Option α} {g : Nat → α → Option β} {v : α} {r : β} (h : Ev f v) (h' : Ev (fun n => g n v) r) : Ev (fun n => (f n).bind (g n)) r := by
  obtain ⟨N, h⟩ := h
  obtain ⟨M, h'⟩ := h'
  exact ⟨max N M, fun n hn => by show (f n).bind (g n) = _; rw [h n (by omega)]; exact h' n (by omega)⟩
theorem Ev.step {α : Type} {f : Nat → Option α} {r : α} (h : Ev (fun n => f (n + 1)) r) : Ev f r := by
  obtain ⟨N, h⟩ := h
  refine ⟨N + 1, fun n hn => ?_⟩
  obtain ⟨m, rfl⟩ : ∃ m, n = m + 1 := ⟨n - 1, by omega⟩
  exact h m (by omega)
theorem Ev.congr {α : Type} {f g : Nat → Option α} {r : α} (h : Ev g r) (e : ∀ n, f n = g n) : Ev f r := by
  obtain ⟨N, h⟩ := h
  exact ⟨N, fun n hn => (e n).trans (h n hn)⟩
theorem Ev.grd {α : Type} {p : Prop} [Decidable p] {f : Nat → Option α} {r : α} (hp : p) (h : Ev f r) : Ev (fun n => grd p (f n)) r := h.congr fun n => if_pos hp
theorem Ev.ofT {α : Type} {b : Bool} {f g : Nat → Option α} {r : α} (hb : b = true) (h : Ev f r) : Ev (fun n => iteB b (f n) (g n)) r := h.congr fun n => by rw [hb]; rfl
theorem Ev.ofF {α : Type} {b : Bool} {f g : Nat → Option α} {r : α} (hb : b = false) (h : Ev g r) : Ev (fun n => iteB b (f n) (g n)) r := h.congr fun n => by rw [hb]; rfl
theorem Ev.ite {α : Type} {b : Bool} {f g : Nat → Option α} {r : α} (h1 : b = true → Ev f r) (h2 : b = false → Ev g r) : Ev (fun n => iteB b (f n) (g n)) r := by
  cases hb : b with
  | true => exact (h1 hb).congr fun n => rfl
  | false => exact (h2 hb).congr fun n => rfl
theorem iteB_t {α : Type} (x y : Option α) : iteB true x y = x := rfl
theorem iteB_f {α : Type} (x y : Option α) : iteB false x y = y := rfl
theorem grd_t {α : Type} {p : Prop} [Decidable p] (x : Option α) (h : p) : grd p x = x := if_pos h
theorem grd_True {α : Type} [Decidable True] (x : Option α) : grd True x = x := if_pos trivial
theorem bind_some' {α β : Type} (v : α) (g : α → Option β) : (some v).bind g = g v := rfl
theorem w64 {n : Int} (h : -9223372036854775808 ≤ n ∧ n ≤ 9223372036854775807) : IntKind.wrap .i64 n = n := Go.IntWalk.i64_in _ h
theorem w32 {n : Int} (h : -2147483648 ≤ n ∧ n ≤ 2147483647) : IntKind.wrap .i32 n = n := Go.IntWalk.i32_in _ h
theorem wu8 {n : Int} (h : 0 ≤ n ∧ n ≤ 255) : IntKind.wrap .u8 n = n := Go.IntWalk.u8_in _ h
theorem wu32 {n : Int} (h : 0 ≤ n ∧ n ≤ 4294967295) : IntKind.wrap .u32 n = n := Go.IntWalk.u32_in _ h
theorem wu64 {n : Int} (h : 0 ≤ n ∧ n ≤ 18446744073709551615) : IntKind.wrap .u64 n = n := Go.IntWalk.u64_in _ h
/-- Bytes as numbers. -/
theorem u8_beq (a b : UInt8) : ((a.toNat : Int) == (b.toNat : Int)) = (a == b) := by
  rw [Bool.eq_iff_iff, beq_iff_eq, beq_iff_eq]
  exact ⟨fun h => UInt8.toNat_inj.1 (by omega), fun h => by rw [h]⟩
theorem u8_lit (a : UInt8) (k : Nat) (hk : k < 256) : ((a.toNat : Int) == ((k : Nat) : Int)) = (a == UInt8.ofNat k) := by
  rw [Bool.eq_iff_iff, beq_iff_eq, beq_iff_eq]
  constructor
  · intro h
    apply UInt8.toNat_inj.1
    rw [UInt8.toNat_ofNat']
    omega
  · intro h
    subst h
    rw [UInt8.toNat_ofNat']
    omega
theorem u8_lt (a : UInt8) : (0 : Int) ≤ (a.toNat : Int) ∧ (a.toNat : Int) ≤ 255 := by
  have := a.toNat_lt; omega
theorem drop_cons {α : Type} (l : List α) (i : Nat) (d : α) (h : i < l.length) : l.drop i = l.getD i d :: l.drop (i + 1) := by
  rw [List.drop_eq_getElem_cons h, List.getD_eq_getElem?_getD, List.getElem?_eq_getElem h]; rfl
theorem toNat_nat (n : Nat) : ((n : Int)).toNat = n := rfl
end Go.Proofs.YtdfghdppbfabfaaDoorX

set_option linter.unusedVariables false
set_option linter.unusedSimpArgs false
namespace Go.Proofs.YtdfghdppbfabfaaDoorX
open Go Go.RowKit Go.Proofs
set_option maxRecDepth 100000
/-! ### internal/stringslite.Cut -/
def F39 (n : Nat) (a0 : List UInt8) (a1 : List UInt8) : Option ((List UInt8) × (List UInt8) × (Bool)) := (F50 n a0 a1).bind fun v1 => iteB (decide ((0 : Int) ≤ v1)) (grd (0 ≤ v1 ∧ v1 ≤ (a0.length : Int)) (grd (0 ≤ (IntKind.wrap .i64 (v1 + (a1.length : Int))) ∧ (IntKind.wrap .i64 (v1 + (a1.length : Int))) ≤ (a0.length : Int)) (some ((a0.take v1.toNat), (a0.drop (IntKind.wrap .i64 (v1 + (a1.length : Int))).toNat), true)))) (some (a0, [], false))
set_option maxHeartbeats 4000000 in
theorem F39_ok : ∀ (n : Nat) (a0 : List UInt8) (a1 : List UInt8) (r : (List UInt8) × (List UInt8) × (Bool)), F39 n a0 a1 = some r → FnC Tryd.prog 39 [.imm (.string (bs a0)), .imm (.string (bs a1))] (.tup [.imm (.string (bs r.1)), .imm (.string (bs r.2.1)), .imm (.bool r.2.2)])
  | n, a0, a1, r, h => by
    unfold F39 at h
    refine FnC.goX mixed Tryd.func39 (by kernel_rfl) rfl ?_
    simp only [Tryd.ntmps39, List.length_cons, List.length_nil, List.replicate, List.cons_append, List.nil_append, Nat.reduceAdd, Nat.reduceSub]
    refine runX_seq ?_
    refine runX_regionC fun C hC => ?_
    try simp -implicitDefEqProofs (maxSteps := 4000000) (disch := first | omega | decide | (simp only [go_sem]; omega)) only [go_sem, ↓reduceIte, String.reduceEq, String.reduceNe, reduceCtorEq, Int.reduceEq, Nat.reduceAdd, Nat.reduceSub, Nat.reduceMul, Nat.reduceLT, Nat.reduceLeDiff, Nat.reduceEqDiff, Nat.reduceBEq, Int.reduceToNat, Int.reduceLT, Int.reduceLE, Int.reduceGT, Int.reduceGE, Int.reduceAdd, Int.reduceSub, Int.reduceMul, Int.reduceNeg, Int.reduceBEq, Int.reduceBNe, Int.reducePow, Int.reduceDiv, Int.reduceMod, Int.reduceTDiv, Int.reduceTMod, Int.reduceNatCast]
    repeat (with_reducible refine And.intro (by first | assumption | omega | (simp; done) | (simp; omega)) ?_)
    refine toEnd hC ?_
    refine endX_seq ?_
    refine runX_seq ?_
    refine runX_seq ?_
    refine runX_regionC fun C hC => ?_
    obtain ⟨v1, h1, h⟩ := bnd_some h
    try simp -implicitDefEqProofs (maxSteps := 4000000) (disch := first | omega | decide | (simp only [go_sem]; omega)) only [go_sem, ↓reduceIte, String.reduceEq, String.reduceNe, reduceCtorEq, Int.reduceEq, Nat.reduceAdd, Nat.reduceSub, Nat.reduceMul, Nat.reduceLT, Nat.reduceLeDiff, Nat.reduceEqDiff, Nat.reduceBEq, Int.reduceToNat, Int.reduceLT, Int.reduceLE, Int.reduceGT, Int.reduceGE, Int.reduceAdd, Int.reduceSub, Int.reduceMul, Int.reduceNeg, Int.reduceBEq, Int.reduceBNe, Int.reducePow, Int.reduceDiv, Int.reduceMod, Int.reduceTDiv, Int.reduceTMod, Int.reduceNatCast]
    repeat (with_reducible refine And.intro (by first | assumption | omega | (simp; done) | (simp; omega)) ?_)
    refine callG_X (F50_ok n a0 a1 _ h1) (by repeat (first | exact leL_refl _ | refine leL_cons (by first | exact leT_refl _ | exact leT_virt | exact leT_junk _ | exact leT_sl | exact leT_sln | exact leT_nil) ?_)) ?_
    try simp -implicitDefEqProofs (maxSteps := 4000000) (disch := first | omega | decide | (simp only [go_sem]; omega)) only [go_sem, ↓reduceIte, String.reduceEq, String.reduceNe, reduceCtorEq, Int.reduceEq, Nat.reduceAdd, Nat.reduceSub, Nat.reduceMul, Nat.reduceLT, Nat.reduceLeDiff, Nat.reduceEqDiff, Nat.reduceBEq, Int.reduceToNat, Int.reduceLT, Int.reduceLE, Int.reduceGT, Int.reduceGE, Int.reduceAdd, Int.reduceSub, Int.reduceMul, Int.reduceNeg, Int.reduceBEq, Int.reduceBNe, Int.reducePow, Int.reduceDiv, Int.reduceMod, Int.reduceTDiv, Int.reduceTMod, Int.reduceNatCast]
    repeat (with_reducible refine And.intro (by first | assumption | omega | (simp; done) | (simp; omega)) ?_)
    refine toEnd hC ?_
    refine endX_seq ?_
    refine runX_seq ?_
    refine runX_regionC fun C hC => ?_
    try simp -implicitDefEqProofs (maxSteps := 4000000) (disch := first | omega | decide | (simp only [go_sem]; omega)) only [go_sem, ↓reduceIte, String.reduceEq, String.reduceNe, reduceCtorEq, Int.reduceEq, Nat.reduceAdd, Nat.reduceSub, Nat.reduceMul, Nat.reduceLT, Nat.reduceLeDiff, Nat.reduceEqDiff, Nat.reduceBEq, Int.reduceToNat, Int.reduceLT, Int.reduceLE, Int.reduceGT, Int.reduceGE, Int.reduceAdd, Int.reduceSub, Int.reduceMul, Int.reduceNeg, Int.reduceBEq, Int.reduceBNe, Int.reducePow, Int.reduceDiv, Int.reduceMod, Int.reduceTDiv, Int.reduceTMod, Int.reduceNatCast]
    repeat (with_reducible refine And.intro (by first | assumption | omega | (simp; done) | (simp; omega)) ?_)
    refine toEnd hC ?_
    refine endX_seq ?_
    rcases iteB_some h with ⟨c2, h⟩ | ⟨c2, h⟩
    · refine runX_condT rfl c2 ?_
      refine runX_seq ?_
      refine runX_drawC mixed (by kernel_rfl) fun C hC => ?_
      obtain ⟨g3, h⟩ := grd_some h
      obtain ⟨g4, h⟩ := grd_some h
      try simp -implicitDefEqProofs (maxSteps := 4000000) (disch := first | omega | decide | (simp only [go_sem]; omega)) only [go_sem, ↓reduceIte, String.reduceEq, String.reduceNe, reduceCtorEq, Int.reduceEq, Nat.reduceAdd, Nat.reduceSub, Nat.reduceMul, Nat.reduceLT, Nat.reduceLeDiff, Nat.reduceEqDiff, Nat.reduceBEq, Int.reduceToNat, Int.reduceLT, Int.reduceLE, Int.reduceGT, Int.reduceGE, Int.reduceAdd, Int.reduceSub, Int.reduceMul, Int.reduceNeg, Int.reduceBEq, Int.reduceBNe, Int.reducePow, Int.reduceDiv, Int.reduceMod, Int.reduceTDiv, Int.reduceTMod, Int.reduceNatCast]
      repeat (with_reducible refine And.intro (by first | assumption | omega | (simp; done) | (simp; omega)) ?_)
      refine toEnd hC ?_
      refine endX_seq ?_
      refine runX_ret ?_
      refine endX_seqR ?_
      refine endX_q ?_
      obtain rfl := Option.some.inj h
      show RetW _ _ _ _ _
      simp only [RetW]
      (try simp -implicitDefEqProofs (maxSteps := 4000000) (disch := first | omega | decide | (simp only [go_sem]; omega)) only [go_sem, ↓reduceIte, String.reduceEq, String.reduceNe, reduceCtorEq, Int.reduceEq, Nat.reduceAdd, Nat.reduceSub, Nat.reduceMul, Nat.reduceLT, Nat.reduceLeDiff, Nat.reduceEqDiff, Nat.reduceBEq, Int.reduceToNat, Int.reduceLT, Int.reduceLE, Int.reduceGT, Int.reduceGE, Int.reduceAdd, Int.reduceSub, Int.reduceMul, Int.reduceNeg, Int.reduceBEq, Int.reduceBNe, Int.reducePow, Int.reduceDiv, Int.reduceMod, Int.reduceTDiv, Int.reduceTMod, Int.reduceNatCast])
      (try simp (disch := omega) only [if_pos, Nat.sub_zero])
      first | exact leT_refl _ | (refine ⟨rfl, ?_⟩; first | exact leT_refl _ | exact leT_sl | exact leT_sln | exact leT_nil | (refine leT_tup (by repeat (first | exact leL_refl _ | refine leL_cons (by first | exact leT_refl _ | exact leT_virt | exact leT_junk _ | exact leT_sl | exact leT_sln | exact leT_nil) ?_))) | (refine leT_agg (by repeat (first | exact leL_refl _ | refine leL_cons (by first | exact leT_refl _ | exact leT_virt | exact leT_junk _ | exact leT_sl | exact leT_sln | exact leT_nil) ?_)))) | (first | exact leT_refl _ | exact leT_sl | exact leT_sln | exact leT_nil | (refine leT_tup (by repeat (first | exact leL_refl _ | refine leL_cons (by first | exact leT_refl _ | exact leT_virt | exact leT_junk _ | exact leT_sl | exact leT_sln | exact leT_nil) ?_))) | (refine leT_agg (by repeat (first | exact leL_refl _ | refine leL_cons (by first | exact leT_refl _ | exact leT_virt | exact leT_junk _ | exact leT_sl | exact leT_sln | exact leT_nil) ?_)))) | (simp only [List.append_assoc, List.cons_append, List.nil_append]; exact leT_refl _) | (rw [List.take_of_length_le (by simp)]; (try simp only [List.append_assoc, List.cons_append, List.nil_append]); exact leT_refl _)
    · refine runX_condF rfl c2 ?_
      refine runX_skip ?_
      refine endX_seq ?_
      refine runX_seq ?_
      refine runX_regionC fun C hC => ?_
      try simp -implicitDefEqProofs (maxSteps := 4000000) (disch := first | omega | decide | (simp only [go_sem]; omega)) only [go_sem, ↓reduceIte, String.reduceEq, String.reduceNe, reduceCtorEq, Int.reduceEq, Nat.reduceAdd, Nat.reduceSub, Nat.reduceMul, Nat.reduceLT, Nat.reduceLeDiff, Nat.reduceEqDiff, Nat.reduceBEq, Int.reduceToNat, Int.reduceLT, Int.reduceLE, Int.reduceGT, Int.reduceGE, Int.reduceAdd, Int.reduceSub, Int.reduceMul, Int.reduceNeg, Int.reduceBEq, Int.reduceBNe, Int.reducePow, Int.reduceDiv, Int.reduceMod, Int.reduceTDiv, Int.reduceTMod, Int.reduceNatCast]
      repeat (with_reducible refine And.intro (by first | assumption | omega | (simp; done) | (simp; omega)) ?_)
      refine toEnd hC ?_
      refine endX_seq ?_
      refine runX_ret ?_
      refine endX_q ?_
      obtain rfl := Option.some.inj h
      show RetW _ _ _ _ _
      simp only [RetW]
      (try simp -implicitDefEqProofs (maxSteps := 4000000) (disch := first | omega | decide | (simp only [go_sem]; omega)) only [go_sem, ↓reduceIte, String.reduceEq, String.reduceNe, reduceCtorEq, Int.reduceEq, Nat.reduceAdd, Nat.reduceSub, Nat.reduceMul, Nat.reduceLT, Nat.reduceLeDiff, Nat.reduceEqDiff, Nat.reduceBEq, Int.reduceToNat, Int.reduceLT, Int.reduceLE, Int.reduceGT, Int.reduceGE, Int.reduceAdd, Int.reduceSub, Int.reduceMul, Int.reduceNeg, Int.reduceBEq, Int.reduceBNe, Int.reducePow, Int.reduceDiv, Int.reduceMod, Int.reduceTDiv, Int.reduceTMod, Int.reduceNatCast])
      (try simp (disch := omega) only [if_pos, Nat.sub_zero])
      first | exact leT_refl _ | (refine ⟨rfl, ?_⟩; first | exact leT_refl _ | exact leT_sl | exact leT_sln | exact leT_nil | (refine leT_tup (by repeat (first | exact leL_refl _ | refine leL_cons (by first | exact leT_refl _ | exact leT_virt | exact leT_junk _ | exact leT_sl | exact leT_sln | exact leT_nil) ?_))) | (refine leT_agg (by repeat (first | exact leL_refl _ | refine leL_cons (by first | exact leT_refl _ | exact leT_virt | exact leT_junk _ | exact leT_sl | exact leT_sln | exact leT_nil) ?_)))) | (first | exact leT_refl _ | exact leT_sl | exact leT_sln | exact leT_nil | (refine leT_tup (by repeat (first | exact leL_refl _ | refine leL_cons (by first | exact leT_refl _ | exact leT_virt | exact leT_junk _ | exact leT_sl | exact leT_sln | exact leT_nil) ?_))) | (refine leT_agg (by repeat (first | exact leL_refl _ | refine leL_cons (by first | exact leT_refl _ | exact leT_virt | exact leT_junk _ | exact leT_sl | exact leT_sln | exact leT_nil) ?_)))) | (simp only [List.append_assoc, List.cons_append, List.nil_append]; exact leT_refl _) | (rw [List.take_of_length_le (by simp)]; (try simp only [List.append_assoc, List.cons_append, List.nil_append]); exact leT_refl _)
end Go.Proofs.YtdfghdppbfabfaaDoorX

set_option linter.unusedVariables false
set_option linter.unusedSimpArgs false
namespace Go.Proofs.YtdfghdppbfabfaaDoorX
open Go Go.RowKit Go.Proofs
set_option maxRecDepth 100000
/-! ### strings.Cut -/
def F24 (n : Nat) (a0 : List UInt8) (a1 : List UInt8) : Option ((List UInt8) × (List UInt8) × (Bool)) := (F39 n a0 a1).bind fun v1 => some (v1.1, v1.2.1, v1.2.2)
set_option maxHeartbeats 4000000 in
theorem F24_ok : ∀ (n : Nat) (a0 : List UInt8) (a1 : List UInt8) (r : (List UInt8) × (List UInt8) × (Bool)), F24 n a0 a1 = some r → FnC Tryd.prog 24 [.imm (.string (bs a0)), .imm (.string (bs a1))] (.tup [.imm (.string (bs r.1)), .imm (.string (bs r.2.1)), .imm (.bool r.2.2)])
  | n, a0, a1, r, h => by
    unfold F24 at h
    refine FnC.goX mixed Tryd.func24 (by kernel_rfl) rfl ?_
    simp only [Tryd.ntmps24, List.length_cons, List.length_nil, List.replicate, List.cons_append, List.nil_append, Nat.reduceAdd, Nat.reduceSub]
    refine runX_seq ?_
    refine runX_regionC fun C hC => ?_
    try simp -implicitDefEqProofs (maxSteps := 4000000) (disch := first | omega | decide | (simp only [go_sem]; omega)) only [go_sem, ↓reduceIte, String.reduceEq, String.reduceNe, reduceCtorEq, Int.reduceEq, Nat.reduceAdd, Nat.reduceSub, Nat.reduceMul, Nat.reduceLT, Nat.reduceLeDiff, Nat.reduceEqDiff, Nat.reduceBEq, Int.reduceToNat, Int.reduceLT, Int.reduceLE, Int.reduceGT, Int.reduceGE, Int.reduceAdd, Int.reduceSub, Int.reduceMul, Int.reduceNeg, Int.reduceBEq, Int.reduceBNe, Int.reducePow, Int.reduceDiv, Int.reduceMod, Int.reduceTDiv, Int.reduceTMod, Int.reduceNatCast]
    repeat (with_reducible refine And.intro (by first | assumption | omega | (simp; done) | (simp; omega)) ?_)
    refine toEnd hC ?_
    refine endX_seq ?_
    refine runX_seq ?_
    refine runX_regionC fun C hC => ?_
    obtain ⟨v1, h1, h⟩ := bnd_some h
    try simp -implicitDefEqProofs (maxSteps := 4000000) (disch := first | omega | decide | (simp only [go_sem]; omega)) only [go_sem, ↓reduceIte, String.reduceEq, String.reduceNe, reduceCtorEq, Int.reduceEq, Nat.reduceAdd, Nat.reduceSub, Nat.reduceMul, Nat.reduceLT, Nat.reduceLeDiff, Nat.reduceEqDiff, Nat.reduceBEq, Int.reduceToNat, Int.reduceLT, Int.reduceLE, Int.reduceGT, Int.reduceGE, Int.reduceAdd, Int.reduceSub, Int.reduceMul, Int.reduceNeg, Int.reduceBEq, Int.reduceBNe, Int.reducePow, Int.reduceDiv, Int.reduceMod, Int.reduceTDiv, Int.reduceTMod, Int.reduceNatCast]
    repeat (with_reducible refine And.intro (by first | assumption | omega | (simp; done) | (simp; omega)) ?_)
    refine callG_X (F39_ok n a0 a1 _ h1) (by repeat (first | exact leL_refl _ | refine leL_cons (by first | exact leT_refl _ | exact leT_virt | exact leT_junk _ | exact leT_sl | exact leT_sln | exact leT_nil) ?_)) ?_
    try simp -implicitDefEqProofs (maxSteps := 4000000) (disch := first | omega | decide | (simp only [go_sem]; omega)) only [go_sem, ↓reduceIte, String.reduceEq, String.reduceNe, reduceCtorEq, Int.reduceEq, Nat.reduceAdd, Nat.reduceSub, Nat.reduceMul, Nat.reduceLT, Nat.reduceLeDiff, Nat.reduceEqDiff, Nat.reduceBEq, Int.reduceToNat, Int.reduceLT, Int.reduceLE, Int.reduceGT, Int.reduceGE, Int.reduceAdd, Int.reduceSub, Int.reduceMul, Int.reduceNeg, Int.reduceBEq, Int.reduceBNe, Int.reducePow, Int.reduceDiv, Int.reduceMod, Int.reduceTDiv, Int.reduceTMod, Int.reduceNatCast]
    repeat (with_reducible refine And.intro (by first | assumption | omega | (simp; done) | (simp; omega)) ?_)
    refine toEnd hC ?_
    refine endX_seq ?_
    refine runX_ret ?_
    refine endX_q ?_
    obtain rfl := Option.some.inj h
    show RetW _ _ _ _ _
    simp only [RetW]
    (try simp -implicitDefEqProofs (maxSteps := 4000000) (disch := first | omega | decide | (simp only [go_sem]; omega)) only [go_sem, ↓reduceIte, String.reduceEq, String.reduceNe, reduceCtorEq, Int.reduceEq, Nat.reduceAdd, Nat.reduceSub, Nat.reduceMul, Nat.reduceLT, Nat.reduceLeDiff, Nat.reduceEqDiff, Nat.reduceBEq, Int.reduceToNat, Int.reduceLT, Int.reduceLE, Int.reduceGT, Int.reduceGE, Int.reduceAdd, Int.reduceSub, Int.reduceMul, Int.reduceNeg, Int.reduceBEq, Int.reduceBNe, Int.reducePow, Int.reduceDiv, Int.reduceMod, Int.reduceTDiv, Int.reduceTMod, Int.reduceNatCast])
    (try simp (disch := omega) only [if_pos, Nat.sub_zero])
    first | exact leT_refl _ | (refine ⟨rfl, ?_⟩; first | exact leT_refl _ | exact leT_sl | exact leT_sln | exact leT_nil | (refine leT_tup (by repeat (first | exact leL_refl _ | refine leL_cons (by first | exact leT_refl _ | exact leT_virt | exact leT_junk _ | exact leT_sl | exact leT_sln | exact leT_nil) ?_))) | (refine leT_agg (by repeat (first | exact leL_refl _ | refine leL_cons (by first | exact leT_refl _ | exact leT_virt | exact leT_junk _ | exact leT_sl | exact leT_sln | exact leT_nil) ?_)))) | (first | exact leT_refl _ | exact leT_sl | exact leT_sln | exact leT_nil | (refine leT_tup (by repeat (first | exact leL_refl _ | refine leL_cons (by first | exact leT_refl _ | exact leT_virt | exact leT_junk _ | exact leT_sl | exact leT_sln | exact leT_nil) ?_))) | (refine leT_agg (by repeat (first | exact leL_refl _ | refine leL_cons (by first | exact leT_refl _ | exact leT_virt | exact leT_junk _ | exact leT_sl | exact leT_sln | exact leT_nil) ?_)))) | (simp only [List.append_assoc, List.cons_append, List.nil_append]; exact leT_refl _) | (rw [List.take_of_length_le (by simp)]; (try simp only [List.append_assoc, List.cons_append, List.nil_append]); exact leT_refl _)
end Go.Proofs.YtdfghdppbfabfaaDoorX

/- Texts cut at a byte: strings.Index, Count, Split, Cut of one byte. -/
set_option linter.unusedVariables false
set_option linter.unusedSimpArgs false
namespace Go.Proofs.YtdfghdppbfabfaaDoorX
open Go

def splitB (c : UInt8) : List UInt8 → List (List UInt8)
  | [] => [[]]
  | x :: l => if x = c then [] :: splitB c l else match splitB c l with
    | [] => [[x]]
    | y :: ys => (x :: y) :: ys
theorem split_ne (c : UInt8) : ∀ l, splitB c l ≠ []
  | [] => by simp [splitB]
  | x :: l => by
    rw [splitB]
    split
    · simp
    · split <;> simp
/-- Where a byte first stands. -/
theorem idx_cases (c : UInt8) : ∀ s : List UInt8, (Lib.indexByte s c = -1 ∧ c ∉ s ∧ s.count c = 0 ∧ splitB c s = [s]) ∨
    ∃ m : Nat, m < s.length ∧ Lib.indexByte s c = (m : Int) ∧ c ∉ s.take m ∧ s = s.take m ++ c :: s.drop (m + 1) ∧ s.count c = 1 + (s.drop (m + 1)).count c ∧ splitB c s = s.take m :: splitB c (s.drop (m + 1))
  | [] => .inl ⟨rfl, by simp, rfl, rfl⟩
  | x :: l => by
    by_cases h : x = c
    · subst h
      refine .inr ⟨0, by simp, ?_, by simp, by simp, by simp; omega, by simp [splitB]⟩
      rw [Lib.indexByte, beq_self_eq_true, if_pos rfl]; rfl
    · have hb : (x == c) = false := by rw [beq_eq_false_iff_ne]; exact h
      rcases idx_cases c l with ⟨h1, h2, h3, h4⟩ | ⟨m, h1, h2, h3, h4, h5, h6⟩
      · refine .inl ⟨?_, ?_, ?_, ?_⟩
        · rw [Lib.indexByte, hb, h1]; rfl
        · simp only [List.mem_cons, not_or]; exact ⟨fun e => h e.symm, h2⟩
        · rw [List.count_cons_of_ne h, h3]
        · rw [splitB, if_neg h, h4]
      · refine .inr ⟨m + 1, by simp; omega, ?_, ?_, ?_, ?_, ?_⟩
        · rw [Lib.indexByte, hb, h2]
          simp only [Bool.false_eq_true, if_false]
          rw [if_neg (by rw [beq_iff_eq]; omega)]; omega
        · rw [List.take_succ_cons]; simp only [List.mem_cons, not_or]; exact ⟨fun e => h e.symm, h3⟩
        · rw [List.take_succ_cons, List.drop_succ_cons, List.cons_append, ← h4]
        · rw [List.count_cons_of_ne h, List.drop_succ_cons, h5]
        · rw [splitB, if_neg h, h6, List.take_succ_cons, List.drop_succ_cons]
theorem Index_eq (n : Nat) (s : List UInt8) (c : UInt8) : F50 n s [c] = some (Lib.indexByte s c) := by
  rw [F50]
  show iteB false _ _ = _
  rw [iteB_f]
  by_cases h : ([c] : List UInt8) = s
  · rw [show (([c] : List UInt8) == s) = true by rw [beq_iff_eq]; exact h, iteB_t, ← h, Lib.indexByte, beq_self_eq_true]; rfl
  · rw [show (([c] : List UInt8) == s) = false by rw [beq_eq_false_iff_ne]; exact h, iteB_f]
    show iteB true _ _ = _
    rw [iteB_t, grd_t _ (by simp), F56, bind_some']
    show some (Lib.indexByte s (((c.toNat : Nat) : Int).toNat.toUInt8)) = _
    rw [toNat_nat, show c.toNat.toUInt8 = c by simp]
theorem sIndex_eq (n : Nat) (s : List UInt8) (c : UInt8) : F47 n s [c] = some (Lib.indexByte s c) := by rw [F47, Index_eq, bind_some']
theorem take_set' {α : Type} : ∀ (l : List α) (i : Nat) (x : α), i < l.length → (l.set i x).take (i + 1) = l.take i ++ [x]
  | [], i, x, h => by simp at h
  | a :: l, 0, x, h => by simp
  | a :: l, i + 1, x, h => by
    rw [List.set_cons_succ, List.take_succ_cons, List.take_succ_cons, List.cons_append, take_set' l i x (by simpa using h)]
theorem ev_gen (c : UInt8) (s0 : List UInt8) (N : Nat) (h0 : N ≤ s0.length + 1) (hN : s0.length ≤ 1000000) : ∀ (d : Nat) (s : List UInt8) (i : Nat) (row : List (List UInt8)), s.count c = d → i + d + 1 = N → row.length = N → s.length ≤ 1000000 →
    Ev (fun k => F34_L3 k [c] 0 s0 (N : Int) s (i : Int) row) (row.take i ++ splitB c s) := by
  have hmin : (if IntKind.wrap .i64 ((s0.length : Int) + 1) < (N : Int) then IntKind.wrap .i64 ((s0.length : Int) + 1) else (N : Int)) = (N : Int) := by
    rw [w64 (by omega), if_neg (by omega)]
  intro d
  induction d with
  | zero =>
    intro s i row hc hi hr hs
    rcases idx_cases c s with ⟨h1, h2, h3, h4⟩ | ⟨m, h1, h2, h3, h4, h5, h6⟩
    · rw [h4]
      refine Ev.step (Ev.pure.congr fun k => ?_)
      rw [F34_L3, hmin, w64 (n := (N : Int) - 1) (by omega), decide_eq_false (by omega), iteB_f, F34_J2, grd_t _ (by omega), toNat_nat, grd_t _ (by omega), w64 (n := (i : Int) + 1) (by omega), grd_t _ (by omega), show ((i : Int) + 1).toNat = i + 1 by omega, take_set' _ _ _ (by omega)]
    · omega
  | succ d ih =>
    intro s i row hc hi hr hs
    rcases idx_cases c s with ⟨h1, h2, h3, h4⟩ | ⟨m, h1, h2, h3, h4, h5, h6⟩
    · omega
    · have e := ih (s.drop (m + 1)) (i + 1) (row.set i (s.take m)) (by omega) (by omega) (by rw [List.length_set, hr]) (by rw [List.length_drop]; omega)
      rw [take_set' _ _ _ (by omega), List.append_assoc] at e
      rw [h6]
      refine Ev.step (e.congr fun k => ?_)
      rw [F34_L3, hmin, w64 (n := (N : Int) - 1) (by omega), decide_eq_true (by omega), iteB_t, sIndex_eq, bind_some', h2, decide_eq_false (by omega), iteB_f, w64 (n := (m : Int) + 0) (by omega)]
      rw [show (([c] : List UInt8).length : Int) = 1 from rfl, w64 (n := (m : Int) + 1) (by omega), w64 (n := (i : Int) + 1) (by omega), toNat_nat]
      rw [grd_t _ (by omega), grd_t _ (by omega), grd_t _ (by omega), grd_t _ (by omega)]
      rw [show ((m : Int) + 1).toNat = m + 1 by omega, show ((m : Int) + 0).toNat = m by omega, show (i : Int) + 1 = ((i + 1 : Nat) : Int) by omega]
theorem ev_Split (c : UInt8) (s : List UInt8) (hs : s.length ≤ 1000000) : Ev (fun k => F18 k s [c]) (splitB c s) := by
  have hcl : s.count c ≤ s.length := List.count_le_length
  have e := ev_gen c s (s.count c + 1) (by omega) hs (s.count c) s 0 (List.replicate (s.count c + 1) []) rfl (by omega) (by simp) hs
  rw [List.take_zero, List.nil_append] at e
  obtain ⟨N, hN⟩ := e
  refine ⟨N, fun n hn => ?_⟩
  have e := hN n hn
  dsimp only at e
  have w1 : IntKind.wrap .i64 (((Lib.countByte s c : Nat) : Int) + 1) = ((s.count c + 1 : Nat) : Int) := by
    unfold Lib.countByte
    rw [w64 (by omega)]; omega
  have hmin : (if IntKind.wrap .i64 ((s.length : Int) + 1) < ((s.count c + 1 : Nat) : Int) then IntKind.wrap .i64 ((s.length : Int) + 1) else ((s.count c + 1 : Nat) : Int)) = ((s.count c + 1 : Nat) : Int) := by
    rw [w64 (by omega), if_neg (by omega)]
  show F18 n s [c] = _
  rw [F18, F34]
  show (iteB false _ (iteB false _ (iteB true _ _))).bind _ = _
  rw [iteB_f, iteB_f, iteB_t, F46]
  show ((some ((Lib.countByte s c : Nat) : Int)).bind _).bind _ = _
  rw [bind_some', w1, F34_J1, hmin, toNat_nat, grd_t _ (by omega)]
  show (F34_L3 n [c] 0 s _ s ((0 : Nat) : Int) _).bind _ = _
  rw [e, bind_some']
def cutB (c : UInt8) (s : List UInt8) : List UInt8 × List UInt8 × Bool := if c ∈ s then (s.take (Lib.indexByte s c).toNat, s.drop ((Lib.indexByte s c).toNat + 1), true) else (s, [], false)
theorem Cut_eq (n : Nat) (s : List UInt8) (c : UInt8) (hs : s.length ≤ 1000000) : F24 n s [c] = some (cutB c s) := by
  unfold cutB
  rw [F24, F39, Index_eq, bind_some', show (([c] : List UInt8).length : Int) = 1 from rfl]
  rcases idx_cases c s with ⟨h1, h2, h3, h4⟩ | ⟨m, h1, h2, h3, h4, h5, h6⟩
  · rw [if_neg h2, h1]; rfl
  · have hm : c ∈ s := by rw [h4]; simp
    rw [if_pos hm, h2, decide_eq_true (by omega), iteB_t, w64 (by omega), grd_t _ (by omega), grd_t _ (by omega), bind_some', show ((m : Int) + 1).toNat = m + 1 by omega, toNat_nat]
/-- Where a byte is not ahead of its first place. -/
theorem idx_app (c : UInt8) (b : List UInt8) : ∀ a : List UInt8, c ∉ a → Lib.indexByte (a ++ c :: b) c = (a.length : Int)
  | [], _ => by rw [List.nil_append, Lib.indexByte, beq_self_eq_true, if_pos rfl]; rfl
  | x :: a, h => by
    simp only [List.mem_cons, not_or] at h
    rw [List.cons_append, Lib.indexByte, show (x == c) = false by (rw [beq_eq_false_iff_ne]; exact fun e => h.1 e.symm), idx_app c b a h.2]
    simp only [Bool.false_eq_true, if_false]
    rw [if_neg (by rw [beq_iff_eq]; omega), List.length_cons]; omega
theorem cut_app (c : UInt8) (a b : List UInt8) (h : c ∉ a) : cutB c (a ++ c :: b) = (a, b, true) := by
  unfold cutB
  rw [if_pos (by simp), idx_app c b a h, toNat_nat, List.take_left']
  · rw [show a.length + 1 = (a ++ [c]).length by simp, show a ++ c :: b = (a ++ [c]) ++ b by simp, List.drop_left']; rfl
  · rfl
theorem cut_none (c : UInt8) (a : List UInt8) (h : c ∉ a) : cutB c a = (a, [], false) := by unfold cutB; rw [if_neg h]
end Go.Proofs.YtdfghdppbfabfaaDoorX

/- hex.Decimal: what it answers. -/
set_option linter.unusedVariables false
set_option linter.unusedSimpArgs false
namespace Go.Proofs.YtdfghdppbfabfaaDoorX
open Go

/-- The digits of a number, the last one first. -/
def dgR (n : Nat) : List Int := if n < 10 then [48 + (n : Int)] else (48 + ((n % 10 : Nat) : Int)) :: dgR (n / 10)
theorem dgR_lt {n : Nat} (h : n < 10) : dgR n = [48 + (n : Int)] := by rw [dgR, if_pos h]
theorem dgR_ge {n : Nat} (h : ¬ n < 10) : dgR n = (48 + ((n % 10 : Nat) : Int)) :: dgR (n / 10) := by rw [dgR, if_neg h]
theorem dgR_len : ∀ (k n : Nat), n < 10 ^ (k + 1) → (dgR n).length ≤ k + 1
  | 0, n, h => by rw [dgR_lt (by omega)]; simp
  | k + 1, n, h => by
    by_cases h1 : n < 10
    · rw [dgR_lt h1]; simp
    · rw [dgR_ge h1, List.length_cons]
      have := dgR_len k (n / 10) (by rw [Nat.pow_succ] at h; omega)
      omega
theorem dgR_pos (n : Nat) : 0 < (dgR n).length := by
  by_cases h : n < 10
  · rw [dgR_lt h]; simp
  · rw [dgR_ge h]; simp
/-- A number's text. -/
def decI (n : Int) : List Int := (if n < 0 then dgR n.natAbs ++ [45] else dgR n.natAbs).reverse
def decT (n : Int) : List UInt8 := (decI n).map toB

def rvI (l0 : List Int) (i : Nat) (l : List Int) : Prop := l.length = l0.length ∧ ∀ k, k < l0.length → l.getD k 0 = if k < i ∨ l0.length - i ≤ k then l0.getD (l0.length - 1 - k) 0 else l0.getD k 0
theorem rv_end {l0 l : List Int} {i : Nat} (h : rvI l0 i l) (hi : l0.length ≤ 2 * i + 1) : l = l0.reverse := by
  obtain ⟨h1, h2⟩ := h
  apply List.ext_getElem
  · rw [h1, List.length_reverse]
  · intro k hk1 hk2
    have hk : k < l0.length := by omega
    have h3 := h2 k hk
    rw [List.getD_eq_getElem?_getD, List.getElem?_eq_getElem hk1] at h3
    rw [List.getElem_reverse]
    rw [show l[k] = (some l[k]).getD 0 from rfl, h3]
    split
    · rw [List.getD_eq_getElem?_getD, List.getElem?_eq_getElem (by omega)]; rfl
    · have e : l0.length - 1 - k = k := by omega
      rw [List.getD_eq_getElem?_getD, List.getElem?_eq_getElem (by omega)]
      simp only [e]; rfl
theorem rv_step {l0 l : List Int} {i j : Nat} (h : rvI l0 i l) (hj : i + j + 1 = l0.length) (hij : i < j) : rvI l0 (i + 1) ((l.set i (l.getD j 0)).set j (l.getD i 0)) := by
  obtain ⟨h1, h2⟩ := h
  refine ⟨by simp [h1], fun k hk => ?_⟩
  have gi := h2 i (by omega)
  have gj := h2 j (by omega)
  rw [if_neg (by omega)] at gi gj
  rw [List.getD_eq_getElem?_getD, List.getElem?_set]
  by_cases hkj : j = k
  · subst hkj
    rw [if_pos rfl, List.length_set, if_pos (by omega), Option.getD_some, gi, if_pos (by omega), show l0.length - 1 - j = i by omega]
  · rw [if_neg hkj, List.getElem?_set]
    by_cases hki : i = k
    · subst hki
      rw [if_pos rfl, if_pos (by omega), Option.getD_some, gj, if_pos (by omega), show l0.length - 1 - i = j by omega]
    · rw [if_neg hki, ← List.getD_eq_getElem?_getD, h2 k hk]
      by_cases hc : k < i ∨ l0.length - i ≤ k
      · rw [if_pos hc, if_pos (by omega)]
      · rw [if_neg hc, if_neg (by omega)]
theorem ev_rev (l0 : List Int) (hl : l0.length ≤ 1000) : ∀ (d i : Nat) (l : List Int), l0.length ≤ 2 * i + d → i ≤ l0.length → rvI l0 i l →
    Ev (fun n => F7_L4 n (i : Int) ((l0.length : Int) - 1 - i) l) (l0.reverse.map toB) := by
  intro d
  induction d with
  | zero =>
    intro i l hd hi h
    refine Ev.step (Ev.pure.congr fun n => ?_)
    have d1 : decide ((i : Int) < (l0.length : Int) - 1 - i) = false := decide_eq_false (by omega)
    simp only [F7_L4, d1, iteB_f]
    rw [rv_end h (by omega)]
  | succ d ih =>
    intro i l hd hi h
    refine Ev.step ?_
    by_cases hlt : (i : Int) < (l0.length : Int) - 1 - i
    · obtain ⟨j, hj⟩ : ∃ j : Nat, (l0.length : Int) - 1 - i = j := ⟨((l0.length : Int) - 1 - i).toNat, by omega⟩
      have d1 : decide ((i : Int) < (j : Int)) = true := decide_eq_true (by omega)
      have hll := h.1
      have w1 : IntKind.wrap .i64 ((i : Int) + 1) = ((i + 1 : Nat) : Int) := by rw [w64 (by omega)]; omega
      have w2 : IntKind.wrap .i64 ((j : Int) - 1) = (l0.length : Int) - 1 - ((i + 1 : Nat) : Int) := by rw [w64 (by omega)]; omega
      have e := ih (i + 1) _ (by omega) (by omega) (rv_step (j := j) h (by omega) (by omega))
      rw [hj]
      refine e.congr fun n => ?_
      simp only [F7_L4, d1, iteB_t, toNat_nat, w1, w2]
      have g1 : (0 ≤ (j : Int) ∧ (j : Int) < (l.length : Int)) := by omega
      have g2 : (0 ≤ (i : Int) ∧ (i : Int) < (l.length : Int)) := by omega
      have g3 : j < l.length := by omega
      have g4 : i < l.length := by omega
      rw [grd_t _ g1, grd_t _ g3, grd_t _ g2, grd_t _ g4, grd_t _ g2, grd_t _ g4, grd_t _ g1, grd_t _ g3]
      rfl
    · refine Ev.pure.congr fun n => ?_
      have d1 : decide ((i : Int) < (l0.length : Int) - 1 - i) = false := decide_eq_false hlt
      simp only [F7_L4, d1, iteB_f]
      rw [rv_end h (by omega)]
theorem ev_J3 (l : List Int) (h0 : 0 < l.length) (hl : l.length ≤ 1000) : Ev (fun n => F7_J3 n l) (l.reverse.map toB) := by
  have w1 : IntKind.wrap .i64 ((l.length : Int) - 1) = (l.length : Int) - 1 - ((0 : Nat) : Int) := by rw [w64 (by omega)]; omega
  refine (ev_rev l hl l.length 0 l (by omega) (by omega) ⟨rfl, fun k hk => by rw [if_neg (by omega)]⟩).congr fun n => ?_
  simp only [F7_J3, w1]; rfl
theorem digitAt (r : Nat) (h : r < 10) : ((([48, 49, 50, 51, 52, 53, 54, 55, 56, 57, 97, 98, 99, 100, 101, 102] : List UInt8).getD r 0).toNat : Int) = 48 + r := by
  have : ∀ r : Fin 10, ((([48, 49, 50, 51, 52, 53, 54, 55, 56, 57, 97, 98, 99, 100, 101, 102] : List UInt8).getD r.val 0).toNat : Int) = 48 + r.val := by decide
  exact this ⟨r, h⟩
theorem ev_digs (a : Int) : ∀ (k m : Nat) (l : List Int), m < 10 ^ (k + 1) → m < 10000000000000000000 → l.length + k ≤ 100 → Ev (fun n => F7_L2 n a (m : Int) l) ((if a < 0 then l ++ dgR m ++ [45] else l ++ dgR m).reverse.map toB) := by
  intro k
  induction k with
  | zero =>
    intro m l hm hb hl
    have hm' : m < 10 := by omega
    refine Ev.step ?_
    have e1 : (m : Int).tmod 10 = m := by rw [Int.tmod_eq_emod_of_nonneg (by omega)]; omega
    have e2 : (m : Int).tdiv 10 = 0 := by rw [Int.tdiv_eq_ediv_of_nonneg (by omega)]; omega
    have e3 : (IntKind.wrap .u64 0 == (0 : Int)) = true := by rw [wu64 (by omega)]; rfl
    rw [dgR_lt hm']
    by_cases ha : a < 0
    · rw [if_pos ha]
      refine (ev_J3 (l ++ [48 + (m : Int)] ++ [45]) (by simp) (by simp; omega)).congr fun n => ?_
      simp only [F7_L2, e1, e2, e3, toNat_nat, digitAt m hm', decide_eq_true ha, iteB_t]
      rw [grd_t _ (by omega), grd_t _ (by omega), grd_t _ (by omega)]
    · rw [if_neg ha]
      refine (ev_J3 (l ++ [48 + (m : Int)]) (by simp) (by simp; omega)).congr fun n => ?_
      simp only [F7_L2, e1, e2, e3, toNat_nat, digitAt m hm', decide_eq_false ha, iteB_t, iteB_f]
      rw [grd_t _ (by omega), grd_t _ (by omega)]
  | succ k ih =>
    intro m l hm hb hl
    by_cases hm' : m < 10
    · have := ih m l (by have : 10 ^ 1 ≤ 10 ^ (k + 1) := Nat.pow_le_pow_right (by omega) (by omega); omega) hb (by omega)
      exact this
    refine Ev.step ?_
    have e1 : (m : Int).tmod 10 = ((m % 10 : Nat) : Int) := by rw [Int.tmod_eq_emod_of_nonneg (by omega)]; omega
    have e2 : (m : Int).tdiv 10 = ((m / 10 : Nat) : Int) := by rw [Int.tdiv_eq_ediv_of_nonneg (by omega)]; omega
    have e4 : IntKind.wrap .u64 ((m / 10 : Nat) : Int) = ((m / 10 : Nat) : Int) := wu64 (by omega)
    have e3 : (((m / 10 : Nat) : Int) == (0 : Int)) = false := by rw [beq_eq_false_iff_ne]; omega
    have := ih (m / 10) (l ++ [48 + ((m % 10 : Nat) : Int)]) (by rw [Nat.pow_succ] at hm; omega) (by omega) (by simp; omega)
    rw [dgR_ge hm']
    rw [show (if a < 0 then l ++ (48 + ((m % 10 : Nat) : Int)) :: dgR (m / 10) ++ [45] else l ++ (48 + ((m % 10 : Nat) : Int)) :: dgR (m / 10)) = (if a < 0 then l ++ [48 + ((m % 10 : Nat) : Int)] ++ dgR (m / 10) ++ [45] else l ++ [48 + ((m % 10 : Nat) : Int)] ++ dgR (m / 10)) by simp]
    refine this.congr fun n => ?_
    simp only [F7_L2, e1, e2, e4, e3, toNat_nat, digitAt (m % 10) (by omega), iteB_f]
    rw [grd_t _ (by omega), grd_t _ (by omega)]
theorem ev_Decimal (a : Int) (h : -9223372036854775808 ≤ a ∧ a ≤ 9223372036854775807) : Ev (fun n => F7 n a) (decT a) := by
  have hd := ev_digs a 19 a.natAbs [] (by omega) (by omega) (by simp)
  simp only [List.nil_append] at hd
  unfold decT decI
  refine hd.congr fun n => ?_
  have hw : ∀ x : Int, IntKind.wrap .u64 x = x % 18446744073709551616 := fun x => rfl
  by_cases ha : a < 0
  · have e : IntKind.wrap .u64 (0 - IntKind.wrap .u64 a) = (a.natAbs : Int) := by rw [hw, hw]; omega
    simp only [F7, F7_J1, decide_eq_true ha, iteB_t, e]
  · have e : IntKind.wrap .u64 a = (a.natAbs : Int) := by rw [hw]; omega
    simp only [F7, F7_J1, decide_eq_false ha, iteB_f, e]
end Go.Proofs.YtdfghdppbfabfaaDoorX

set_option linter.unusedVariables false
set_option linter.unusedSimpArgs false
namespace Go.Proofs.YtdfghdppbfabfaaDoorX
open Go Go.RowKit Go.Proofs
set_option maxRecDepth 100000
/-! ### name.Split -/
def F11 (n : Nat) (a0 : List UInt8) : Option ((List UInt8) × (List UInt8) × (Bool)) := (F24 n a0 ([64] : List UInt8)).bind fun v1 => (F9 n v1.1).bind fun v2 => iteB (v2 != (0 : Int)) (some ([], [], false)) (iteB v1.2.2 ((F9 n v1.2.1).bind fun v5 => iteB (v5 != (0 : Int)) (some ([], [], false)) (some (v1.1, v1.2.1, true))) (some (v1.1, v1.2.1, true)))
set_option maxHeartbeats 4000000 in
theorem F11_ok : ∀ (n : Nat) (a0 : List UInt8) (r : (List UInt8) × (List UInt8) × (Bool)), F11 n a0 = some r → FnC Tryd.prog 11 [.imm (.string (bs a0))] (.tup [.imm (.string (bs r.1)), .imm (.string (bs r.2.1)), .imm (.bool r.2.2)])
  | n, a0, r, h => by
    unfold F11 at h
    refine FnC.goX mixed Tryd.func11 (by kernel_rfl) rfl ?_
    simp only [Tryd.ntmps11, List.length_cons, List.length_nil, List.replicate, List.cons_append, List.nil_append, Nat.reduceAdd, Nat.reduceSub]
    refine runX_seq ?_
    refine runX_regionC fun C hC => ?_
    try simp -implicitDefEqProofs (maxSteps := 4000000) (disch := first | omega | decide | (simp only [go_sem]; omega)) only [go_sem, ↓reduceIte, String.reduceEq, String.reduceNe, reduceCtorEq, Int.reduceEq, Nat.reduceAdd, Nat.reduceSub, Nat.reduceMul, Nat.reduceLT, Nat.reduceLeDiff, Nat.reduceEqDiff, Nat.reduceBEq, Int.reduceToNat, Int.reduceLT, Int.reduceLE, Int.reduceGT, Int.reduceGE, Int.reduceAdd, Int.reduceSub, Int.reduceMul, Int.reduceNeg, Int.reduceBEq, Int.reduceBNe, Int.reducePow, Int.reduceDiv, Int.reduceMod, Int.reduceTDiv, Int.reduceTMod, Int.reduceNatCast]
    repeat (with_reducible refine And.intro (by first | assumption | omega | (simp; done) | (simp; omega)) ?_)
    refine toEnd hC ?_
    refine endX_seq ?_
    refine runX_seq ?_
    refine runX_regionC fun C hC => ?_
    obtain ⟨v1, h1, h⟩ := bnd_some h
    try simp -implicitDefEqProofs (maxSteps := 4000000) (disch := first | omega | decide | (simp only [go_sem]; omega)) only [go_sem, ↓reduceIte, String.reduceEq, String.reduceNe, reduceCtorEq, Int.reduceEq, Nat.reduceAdd, Nat.reduceSub, Nat.reduceMul, Nat.reduceLT, Nat.reduceLeDiff, Nat.reduceEqDiff, Nat.reduceBEq, Int.reduceToNat, Int.reduceLT, Int.reduceLE, Int.reduceGT, Int.reduceGE, Int.reduceAdd, Int.reduceSub, Int.reduceMul, Int.reduceNeg, Int.reduceBEq, Int.reduceBNe, Int.reducePow, Int.reduceDiv, Int.reduceMod, Int.reduceTDiv, Int.reduceTMod, Int.reduceNatCast]
    repeat (with_reducible refine And.intro (by first | assumption | omega | (simp; done) | (simp; omega)) ?_)
    refine callG_X (F24_ok n a0 ([64] : List UInt8) _ h1) (by repeat (first | exact leL_refl _ | refine leL_cons (by first | exact leT_refl _ | exact leT_virt | exact leT_junk _ | exact leT_sl | exact leT_sln | exact leT_nil) ?_)) ?_
    try simp -implicitDefEqProofs (maxSteps := 4000000) (disch := first | omega | decide | (simp only [go_sem]; omega)) only [go_sem, ↓reduceIte, String.reduceEq, String.reduceNe, reduceCtorEq, Int.reduceEq, Nat.reduceAdd, Nat.reduceSub, Nat.reduceMul, Nat.reduceLT, Nat.reduceLeDiff, Nat.reduceEqDiff, Nat.reduceBEq, Int.reduceToNat, Int.reduceLT, Int.reduceLE, Int.reduceGT, Int.reduceGE, Int.reduceAdd, Int.reduceSub, Int.reduceMul, Int.reduceNeg, Int.reduceBEq, Int.reduceBNe, Int.reducePow, Int.reduceDiv, Int.reduceMod, Int.reduceTDiv, Int.reduceTMod, Int.reduceNatCast]
    repeat (with_reducible refine And.intro (by first | assumption | omega | (simp; done) | (simp; omega)) ?_)
    refine toEnd hC ?_
    refine endX_seq ?_
    refine runX_seq ?_
    refine runX_seq ?_
    refine runX_regionC fun C hC => ?_
    obtain ⟨v2, h2, h⟩ := bnd_some h
    try simp -implicitDefEqProofs (maxSteps := 4000000) (disch := first | omega | decide | (simp only [go_sem]; omega)) only [go_sem, ↓reduceIte, String.reduceEq, String.reduceNe, reduceCtorEq, Int.reduceEq, Nat.reduceAdd, Nat.reduceSub, Nat.reduceMul, Nat.reduceLT, Nat.reduceLeDiff, Nat.reduceEqDiff, Nat.reduceBEq, Int.reduceToNat, Int.reduceLT, Int.reduceLE, Int.reduceGT, Int.reduceGE, Int.reduceAdd, Int.reduceSub, Int.reduceMul, Int.reduceNeg, Int.reduceBEq, Int.reduceBNe, Int.reducePow, Int.reduceDiv, Int.reduceMod, Int.reduceTDiv, Int.reduceTMod, Int.reduceNatCast]
    repeat (with_reducible refine And.intro (by first | assumption | omega | (simp; done) | (simp; omega)) ?_)
    refine callG_X (F9_ok n v1.1 _ h2) (by repeat (first | exact leL_refl _ | refine leL_cons (by first | exact leT_refl _ | exact leT_virt | exact leT_junk _ | exact leT_sl | exact leT_sln | exact leT_nil) ?_)) ?_
    try simp -implicitDefEqProofs (maxSteps := 4000000) (disch := first | omega | decide | (simp only [go_sem]; omega)) only [go_sem, ↓reduceIte, String.reduceEq, String.reduceNe, reduceCtorEq, Int.reduceEq, Nat.reduceAdd, Nat.reduceSub, Nat.reduceMul, Nat.reduceLT, Nat.reduceLeDiff, Nat.reduceEqDiff, Nat.reduceBEq, Int.reduceToNat, Int.reduceLT, Int.reduceLE, Int.reduceGT, Int.reduceGE, Int.reduceAdd, Int.reduceSub, Int.reduceMul, Int.reduceNeg, Int.reduceBEq, Int.reduceBNe, Int.reducePow, Int.reduceDiv, Int.reduceMod, Int.reduceTDiv, Int.reduceTMod, Int.reduceNatCast]
    repeat (with_reducible refine And.intro (by first | assumption | omega | (simp; done) | (simp; omega)) ?_)
    rcases iteB_some h with ⟨c3, h⟩ | ⟨c3, h⟩
    · refine guardK_F c3 ?_
      try simp -implicitDefEqProofs (maxSteps := 4000000) (disch := first | omega | decide | (simp only [go_sem]; omega)) only [go_sem, ↓reduceIte, String.reduceEq, String.reduceNe, reduceCtorEq, Int.reduceEq, Nat.reduceAdd, Nat.reduceSub, Nat.reduceMul, Nat.reduceLT, Nat.reduceLeDiff, Nat.reduceEqDiff, Nat.reduceBEq, Int.reduceToNat, Int.reduceLT, Int.reduceLE, Int.reduceGT, Int.reduceGE, Int.reduceAdd, Int.reduceSub, Int.reduceMul, Int.reduceNeg, Int.reduceBEq, Int.reduceBNe, Int.reducePow, Int.reduceDiv, Int.reduceMod, Int.reduceTDiv, Int.reduceTMod, Int.reduceNatCast]
      repeat (with_reducible refine And.intro (by first | assumption | omega | (simp; done) | (simp; omega)) ?_)
      refine toEnd hC ?_
      refine endX_seq ?_
      refine runX_condT rfl rfl ?_
      refine runX_seq ?_
      refine runX_regionC fun C hC => ?_
      try simp -implicitDefEqProofs (maxSteps := 4000000) (disch := first | omega | decide | (simp only [go_sem]; omega)) only [go_sem, ↓reduceIte, String.reduceEq, String.reduceNe, reduceCtorEq, Int.reduceEq, Nat.reduceAdd, Nat.reduceSub, Nat.reduceMul, Nat.reduceLT, Nat.reduceLeDiff, Nat.reduceEqDiff, Nat.reduceBEq, Int.reduceToNat, Int.reduceLT, Int.reduceLE, Int.reduceGT, Int.reduceGE, Int.reduceAdd, Int.reduceSub, Int.reduceMul, Int.reduceNeg, Int.reduceBEq, Int.reduceBNe, Int.reducePow, Int.reduceDiv, Int.reduceMod, Int.reduceTDiv, Int.reduceTMod, Int.reduceNatCast]
      repeat (with_reducible refine And.intro (by first | assumption | omega | (simp; done) | (simp; omega)) ?_)
      refine toEnd hC ?_
      refine endX_seq ?_
      refine runX_ret ?_
      refine endX_seqR ?_
      refine endX_q ?_
      obtain rfl := Option.some.inj h
      show RetW _ _ _ _ _
      simp only [RetW]
      (try simp -implicitDefEqProofs (maxSteps := 4000000) (disch := first | omega | decide | (simp only [go_sem]; omega)) only [go_sem, ↓reduceIte, String.reduceEq, String.reduceNe, reduceCtorEq, Int.reduceEq, Nat.reduceAdd, Nat.reduceSub, Nat.reduceMul, Nat.reduceLT, Nat.reduceLeDiff, Nat.reduceEqDiff, Nat.reduceBEq, Int.reduceToNat, Int.reduceLT, Int.reduceLE, Int.reduceGT, Int.reduceGE, Int.reduceAdd, Int.reduceSub, Int.reduceMul, Int.reduceNeg, Int.reduceBEq, Int.reduceBNe, Int.reducePow, Int.reduceDiv, Int.reduceMod, Int.reduceTDiv, Int.reduceTMod, Int.reduceNatCast])
      (try simp (disch := omega) only [if_pos, Nat.sub_zero])
      first | exact leT_refl _ | (refine ⟨rfl, ?_⟩; first | exact leT_refl _ | exact leT_sl | exact leT_sln | exact leT_nil | (refine leT_tup (by repeat (first | exact leL_refl _ | refine leL_cons (by first | exact leT_refl _ | exact leT_virt | exact leT_junk _ | exact leT_sl | exact leT_sln | exact leT_nil) ?_))) | (refine leT_agg (by repeat (first | exact leL_refl _ | refine leL_cons (by first | exact leT_refl _ | exact leT_virt | exact leT_junk _ | exact leT_sl | exact leT_sln | exact leT_nil) ?_)))) | (first | exact leT_refl _ | exact leT_sl | exact leT_sln | exact leT_nil | (refine leT_tup (by repeat (first | exact leL_refl _ | refine leL_cons (by first | exact leT_refl _ | exact leT_virt | exact leT_junk _ | exact leT_sl | exact leT_sln | exact leT_nil) ?_))) | (refine leT_agg (by repeat (first | exact leL_refl _ | refine leL_cons (by first | exact leT_refl _ | exact leT_virt | exact leT_junk _ | exact leT_sl | exact leT_sln | exact leT_nil) ?_)))) | (simp only [List.append_assoc, List.cons_append, List.nil_append]; exact leT_refl _) | (rw [List.take_of_length_le (by simp)]; (try simp only [List.append_assoc, List.cons_append, List.nil_append]); exact leT_refl _)
    · refine guardK_T c3 ?_
      try simp -implicitDefEqProofs (maxSteps := 4000000) (disch := first | omega | decide | (simp only [go_sem]; omega)) only [go_sem, ↓reduceIte, String.reduceEq, String.reduceNe, reduceCtorEq, Int.reduceEq, Nat.reduceAdd, Nat.reduceSub, Nat.reduceMul, Nat.reduceLT, Nat.reduceLeDiff, Nat.reduceEqDiff, Nat.reduceBEq, Int.reduceToNat, Int.reduceLT, Int.reduceLE, Int.reduceGT, Int.reduceGE, Int.reduceAdd, Int.reduceSub, Int.reduceMul, Int.reduceNeg, Int.reduceBEq, Int.reduceBNe, Int.reducePow, Int.reduceDiv, Int.reduceMod, Int.reduceTDiv, Int.reduceTMod, Int.reduceNatCast]
      repeat (with_reducible refine And.intro (by first | assumption | omega | (simp; done) | (simp; omega)) ?_)
      rcases iteB_some h with ⟨c4, h⟩ | ⟨c4, h⟩
      · refine guardK_T c4 ?_
        obtain ⟨v5, h5, h⟩ := bnd_some h
        try simp -implicitDefEqProofs (maxSteps := 4000000) (disch := first | omega | decide | (simp only [go_sem]; omega)) only [go_sem, ↓reduceIte, String.reduceEq, String.reduceNe, reduceCtorEq, Int.reduceEq, Nat.reduceAdd, Nat.reduceSub, Nat.reduceMul, Nat.reduceLT, Nat.reduceLeDiff, Nat.reduceEqDiff, Nat.reduceBEq, Int.reduceToNat, Int.reduceLT, Int.reduceLE, Int.reduceGT, Int.reduceGE, Int.reduceAdd, Int.reduceSub, Int.reduceMul, Int.reduceNeg, Int.reduceBEq, Int.reduceBNe, Int.reducePow, Int.reduceDiv, Int.reduceMod, Int.reduceTDiv, Int.reduceTMod, Int.reduceNatCast]
        repeat (with_reducible refine And.intro (by first | assumption | omega | (simp; done) | (simp; omega)) ?_)
        refine callG_X (F9_ok n v1.2.1 _ h5) (by repeat (first | exact leL_refl _ | refine leL_cons (by first | exact leT_refl _ | exact leT_virt | exact leT_junk _ | exact leT_sl | exact leT_sln | exact leT_nil) ?_)) ?_
        try simp -implicitDefEqProofs (maxSteps := 4000000) (disch := first | omega | decide | (simp only [go_sem]; omega)) only [go_sem, ↓reduceIte, String.reduceEq, String.reduceNe, reduceCtorEq, Int.reduceEq, Nat.reduceAdd, Nat.reduceSub, Nat.reduceMul, Nat.reduceLT, Nat.reduceLeDiff, Nat.reduceEqDiff, Nat.reduceBEq, Int.reduceToNat, Int.reduceLT, Int.reduceLE, Int.reduceGT, Int.reduceGE, Int.reduceAdd, Int.reduceSub, Int.reduceMul, Int.reduceNeg, Int.reduceBEq, Int.reduceBNe, Int.reducePow, Int.reduceDiv, Int.reduceMod, Int.reduceTDiv, Int.reduceTMod, Int.reduceNatCast]
        repeat (with_reducible refine And.intro (by first | assumption | omega | (simp; done) | (simp; omega)) ?_)
        refine toEnd hC ?_
        refine endX_seq ?_
        rcases iteB_some h with ⟨c6, h⟩ | ⟨c6, h⟩
        · refine runX_condT rfl c6 ?_
          refine runX_seq ?_
          refine runX_regionC fun C hC => ?_
          try simp -implicitDefEqProofs (maxSteps := 4000000) (disch := first | omega | decide | (simp only [go_sem]; omega)) only [go_sem, ↓reduceIte, String.reduceEq, String.reduceNe, reduceCtorEq, Int.reduceEq, Nat.reduceAdd, Nat.reduceSub, Nat.reduceMul, Nat.reduceLT, Nat.reduceLeDiff, Nat.reduceEqDiff, Nat.reduceBEq, Int.reduceToNat, Int.reduceLT, Int.reduceLE, Int.reduceGT, Int.reduceGE, Int.reduceAdd, Int.reduceSub, Int.reduceMul, Int.reduceNeg, Int.reduceBEq, Int.reduceBNe, Int.reducePow, Int.reduceDiv, Int.reduceMod, Int.reduceTDiv, Int.reduceTMod, Int.reduceNatCast]
          repeat (with_reducible refine And.intro (by first | assumption | omega | (simp; done) | (simp; omega)) ?_)
          refine toEnd hC ?_
          refine endX_seq ?_
          refine runX_ret ?_
          refine endX_seqR ?_
          refine endX_q ?_
          obtain rfl := Option.some.inj h
          show RetW _ _ _ _ _
          simp only [RetW]
          (try simp -implicitDefEqProofs (maxSteps := 4000000) (disch := first | omega | decide | (simp only [go_sem]; omega)) only [go_sem, ↓reduceIte, String.reduceEq, String.reduceNe, reduceCtorEq, Int.reduceEq, Nat.reduceAdd, Nat.reduceSub, Nat.reduceMul, Nat.reduceLT, Nat.reduceLeDiff, Nat.reduceEqDiff, Nat.reduceBEq, Int.reduceToNat, Int.reduceLT, Int.reduceLE, Int.reduceGT, Int.reduceGE, Int.reduceAdd, Int.reduceSub, Int.reduceMul, Int.reduceNeg, Int.reduceBEq, Int.reduceBNe, Int.reducePow, Int.reduceDiv, Int.reduceMod, Int.reduceTDiv, Int.reduceTMod, Int.reduceNatCast])
          (try simp (disch := omega) only [if_pos, Nat.sub_zero])
          first | exact leT_refl _ | (refine ⟨rfl, ?_⟩; first | exact leT_refl _ | exact leT_sl | exact leT_sln | exact leT_nil | (refine leT_tup (by repeat (first | exact leL_refl _ | refine leL_cons (by first | exact leT_refl _ | exact leT_virt | exact leT_junk _ | exact leT_sl | exact leT_sln | exact leT_nil) ?_))) | (refine leT_agg (by repeat (first | exact leL_refl _ | refine leL_cons (by first | exact leT_refl _ | exact leT_virt | exact leT_junk _ | exact leT_sl | exact leT_sln | exact leT_nil) ?_)))) | (first | exact leT_refl _ | exact leT_sl | exact leT_sln | exact leT_nil | (refine leT_tup (by repeat (first | exact leL_refl _ | refine leL_cons (by first | exact leT_refl _ | exact leT_virt | exact leT_junk _ | exact leT_sl | exact leT_sln | exact leT_nil) ?_))) | (refine leT_agg (by repeat (first | exact leL_refl _ | refine leL_cons (by first | exact leT_refl _ | exact leT_virt | exact leT_junk _ | exact leT_sl | exact leT_sln | exact leT_nil) ?_)))) | (simp only [List.append_assoc, List.cons_append, List.nil_append]; exact leT_refl _) | (rw [List.take_of_length_le (by simp)]; (try simp only [List.append_assoc, List.cons_append, List.nil_append]); exact leT_refl _)
        · refine runX_condF rfl c6 ?_
          refine runX_skip ?_
          refine endX_seq ?_
          refine runX_seq ?_
          refine runX_regionC fun C hC => ?_
          try simp -implicitDefEqProofs (maxSteps := 4000000) (disch := first | omega | decide | (simp only [go_sem]; omega)) only [go_sem, ↓reduceIte, String.reduceEq, String.reduceNe, reduceCtorEq, Int.reduceEq, Nat.reduceAdd, Nat.reduceSub, Nat.reduceMul, Nat.reduceLT, Nat.reduceLeDiff, Nat.reduceEqDiff, Nat.reduceBEq, Int.reduceToNat, Int.reduceLT, Int.reduceLE, Int.reduceGT, Int.reduceGE, Int.reduceAdd, Int.reduceSub, Int.reduceMul, Int.reduceNeg, Int.reduceBEq, Int.reduceBNe, Int.reducePow, Int.reduceDiv, Int.reduceMod, Int.reduceTDiv, Int.reduceTMod, Int.reduceNatCast]
          repeat (with_reducible refine And.intro (by first | assumption | omega | (simp; done) | (simp; omega)) ?_)
          refine toEnd hC ?_
          refine endX_seq ?_
          refine runX_ret ?_
          refine endX_q ?_
          obtain rfl := Option.some.inj h
          show RetW _ _ _ _ _
          simp only [RetW]
          (try simp -implicitDefEqProofs (maxSteps := 4000000) (disch := first | omega | decide | (simp only [go_sem]; omega)) only [go_sem, ↓reduceIte, String.reduceEq, String.reduceNe, reduceCtorEq, Int.reduceEq, Nat.reduceAdd, Nat.reduceSub, Nat.reduceMul, Nat.reduceLT, Nat.reduceLeDiff, Nat.reduceEqDiff, Nat.reduceBEq, Int.reduceToNat, Int.reduceLT, Int.reduceLE, Int.reduceGT, Int.reduceGE, Int.reduceAdd, Int.reduceSub, Int.reduceMul, Int.reduceNeg, Int.reduceBEq, Int.reduceBNe, Int.reducePow, Int.reduceDiv, Int.reduceMod, Int.reduceTDiv, Int.reduceTMod, Int.reduceNatCast])
          (try simp (disch := omega) only [if_pos, Nat.sub_zero])
          first | exact leT_refl _ | (refine ⟨rfl, ?_⟩; first | exact leT_refl _ | exact leT_sl | exact leT_sln | exact leT_nil | (refine leT_tup (by repeat (first | exact leL_refl _ | refine leL_cons (by first | exact leT_refl _ | exact leT_virt | exact leT_junk _ | exact leT_sl | exact leT_sln | exact leT_nil) ?_))) | (refine leT_agg (by repeat (first | exact leL_refl _ | refine leL_cons (by first | exact leT_refl _ | exact leT_virt | exact leT_junk _ | exact leT_sl | exact leT_sln | exact leT_nil) ?_)))) | (first | exact leT_refl _ | exact leT_sl | exact leT_sln | exact leT_nil | (refine leT_tup (by repeat (first | exact leL_refl _ | refine leL_cons (by first | exact leT_refl _ | exact leT_virt | exact leT_junk _ | exact leT_sl | exact leT_sln | exact leT_nil) ?_))) | (refine leT_agg (by repeat (first | exact leL_refl _ | refine leL_cons (by first | exact leT_refl _ | exact leT_virt | exact leT_junk _ | exact leT_sl | exact leT_sln | exact leT_nil) ?_)))) | (simp only [List.append_assoc, List.cons_append, List.nil_append]; exact leT_refl _) | (rw [List.take_of_length_le (by simp)]; (try simp only [List.append_assoc, List.cons_append, List.nil_append]); exact leT_refl _)
      · refine guardK_F c4 ?_
        try simp -implicitDefEqProofs (maxSteps := 4000000) (disch := first | omega | decide | (simp only [go_sem]; omega)) only [go_sem, ↓reduceIte, String.reduceEq, String.reduceNe, reduceCtorEq, Int.reduceEq, Nat.reduceAdd, Nat.reduceSub, Nat.reduceMul, Nat.reduceLT, Nat.reduceLeDiff, Nat.reduceEqDiff, Nat.reduceBEq, Int.reduceToNat, Int.reduceLT, Int.reduceLE, Int.reduceGT, Int.reduceGE, Int.reduceAdd, Int.reduceSub, Int.reduceMul, Int.reduceNeg, Int.reduceBEq, Int.reduceBNe, Int.reducePow, Int.reduceDiv, Int.reduceMod, Int.reduceTDiv, Int.reduceTMod, Int.reduceNatCast]
        repeat (with_reducible refine And.intro (by first | assumption | omega | (simp; done) | (simp; omega)) ?_)
        refine toEnd hC ?_
        refine endX_seq ?_
        refine runX_condF rfl rfl ?_
        refine runX_skip ?_
        refine endX_seq ?_
        refine runX_seq ?_
        refine runX_regionC fun C hC => ?_
        try simp -implicitDefEqProofs (maxSteps := 4000000) (disch := first | omega | decide | (simp only [go_sem]; omega)) only [go_sem, ↓reduceIte, String.reduceEq, String.reduceNe, reduceCtorEq, Int.reduceEq, Nat.reduceAdd, Nat.reduceSub, Nat.reduceMul, Nat.reduceLT, Nat.reduceLeDiff, Nat.reduceEqDiff, Nat.reduceBEq, Int.reduceToNat, Int.reduceLT, Int.reduceLE, Int.reduceGT, Int.reduceGE, Int.reduceAdd, Int.reduceSub, Int.reduceMul, Int.reduceNeg, Int.reduceBEq, Int.reduceBNe, Int.reducePow, Int.reduceDiv, Int.reduceMod, Int.reduceTDiv, Int.reduceTMod, Int.reduceNatCast]
        repeat (with_reducible refine And.intro (by first | assumption | omega | (simp; done) | (simp; omega)) ?_)
        refine toEnd hC ?_
        refine endX_seq ?_
        refine runX_ret ?_
        refine endX_q ?_
        obtain rfl := Option.some.inj h
        show RetW _ _ _ _ _
        simp only [RetW]
        (try simp -implicitDefEqProofs (maxSteps := 4000000) (disch := first | omega | decide | (simp only [go_sem]; omega)) only [go_sem, ↓reduceIte, String.reduceEq, String.reduceNe, reduceCtorEq, Int.reduceEq, Nat.reduceAdd, Nat.reduceSub, Nat.reduceMul, Nat.reduceLT, Nat.reduceLeDiff, Nat.reduceEqDiff, Nat.reduceBEq, Int.reduceToNat, Int.reduceLT, Int.reduceLE, Int.reduceGT, Int.reduceGE, Int.reduceAdd, Int.reduceSub, Int.reduceMul, Int.reduceNeg, Int.reduceBEq, Int.reduceBNe, Int.reducePow, Int.reduceDiv, Int.reduceMod, Int.reduceTDiv, Int.reduceTMod, Int.reduceNatCast])
        (try simp (disch := omega) only [if_pos, Nat.sub_zero])
        first | exact leT_refl _ | (refine ⟨rfl, ?_⟩; first | exact leT_refl _ | exact leT_sl | exact leT_sln | exact leT_nil | (refine leT_tup (by repeat (first | exact leL_refl _ | refine leL_cons (by first | exact leT_refl _ | exact leT_virt | exact leT_junk _ | exact leT_sl | exact leT_sln | exact leT_nil) ?_))) | (refine leT_agg (by repeat (first | exact leL_refl _ | refine leL_cons (by first | exact leT_refl _ | exact leT_virt | exact leT_junk _ | exact leT_sl | exact leT_sln | exact leT_nil) ?_)))) | (first | exact leT_refl _ | exact leT_sl | exact leT_sln | exact leT_nil | (refine leT_tup (by repeat (first | exact leL_refl _ | refine leL_cons (by first | exact leT_refl _ | exact leT_virt | exact leT_junk _ | exact leT_sl | exact leT_sln | exact leT_nil) ?_))) | (refine leT_agg (by repeat (first | exact leL_refl _ | refine leL_cons (by first | exact leT_refl _ | exact leT_virt | exact leT_junk _ | exact leT_sl | exact leT_sln | exact leT_nil) ?_)))) | (simp only [List.append_assoc, List.cons_append, List.nil_append]; exact leT_refl _) | (rw [List.take_of_length_le (by simp)]; (try simp only [List.append_assoc, List.cons_append, List.nil_append]); exact leT_refl _)
end Go.Proofs.YtdfghdppbfabfaaDoorX

/- Names: what name.Bucket and name.Split answer. -/
set_option linter.unusedVariables false
set_option linter.unusedSimpArgs false
namespace Go.Proofs.YtdfghdppbfabfaaDoorX
open Go

/-! hex.ReadDecimal -/
def decP : List UInt8 → Int → Int × Bool
  | [], n => (n, true)
  | c :: l, n => if kindOf (c.toNat : Int) = 1 then decP l (n * 10 + ((c.toNat : Int) - 48)) else (0, false)
theorem kind_one {c : Int} (h : kindOf c = 1) : 48 ≤ c ∧ c ≤ 57 := by
  unfold kindOf at h
  split at h
  · assumption
  · split at h
    · omega
    · split at h
      · omega
      · split at h <;> omega
theorem pow10 (i : Nat) (h : i ≤ 17) : 1 ≤ (10 : Int) ^ i ∧ (10 : Int) ^ i ≤ 100000000000000000 ∧ (10 : Int) ^ (i + 1) = 10 ^ i * 10 := by
  have h1 : (10 : Nat) ^ i ≤ 10 ^ 17 := Nat.pow_le_pow_right (by omega) h
  have h2 : 1 ≤ (10 : Nat) ^ i := Nat.pos_of_ne_zero (by simp)
  have h3 : ((10 : Nat) ^ i : Nat) = ((10 : Int) ^ i) := by simp
  refine ⟨by omega, by omega, Int.pow_succ _ _⟩
theorem ev_dec_l (l : List UInt8) (hl : l.length ≤ 18) : ∀ (d i : Nat) (x : Int), i + d = l.length → 0 ≤ x ∧ x < (10 : Int) ^ i → Ev (fun k => F19_L1 k l x (i : Int)) (decP (l.drop i) x) := by
  intro d
  induction d with
  | zero =>
    intro i x hi hx
    rw [List.drop_of_length_le (by omega)]
    refine Ev.step (Ev.pure.congr fun k => ?_)
    rw [F19_L1, decide_eq_false (by omega), iteB_f]; rfl
  | succ d ih =>
    intro i x hi hx
    rw [drop_cons l i 0 (by omega), decP]
    obtain ⟨p1, p2, p3⟩ := pow10 i (by omega)
    have hb := u8_lt (l.getD i 0)
    have w1 : IntKind.wrap .i64 ((i : Int) + 1) = ((i + 1 : Nat) : Int) := by rw [w64 (by omega)]; omega
    generalize hc : l.getD i 0 = c at *
    by_cases hk : kindOf (c.toNat : Int) = 1
    · rw [if_pos hk]
      have hk' := kind_one hk
      have e := ih (i + 1) (x * 10 + ((c.toNat : Int) - 48)) (by omega) (by rw [p3]; omega)
      refine Ev.step (e.congr fun k => ?_)
      rw [F19_L1, decide_eq_true (by omega), iteB_t, grd_t _ (by omega), toNat_nat, hc, F23, bind_some', hk]
      show iteB false _ _ = _
      rw [iteB_f, grd_t _ (by omega), wu8 (by omega), w64 (n := (c.toNat : Int) - 48) (by omega), w64 (n := x * 10) (by omega), w64 (n := x * 10 + _) (by omega), w1]
    · rw [if_neg hk]
      refine Ev.step (Ev.pure.congr fun k => ?_)
      rw [F19_L1, decide_eq_true (by omega), iteB_t, grd_t _ (by omega), toNat_nat, hc, F23, bind_some', show (kindOf (c.toNat : Int) != 1) = true by rw [bne_iff_ne]; exact hk, iteB_t]
def readD (l : List UInt8) : Int × Bool := if l = [] ∨ 18 < l.length then (0, false) else decP l 0
theorem ev_ReadDecimal (l : List UInt8) : Ev (fun k => F19 k l) (readD l) := by
  unfold readD
  cases l with
  | nil => rw [if_pos (Or.inl rfl)]; exact Ev.pure.congr fun k => rfl
  | cons a l =>
    by_cases h : 18 < (a :: l).length
    · rw [if_pos (Or.inr h)]
      refine Ev.pure.congr fun k => ?_
      rw [F19, show ((a :: l) == []) = false by rfl, iteB_f, decide_eq_true (by omega), iteB_t]
    · rw [if_neg (by simp only [reduceCtorEq, false_or]; exact h)]
      have e := ev_dec_l (a :: l) (by omega) (a :: l).length 0 0 (by omega) (by decide)
      refine e.congr fun k => ?_
      rw [F19, show ((a :: l) == []) = false by rfl, iteB_f, decide_eq_false (by omega), iteB_f]; rfl
theorem decP_bd : ∀ (l : List UInt8) (x : Int) (m : Nat), 0 ≤ x → x < (10 : Int) ^ m → m + l.length ≤ 18 → 0 ≤ (decP l x).1 ∧ (decP l x).1 ≤ 1000000000000000000
  | [], x, m, h0, h, hl => by
    have h1 : (10 : Nat) ^ m ≤ 10 ^ 18 := Nat.pow_le_pow_right (by omega) (by simpa using hl)
    have h3 : ((10 : Nat) ^ m : Nat) = ((10 : Int) ^ m) := by simp
    rw [decP]; dsimp only; omega
  | c :: l, x, m, h0, h, hl => by
    rw [decP]
    rw [List.length_cons] at hl
    obtain ⟨p1, p2, p3⟩ := pow10 m (by omega)
    by_cases hk : kindOf (c.toNat : Int) = 1
    · have hk' := kind_one hk
      rw [if_pos hk]
      exact decP_bd l _ (m + 1) (by omega) (by rw [p3]; omega) (by omega)
    · rw [if_neg hk]; dsimp only; omega
theorem readD_bd (l : List UInt8) : 0 ≤ (readD l).1 ∧ (readD l).1 ≤ 1000000000000000000 := by
  unfold readD
  split
  · dsimp only; omega
  · exact decP_bd l 0 0 (by omega) (by decide) (by omega)

/-! signs and labels -/
def smallB (c : Int) : Bool := kindOf c == 1 || (kindOf c == 2 || kindOf c == 3)
theorem small_eq (n : Nat) (c : Int) : F35 n c = some (smallB c) := by
  rw [F35, F23, bind_some']
  unfold smallB
  generalize kindOf c = k
  by_cases h1 : k = 1
  · subst h1; rfl
  · rw [show (k == (1 : Int)) = false by rw [beq_eq_false_iff_ne]; exact h1, iteB_f, Bool.false_or]
    by_cases h2 : k = 2
    · subst h2; rfl
    · rw [show (k == (2 : Int)) = false by rw [beq_eq_false_iff_ne]; exact h2, iteB_f, Bool.false_or]
      cases k == (3 : Int) <;> rfl
def okS (c : UInt8) : Bool := smallB (c.toNat : Int) || ((c.toNat : Int) == 46 || (c.toNat : Int) == 45)
theorem ev_signs_l (s : List UInt8) (hs : s.length ≤ 1000000) : ∀ (d i : Nat), i + d = s.length → Ev (fun k => F20_L1 k s (i : Int)) ((s.drop i).all okS) := by
  intro d
  induction d with
  | zero =>
    intro i hi
    rw [List.drop_of_length_le (by omega)]
    refine Ev.step (Ev.pure.congr fun k => ?_)
    rw [F20_L1, decide_eq_false (by omega), iteB_f]; rfl
  | succ d ih =>
    intro i hi
    have w1 : IntKind.wrap .i64 ((i : Int) + 1) = ((i + 1 : Nat) : Int) := by rw [w64 (by omega)]; omega
    have e := ih (i + 1) (by omega)
    rw [drop_cons s i 0 (by omega), List.all_cons]
    have q1 : ∀ x : UInt8, ((([46] : List UInt8).getD (0 : Int).toNat 0).toNat : Int) = 46 := fun _ => rfl
    have q2 : ((([45] : List UInt8).getD (0 : Int).toNat 0).toNat : Int) = 45 := rfl
    generalize hc : s.getD i 0 = c at *
    unfold okS
    by_cases h1 : smallB (c.toNat : Int) = true
    · rw [h1, Bool.true_or, Bool.true_and]
      refine Ev.step (e.congr fun k => ?_)
      rw [F20_L1, decide_eq_true (by omega), iteB_t, grd_t _ (by omega), toNat_nat, hc, small_eq, bind_some', h1, w1]; rfl
    · rw [Bool.not_eq_true] at h1
      rw [h1, Bool.false_or]
      by_cases h2 : (c.toNat : Int) = 46
      · rw [show ((c.toNat : Int) == 46) = true by rw [beq_iff_eq]; exact h2, Bool.true_or, Bool.true_and]
        refine Ev.step (e.congr fun k => ?_)
        rw [F20_L1, decide_eq_true (by omega), iteB_t, grd_t _ (by omega), toNat_nat, hc, small_eq, bind_some', h1, w1]
        show iteB true _ _ = _
        rw [iteB_t, grd_t _ (by omega), grd_t _ (by decide), q1 0, show ((c.toNat : Int) != 46) = false by rw [h2]; rfl, iteB_f]
      · rw [show ((c.toNat : Int) == 46) = false by rw [beq_eq_false_iff_ne]; exact h2, Bool.false_or]
        by_cases h3 : (c.toNat : Int) = 45
        · rw [show ((c.toNat : Int) == 45) = true by rw [beq_iff_eq]; exact h3, Bool.true_and]
          refine Ev.step (e.congr fun k => ?_)
          rw [F20_L1, decide_eq_true (by omega), iteB_t, grd_t _ (by omega), toNat_nat, hc, small_eq, bind_some', h1, w1]
          show iteB true _ _ = _
          rw [iteB_t, grd_t _ (by omega), grd_t _ (by decide), q1 0, show ((c.toNat : Int) != 46) = true by rw [bne_iff_ne]; exact h2, iteB_t, grd_t _ (by omega), grd_t _ (by decide), q2, show ((c.toNat : Int) != 45) = false by rw [h3]; rfl, iteB_f]
        · rw [show ((c.toNat : Int) == 45) = false by rw [beq_eq_false_iff_ne]; exact h3, Bool.false_and]
          refine Ev.step (Ev.pure.congr fun k => ?_)
          rw [F20_L1, decide_eq_true (by omega), iteB_t, grd_t _ (by omega), toNat_nat, hc, small_eq, bind_some', h1]
          show iteB true _ _ = _
          rw [iteB_t, grd_t _ (by omega), grd_t _ (by decide), q1 0, show ((c.toNat : Int) != 46) = true by rw [bne_iff_ne]; exact h2, iteB_t, grd_t _ (by omega), grd_t _ (by decide), q2, show ((c.toNat : Int) != 45) = true by rw [bne_iff_ne]; exact h3, iteB_t]
theorem ev_signs (s : List UInt8) (hs : s.length ≤ 1000000) : Ev (fun k => F20 k s) (s.all okS) := (ev_signs_l s hs s.length 0 (by omega)).congr fun k => rfl
theorem split_len (c : UInt8) : ∀ (s : List UInt8), ∀ p ∈ splitB c s, p.length ≤ s.length
  | [], p, h => by simp [splitB] at h; subst h; simp
  | x :: l, p, h => by
    rw [splitB] at h
    split at h
    · rcases List.mem_cons.1 h with rfl | h
      · simp
      · have := split_len c l p h; simp; omega
    · split at h
      · simp at h; subst h; simp
      · rename_i y ys e
        rcases List.mem_cons.1 h with rfl | h
        · have := split_len c l y (by rw [e]; simp); simp; omega
        · have := split_len c l p (by rw [e]; simp [h]); simp; omega
def labB (p : List UInt8) : Bool := !(p == []) && (smallB ((p.getD 0 0).toNat : Int) && smallB ((p.getD (p.length - 1) 0).toNat : Int))
theorem mem_getD {α : Type} [Inhabited α] {l : List α} {i : Nat} (h : i < l.length) : l.getD i default ∈ l := by
  rw [List.getD_eq_getElem?_getD, List.getElem?_eq_getElem h]; exact List.getElem_mem h
theorem ev_edges_l (l : List (List UInt8)) (hl : l.length ≤ 1000000) (hp : ∀ p ∈ l, p.length ≤ 1000000) : ∀ (d i : Nat), i + d = l.length → Ev (fun k => F21_L1 k l true (i : Int)) ((l.drop i).all labB) := by
  intro d
  induction d with
  | zero =>
    intro i hi
    rw [List.drop_of_length_le (by omega)]
    refine Ev.step (Ev.pure.congr fun k => ?_)
    rw [F21_L1, decide_eq_false (by omega), iteB_f]; rfl
  | succ d ih =>
    intro i hi
    have w1 : IntKind.wrap .i64 ((i : Int) + 1) = ((i + 1 : Nat) : Int) := by rw [w64 (by omega)]; omega
    have e := ih (i + 1) (by omega)
    have hm := hp _ (mem_getD (l := l) (i := i) (by omega))
    rw [drop_cons l i default (by omega), List.all_cons]
    generalize hc : l.getD i default = p at *
    unfold labB
    by_cases h0 : p = []
    · rw [show (p == []) = true by rw [h0]; rfl]
      refine Ev.step (Ev.pure.congr fun k => ?_)
      rw [F21_L1, decide_eq_true (by omega), iteB_t, grd_t _ (by omega), toNat_nat, hc, show (p == []) = true by rw [h0]; rfl]; rfl
    · have hlen : 0 < p.length := List.length_pos_iff.2 h0
      have hne : (p == []) = false := by rw [beq_eq_false_iff_ne]; exact h0
      have w2 : IntKind.wrap .i64 ((p.length : Int) - 1) = ((p.length - 1 : Nat) : Int) := by rw [w64 (by omega)]; omega
      have g1 : ((0 : Int)).toNat = 0 := rfl
      rw [hne, Bool.not_false, Bool.true_and]
      by_cases h1 : smallB ((p.getD 0 0).toNat : Int) = true
      · rw [h1, Bool.true_and]
        by_cases h2 : smallB ((p.getD (p.length - 1) 0).toNat : Int) = true
        · rw [h2, Bool.true_and]
          refine Ev.step (e.congr fun k => ?_)
          rw [F21_L1, decide_eq_true (by omega), iteB_t, grd_t _ (by omega), toNat_nat, hc, hne, iteB_f, grd_t _ (by omega), g1, small_eq, bind_some', h1, w2]
          show iteB false _ _ = _
          rw [iteB_f, grd_t _ (by omega), toNat_nat, small_eq, bind_some', h2, w1]; rfl
        · rw [Bool.not_eq_true] at h2
          rw [h2, Bool.false_and]
          refine Ev.step (Ev.pure.congr fun k => ?_)
          rw [F21_L1, decide_eq_true (by omega), iteB_t, grd_t _ (by omega), toNat_nat, hc, hne, iteB_f, grd_t _ (by omega), g1, small_eq, bind_some', h1, w2]
          show iteB false _ _ = _
          rw [iteB_f, grd_t _ (by omega), toNat_nat, small_eq, bind_some', h2]; rfl
      · rw [Bool.not_eq_true] at h1
        rw [h1, Bool.false_and, Bool.false_and]
        refine Ev.step (Ev.pure.congr fun k => ?_)
        rw [F21_L1, decide_eq_true (by omega), iteB_t, grd_t _ (by omega), toNat_nat, hc, hne, iteB_f, grd_t _ (by omega), g1, small_eq, bind_some', h1]; rfl
theorem split_count (c : UInt8) : ∀ s : List UInt8, (splitB c s).length ≤ s.length + 1
  | [] => by simp [splitB]
  | x :: l => by
    have ih := split_count c l
    rw [splitB]
    split
    · simp; omega
    · split
      · simp
      · rename_i y ys e
        rw [e] at ih
        simp at ih ⊢; omega
theorem ev_edges (s : List UInt8) (hs : s.length ≤ 100000) : Ev (fun k => F21 k s) ((splitB 46 s).all labB) := by
  have h1 := split_count 46 s
  exact (Ev.bind (g := fun k v => F21_L1 k v true (0 : Int)) (ev_Split 46 s (by omega)) (ev_edges_l _ (by omega) (fun p hp => by have := split_len 46 s p hp; omega) (splitB 46 s).length 0 (by omega))).congr fun k => rfl
def numB (p : List UInt8) : Bool := (readD p).2 && (!(decide (255 < (readD p).1)) && decT (readD p).1 == p)
theorem ev_addr_l (l : List (List UInt8)) (hl : l.length ≤ 1000000) : ∀ (d i : Nat), i + d = l.length → Ev (fun k => F8_L1 k l (i : Int)) ((l.drop i).all numB) := by
  intro d
  induction d with
  | zero =>
    intro i hi
    rw [List.drop_of_length_le (by omega)]
    refine Ev.step (Ev.pure.congr fun k => ?_)
    rw [F8_L1, decide_eq_false (by omega), iteB_f]; rfl
  | succ d ih =>
    intro i hi
    have w1 : IntKind.wrap .i64 ((i : Int) + 1) = ((i + 1 : Nat) : Int) := by rw [w64 (by omega)]; omega
    obtain ⟨N1, k1⟩ := ih (i + 1) (by omega)
    rw [drop_cons l i default (by omega), List.all_cons]
    generalize hc : l.getD i default = p at *
    obtain ⟨N2, k2⟩ := ev_ReadDecimal p
    have hb := readD_bd p
    obtain ⟨N3, k3⟩ := ev_Decimal (readD p).1 (by omega)
    refine Ev.step ⟨N1 + N2 + N3, fun n hn => ?_⟩
    have e1 : F8_L1 n l ((i + 1 : Nat) : Int) = some ((l.drop (i + 1)).all numB) := k1 n (by omega)
    have e2 : F19 n p = some (readD p) := k2 n (by omega)
    have e3 : F7 n (readD p).1 = some (decT (readD p).1) := k3 n (by omega)
    show F8_L1 (n + 1) l (i : Int) = _
    rw [F8_L1, decide_eq_true (by omega), iteB_t, grd_t _ (by omega), toNat_nat, hc, e2, bind_some', e3, bind_some', w1, e1]
    unfold numB
    cases (readD p).2
    · rfl
    · cases decide ((255 : Int) < (readD p).1)
      · cases (decT (readD p).1 == p) <;> rfl
      · rfl
def addrB (l : List (List UInt8)) : Bool := l.length == 4 && l.all numB
theorem ev_Address (s : List UInt8) (hs : s.length ≤ 100000) : Ev (fun k => F8 k s) (addrB (splitB 46 s)) := by
  have h1 := split_count 46 s
  obtain ⟨N1, k1⟩ := ev_Split 46 s (by omega)
  obtain ⟨N2, k2⟩ := ev_addr_l (splitB 46 s) (by omega) (splitB 46 s).length 0 (by omega)
  refine ⟨N1 + N2, fun n hn => ?_⟩
  have e1 : F18 n s [46] = some (splitB 46 s) := k1 n (by omega)
  have e2 : F8_L1 n (splitB 46 s) 0 = some ((splitB 46 s).all numB) := k2 n (by omega)
  show F8 n s = _
  rw [F8, e1, bind_some', e2]
  unfold addrB
  by_cases h : (splitB 46 s).length = 4
  · rw [h]; rfl
  · rw [show (((splitB 46 s).length : Int) != 4) = true by rw [bne_iff_ne]; omega, iteB_t, show ((splitB 46 s).length == 4) = false by rw [beq_eq_false_iff_ne]; exact h, Bool.false_and]
def preB (s p : List UInt8) : Bool := decide (p.length ≤ s.length) && s.take p.length == p
def sufB (s p : List UInt8) : Bool := decide (p.length ≤ s.length) && s.drop (s.length - p.length) == p
theorem pre_eq (n : Nat) (s p : List UInt8) : F36 n s p = some (preB s p) := by
  rw [F36, F48]
  unfold preB
  by_cases h : p.length ≤ s.length
  · rw [decide_eq_true (by omega), iteB_t, grd_t _ (by omega), bind_some', decide_eq_true h, toNat_nat, Bool.true_and]
  · rw [decide_eq_false (by omega), iteB_f, bind_some', decide_eq_false h, Bool.false_and]
theorem suf_eq (n : Nat) (s p : List UInt8) (hs : s.length ≤ 1000000) : F37 n s p = some (sufB s p) := by
  rw [F37, F49]
  unfold sufB
  by_cases h : p.length ≤ s.length
  · rw [decide_eq_true (by omega), iteB_t, w64 (by omega), grd_t _ (by omega), bind_some', decide_eq_true h, show ((s.length : Int) - (p.length : Int)).toNat = s.length - p.length by omega, Bool.true_and]
  · rw [decide_eq_false (by omega), iteB_f, bind_some', decide_eq_false h, Bool.false_and]
def keptB (s : List UInt8) : Bool := preB s [120, 110, 45, 45] || (preB s [115, 116, 104, 114, 101, 101, 45] || (sufB s [45, 115, 51, 97, 108, 105, 97, 115] || sufB s [45, 45, 111, 108, 45, 115, 51]))
theorem kept_eq (n : Nat) (s : List UInt8) (hs : s.length ≤ 1000000) : F22 n s = some (keptB s) := by
  rw [F22, pre_eq, bind_some', pre_eq, bind_some', suf_eq _ _ _ hs, bind_some', suf_eq _ _ _ hs, bind_some']
  unfold keptB
  cases preB s [120, 110, 45, 45] <;> cases preB s [115, 116, 104, 114, 101, 101, 45] <;> cases sufB s [45, 115, 51, 97, 108, 105, 97, 115] <;> rfl
def bucketT (s : List UInt8) : Int := if s.length < 3 then 1 else if 63 < s.length then 1 else if s.all okS = false then 2 else if (splitB 46 s).all labB = false then 3 else if addrB (splitB 46 s) = true then 4 else if keptB s = true then 5 else 0
theorem ev_Bucket (s : List UInt8) : Ev (fun k => F9 k s) (bucketT s) := by
  unfold bucketT
  by_cases h1 : s.length < 3
  · rw [if_pos h1]
    refine Ev.pure.congr fun k => ?_
    rw [F9, decide_eq_true (by omega), iteB_t]
  · rw [if_neg h1]
    by_cases h2 : 63 < s.length
    · rw [if_pos h2]
      refine Ev.pure.congr fun k => ?_
      rw [F9, decide_eq_false (by omega), iteB_f, decide_eq_true (by omega), iteB_t]
    · rw [if_neg h2]
      obtain ⟨N1, k1⟩ := ev_signs s (by omega)
      obtain ⟨N2, k2⟩ := ev_edges s (by omega)
      obtain ⟨N3, k3⟩ := ev_Address s (by omega)
      refine ⟨N1 + N2 + N3, fun n hn => ?_⟩
      have e1 : F20 n s = some (s.all okS) := k1 n (by omega)
      have e2 : F21 n s = some ((splitB 46 s).all labB) := k2 n (by omega)
      have e3 : F8 n s = some (addrB (splitB 46 s)) := k3 n (by omega)
      show F9 n s = _
      rw [F9, decide_eq_false (by omega), iteB_f, decide_eq_false (by omega), iteB_f, e1, bind_some', e2, bind_some', e3, bind_some', kept_eq _ _ (by omega), bind_some']
      cases s.all okS
      · rfl
      · cases (splitB 46 s).all labB
        · rfl
        · cases addrB (splitB 46 s)
          · cases keptB s <;> rfl
          · rfl
def nameT (s : List UInt8) : List UInt8 × List UInt8 × Bool := if bucketT (cutB 64 s).1 = 0 ∧ ((cutB 64 s).2.2 = true → bucketT (cutB 64 s).2.1 = 0) then ((cutB 64 s).1, (cutB 64 s).2.1, true) else ([], [], false)
theorem ev_nSplit (s : List UInt8) (hs : s.length ≤ 100000) : Ev (fun k => F11 k s) (nameT s) := by
  obtain ⟨N1, k1⟩ := ev_Bucket (cutB 64 s).1
  obtain ⟨N2, k2⟩ := ev_Bucket (cutB 64 s).2.1
  refine ⟨N1 + N2, fun n hn => ?_⟩
  have e1 : F9 n (cutB 64 s).1 = some (bucketT (cutB 64 s).1) := k1 n (by omega)
  have e2 : F9 n (cutB 64 s).2.1 = some (bucketT (cutB 64 s).2.1) := k2 n (by omega)
  show F11 n s = _
  rw [F11, Cut_eq n s 64 (by omega), bind_some', e1, bind_some', e2, bind_some']
  unfold nameT
  by_cases h1 : bucketT (cutB 64 s).1 = 0
  · rw [show (bucketT (cutB 64 s).1 != 0) = false by rw [h1]; rfl, iteB_f]
    by_cases h2 : (cutB 64 s).2.2 = true
    · rw [h2, iteB_t]
      by_cases h3 : bucketT (cutB 64 s).2.1 = 0
      · rw [show (bucketT (cutB 64 s).2.1 != 0) = false by rw [h3]; rfl, iteB_f, if_pos ⟨h1, fun _ => h3⟩]
      · rw [show (bucketT (cutB 64 s).2.1 != 0) = true by rw [bne_iff_ne]; exact h3, iteB_t, if_neg (fun h => h3 (h.2 rfl))]
    · rw [if_pos ⟨h1, fun h => absurd h h2⟩]
      rw [Bool.not_eq_true] at h2
      rw [h2, iteB_f]
  · rw [show (bucketT (cutB 64 s).1 != 0) = true by rw [bne_iff_ne]; exact h1, iteB_t, if_neg (fun h => h1 h.1)]
end Go.Proofs.YtdfghdppbfabfaaDoorX

/- Addresses: numbers up to 255 with dots between. -/
set_option linter.unusedVariables false
set_option linter.unusedSimpArgs false
namespace Go.Proofs.YtdfghdppbfabfaaDoorX
open Go

/-- A number up to 255, told. -/
def d3 (n : Nat) : List UInt8 := if n < 10 then [toB (48 + (n : Int))] else if n < 100 then [toB (48 + ((n / 10 : Nat) : Int)), toB (48 + ((n % 10 : Nat) : Int))] else [toB (48 + ((n / 100 : Nat) : Int)), toB (48 + ((n / 10 % 10 : Nat) : Int)), toB (48 + ((n % 10 : Nat) : Int))]
theorem dec_d3 (n : Nat) (h : n < 256) : decT (n : Int) = d3 n := by
  unfold decT decI d3
  rw [if_neg (by omega), show ((n : Int)).natAbs = n by omega]
  by_cases h1 : n < 10
  · rw [if_pos h1, dgR_lt h1]; rfl
  · rw [if_neg h1]
    by_cases h2 : n < 100
    · rw [if_pos h2, dgR_ge h1, dgR_lt (by omega)]; rfl
    · rw [if_neg h2, dgR_ge h1, dgR_ge (by omega), dgR_lt (by omega), Nat.div_div_eq_div_mul]; rfl
theorem d3_facts (n : Nat) (h : n < 256) : (d3 n).length ≤ 3 ∧ 1 ≤ (d3 n).length ∧ 46 ∉ d3 n ∧ readD (d3 n) = ((n : Int), true) ∧ (d3 n).all okS = true ∧ labB (d3 n) = true ∧ readD (48 :: d3 n) = ((n : Int), true) := by
  have : ∀ n : Fin 256, (d3 n.val).length ≤ 3 ∧ 1 ≤ (d3 n.val).length ∧ 46 ∉ d3 n.val ∧ readD (d3 n.val) = ((n.val : Int), true) ∧ (d3 n.val).all okS = true ∧ labB (d3 n.val) = true ∧ readD (48 :: d3 n.val) = ((n.val : Int), true) := by decide +kernel
  exact this ⟨n, h⟩
theorem num_d3 (n : Nat) (h : n < 256) : numB (d3 n) = true := by
  unfold numB
  rw [(d3_facts n h).2.2.2.1, dec_d3 n h]
  simp; omega
theorem num_zero (n : Nat) (h : n < 256) : numB (48 :: d3 n) = false := by
  unfold numB
  rw [(d3_facts n h).2.2.2.2.2.2, dec_d3 n h]
  have : (d3 n == 48 :: d3 n) = false := by
    rw [beq_eq_false_iff_ne]
    intro e
    have := congrArg List.length e
    simp at this
  rw [this]; simp
theorem split_app (c : UInt8) (b : List UInt8) : ∀ a : List UInt8, c ∉ a → splitB c (a ++ c :: b) = a :: splitB c b
  | [], _ => by rw [List.nil_append, splitB, if_pos rfl]
  | x :: a, h => by
    simp only [List.mem_cons, not_or] at h
    rw [List.cons_append, splitB, if_neg (fun e => h.1 e.symm), split_app c b a h.2]
theorem split_one (c : UInt8) : ∀ a : List UInt8, c ∉ a → splitB c a = [a]
  | [], _ => rfl
  | x :: a, h => by
    simp only [List.mem_cons, not_or] at h
    rw [splitB, if_neg (fun e => h.1 e.symm), split_one c a h.2]
end Go.Proofs.YtdfghdppbfabfaaDoorX

/- A bucket's name with a letter more. -/
set_option linter.unusedVariables false
set_option linter.unusedSimpArgs false
namespace Go.Proofs.YtdfghdppbfabfaaDoorX
open Go

theorem split_snoc {c x : UInt8} (h : x ≠ c) : ∀ s : List UInt8, ∃ ys y, splitB c s = ys ++ [y] ∧ splitB c (s ++ [x]) = ys ++ [y ++ [x]]
  | [] => ⟨[], [], rfl, by rw [List.nil_append, splitB, if_neg h]; rfl⟩
  | a :: l => by
    obtain ⟨ys, y, h1, h2⟩ := split_snoc h l
    by_cases e : a = c
    · exact ⟨[] :: ys, y, by rw [splitB, if_pos e, h1]; rfl, by rw [List.cons_append, splitB, if_pos e, h2]; rfl⟩
    · cases ys with
      | nil => exact ⟨[], a :: y, by rw [splitB, if_neg e, h1]; rfl, by rw [List.cons_append, splitB, if_neg e, h2]; rfl⟩
      | cons z zs => exact ⟨(a :: z) :: zs, y, by rw [splitB, if_neg e, h1]; rfl, by rw [List.cons_append, splitB, if_neg e, h2]; rfl⟩
theorem fine_of {s : List UInt8} (h : bucketT s = 0) : 3 ≤ s.length ∧ s.length ≤ 63 ∧ s.all okS = true ∧ (splitB 46 s).all labB = true ∧ addrB (splitB 46 s) = false ∧ keptB s = false := by
  unfold bucketT at h
  split at h
  · omega
  · split at h
    · omega
    · split at h
      · omega
      · split at h
        · omega
        · split at h
          · omega
          · split at h
            · omega
            · rename_i h1 h2 h3 h4 h5 h6
              refine ⟨by omega, by omega, by simpa using h3, by simpa using h4, by simpa using h5, by simpa using h6⟩
theorem decP_all : ∀ (l : List UInt8) (x : Int), (decP l x).2 = true → ∀ c ∈ l, kindOf (c.toNat : Int) = 1
  | [], _, _, c, hc => by simp at hc
  | a :: l, x, h, c, hc => by
    rw [decP] at h
    by_cases k : kindOf (a.toNat : Int) = 1
    · rw [if_pos k] at h
      rcases List.mem_cons.1 hc with rfl | hc
      · exact k
      · exact decP_all l _ h c hc
    · rw [if_neg k] at h; cases h
theorem num_snoc (p : List UInt8) : numB (p ++ [97]) = false := by
  have : (readD (p ++ [97])).2 = false := by
    unfold readD
    split
    · rfl
    · cases h : (decP (p ++ [97]) 0).2 with
      | false => rfl
      | true => have := decP_all _ _ h 97 (by simp); revert this; decide
  unfold numB; rw [this]; rfl
theorem last_eq {a b : List UInt8} {x y : UInt8} (h : a ++ [x] = b ++ [y]) : x = y := by
  have := congrArg List.getLast? h
  simpa using this
theorem pre_snoc {s q : List UInt8} {z : UInt8} (hz : z ≠ 97) (h : preB s (q ++ [z]) = false) : preB (s ++ [97]) (q ++ [z]) = false := by
  unfold preB at h ⊢
  by_cases hl : (q ++ [z]).length ≤ s.length
  · rw [decide_eq_true hl, Bool.true_and] at h
    rw [List.take_append_of_le_length hl, h, Bool.and_false]
  · by_cases hm : (q ++ [z]).length ≤ (s ++ [97]).length
    · have : ((s ++ [97]).take (q ++ [z]).length == q ++ [z]) = false := by
        rw [beq_eq_false_iff_ne, List.take_of_length_le (by rw [List.length_append] at hm ⊢; simp at hm hl ⊢; omega)]
        exact fun e => hz (last_eq e).symm
      rw [this, Bool.and_false]
    · rw [decide_eq_false hm, Bool.false_and]
theorem suf_snoc {s q : List UInt8} {z : UInt8} (hz : z ≠ 97) : sufB (s ++ [97]) (q ++ [z]) = false := by
  unfold sufB
  by_cases hm : (q ++ [z]).length ≤ (s ++ [97]).length
  · have : ((s ++ [97]).drop ((s ++ [97]).length - (q ++ [z]).length) == q ++ [z]) = false := by
      rw [beq_eq_false_iff_ne, List.drop_append_of_le_length (by simp)]
      exact fun e => hz (last_eq e).symm
    rw [this, Bool.and_false]
  · rw [decide_eq_false hm, Bool.false_and]
theorem kept_snoc {s : List UInt8} (h : keptB s = false) : keptB (s ++ [97]) = false := by
  unfold keptB at h ⊢
  simp only [Bool.or_eq_false_iff] at h ⊢
  exact ⟨pre_snoc (q := [120, 110, 45]) (z := 45) (by decide) h.1, pre_snoc (q := [115, 116, 104, 114, 101, 101]) (z := 45) (by decide) h.2.1,
    suf_snoc (q := [45, 115, 51, 97, 108, 105, 97]) (z := 115) (by decide), suf_snoc (q := [45, 45, 111, 108, 45, 115]) (z := 51) (by decide)⟩
theorem fine_more {s : List UInt8} (h : bucketT s = 0) : bucketT (s ++ [97]) = if s.length = 63 then 1 else 0 := by
  obtain ⟨h1, h2, h3, h4, h5, h6⟩ := fine_of h
  unfold bucketT
  rw [if_neg (by simp; omega)]
  by_cases hl : s.length = 63
  · rw [if_pos (by simp; omega), if_pos hl]
  · rw [if_neg (by simp; omega), if_neg hl]
    obtain ⟨ys, y, e1, e2⟩ := split_snoc (c := 46) (x := 97) (by decide) s
    have a1 : (s ++ [97]).all okS = true := by rw [List.all_append, h3]; decide
    have a2 : (splitB 46 (s ++ [97])).all labB = true := by
      rw [e1] at h4
      rw [e2]
      simp only [List.all_append, List.all_cons, List.all_nil, Bool.and_true, Bool.and_eq_true] at h4 ⊢
      refine ⟨h4.1, ?_⟩
      have hy := h4.2
      unfold labB at hy ⊢
      simp only [Bool.and_eq_true, Bool.not_eq_true', beq_eq_false_iff_ne] at hy ⊢
      obtain ⟨y1, y2, y3⟩ := hy
      cases y with
      | nil => exact absurd rfl y1
      | cons b y =>
        refine ⟨by simp, by simpa using y2, ?_⟩
        simp only [List.length_append, List.length_cons, List.length_nil, List.cons_append]
        rw [show y.length + 1 + (0 + 1) - 1 = (y.length + 1) from by omega]
        simp
        decide
    have a3 : addrB (splitB 46 (s ++ [97])) = false := by
      unfold addrB
      rw [e2, List.all_append, List.all_cons, num_snoc, Bool.false_and, Bool.and_false, Bool.and_false]
    rw [if_neg (by rw [a1]; simp), if_neg (by rw [a2]; simp), if_neg (by rw [a3]; simp), if_neg (by rw [kept_snoc h6]; simp)]
theorem minus_more {s : List UInt8} : bucketT (s ++ [45]) ≠ 0 := by
  intro h
  obtain ⟨h1, h2, h3, h4, h5, h6⟩ := fine_of h
  obtain ⟨ys, y, e1, e2⟩ := split_snoc (c := 46) (x := 45) (by decide) s
  rw [e2] at h4
  simp only [List.all_append, List.all_cons, List.all_nil, Bool.and_true, Bool.and_eq_true] at h4
  have := h4.2
  unfold labB at this
  simp only [Bool.and_eq_true] at this
  have z := this.2.2
  have e : (y ++ [45]).getD ((y ++ [45]).length - 1) 0 = (45 : UInt8) := by simp
  rw [e] at z
  revert z; decide
theorem great_more {s : List UInt8} : bucketT (65 :: s) ≠ 0 := by
  intro h
  obtain ⟨h1, h2, h3, h4, h5, h6⟩ := fine_of h
  rw [List.all_cons] at h3
  have : okS 65 = false := by decide
  rw [this] at h3; cases h3
def lowC (c : UInt8) : Int := if kindOf (c.toNat : Int) = 4 then (c.toNat : Int) + 32 else (c.toNat : Int)
theorem low_ok (c : UInt8) (h : okS c = true) : kindOf (c.toNat : Int) ≠ 4 := by
  intro e
  unfold okS smallB at h
  rw [e] at h
  have : ∀ c : UInt8, kindOf (c.toNat : Int) = 4 → (c.toNat : Int) ≠ 46 ∧ (c.toNat : Int) ≠ 45 := by
    intro c k
    unfold kindOf at k
    split at k
    · cases k
    · split at k
      · cases k
      · split at k
        · cases k
        · split at k <;> omega
  have := this c e
  simp at h
  omega
end Go.Proofs.YtdfghdppbfabfaaDoorX

/- The law NameSmall. -/
set_option linter.unusedVariables false
set_option linter.unusedSimpArgs false
namespace Go.Proofs.YtdfghdppbfabfaaDoorX
open Go

theorem toB_ofB (l : List UInt8) : (l.map ofB).map toB = l := by
  rw [List.map_map]
  conv => rhs; rw [← List.map_id l]
  refine List.map_congr_left fun x _ => ?_
  show UInt8.ofNat ((x.toNat : Int)).toNat = x
  rw [toNat_nat]; simp
theorem ofB_getD (l : List UInt8) (i : Nat) (h : i < l.length) : (l.map ofB).getD i default = ((l.getD i 0).toNat : Int) := by
  rw [List.getD_eq_getElem?_getD, List.getElem?_map, List.getD_eq_getElem?_getD, List.getElem?_eq_getElem h]; rfl
theorem ev_low_l (s : List UInt8) (hs : s.length ≤ 1000000) (hk : s.all okS = true) : ∀ (d i : Nat), i + d = s.length → Ev (fun k => F10_L1 k s (i : Int) (s.map ofB)) s := by
  intro d
  induction d with
  | zero =>
    intro i hi
    refine Ev.step (Ev.pure.congr fun k => ?_)
    rw [F10_L1, decide_eq_false (by omega), iteB_f, toB_ofB]
  | succ d ih =>
    intro i hi
    have w1 : IntKind.wrap .i64 ((i : Int) + 1) = ((i + 1 : Nat) : Int) := by rw [w64 (by omega)]; omega
    have hm : okS (s.getD i 0) = true := by
      rw [List.all_eq_true] at hk
      apply hk
      rw [List.getD_eq_getElem?_getD, List.getElem?_eq_getElem (by omega)]
      exact List.getElem_mem _
    have h4 : (kindOf ((s.getD i 0).toNat : Int) == (4 : Int)) = false := by rw [beq_eq_false_iff_ne]; exact low_ok _ hm
    refine Ev.step ((ih (i + 1) (by omega)).congr fun k => ?_)
    rw [F10_L1, decide_eq_true (by omega), iteB_t, grd_t _ (by rw [List.length_map]; omega), grd_t _ (by rw [List.length_map]; omega), toNat_nat, ofB_getD s i (by omega), F23, bind_some', h4, iteB_f, w1]
theorem ev_low (s : List UInt8) (hs : s.length ≤ 1000000) (hk : s.all okS = true) : Ev (fun k => F10 k s) s := (ev_low_l s hs hk s.length 0 (by omega)).congr fun k => rfl
theorem one_fine : bucketT ([100, 97, 116, 97, 46, 111, 110, 101] : List UInt8) = 0 := by decide +kernel
theorem four_num : bucketT ([49, 57, 50, 46, 49, 54, 56, 46, 48, 46, 49] : List UInt8) = 4 := by
  have e : splitB 46 ([49, 57, 50, 46, 49, 54, 56, 46, 48, 46, 49] : List UInt8) = [d3 192, d3 168, d3 0, d3 1] := by decide +kernel
  unfold bucketT
  rw [if_neg (by decide), if_neg (by decide), if_neg (by decide), e, if_neg (by decide +kernel), if_pos]
  unfold addrB
  simp [num_d3]
theorem law_main (v0 : List UInt8) (h0 : okT9 v0) : ∃ n, F4 n v0 = some true := by
  obtain ⟨N1, k1⟩ := ev_Bucket v0
  by_cases hbig : (1000 : Int) < (v0.length : Int)
  · refine ⟨N1, ?_⟩
    have e1 : F9 N1 v0 = some (bucketT v0) := k1 N1 (by omega)
    have : bucketT v0 = 1 := by unfold bucketT; rw [if_neg (by omega), if_pos (by omega)]
    rw [F4, decide_eq_true hbig, iteB_t, e1, bind_some', this]; rfl
  · by_cases hf : bucketT v0 = 0
    · obtain ⟨f1, f2, f3, f4, f5, f6⟩ := fine_of hf
      obtain ⟨N2, k2⟩ := ev_Bucket (v0 ++ [97])
      obtain ⟨N3, k3⟩ := ev_Bucket (v0 ++ [45])
      obtain ⟨N4, k4⟩ := ev_Bucket (([65] : List UInt8) ++ v0)
      obtain ⟨N5, k5⟩ := ev_low v0 (by omega) f3
      refine ⟨N1 + N2 + N3 + N4 + N5, ?_⟩
      generalize hn : N1 + N2 + N3 + N4 + N5 = n
      have e1 : F9 n v0 = some (bucketT v0) := k1 n (by omega)
      have e2 : F9 n (v0 ++ [97]) = some (bucketT (v0 ++ [97])) := k2 n (by omega)
      have e3 : F9 n (v0 ++ [45]) = some (bucketT (v0 ++ [45])) := k3 n (by omega)
      have e4 : F9 n (([65] : List UInt8) ++ v0) = some (bucketT (65 :: v0)) := k4 n (by omega)
      have e5 : F10 n v0 = some v0 := k5 n (by omega)
      have n3 : (bucketT (v0 ++ [45]) != (0 : Int)) = true := by rw [bne_iff_ne]; exact minus_more
      have n4 : (bucketT (65 :: v0) != (0 : Int)) = true := by rw [bne_iff_ne]; exact great_more
      rw [F4, decide_eq_false hbig, iteB_f, e1, bind_some', hf, show ((0 : Int) != 0) = false from rfl, iteB_f, grd_t _ (by omega), e2, bind_some', e5, bind_some', beq_self_eq_true, iteB_t, decide_eq_true (by omega), iteB_t, decide_eq_true (by omega), iteB_t, fine_more hf, e3, e4]
      by_cases hl : v0.length = 63
      · rw [if_pos hl, show ((1 : Int) == 0) = false from rfl, iteB_f, show ((v0.length : Int) == 63) = true by rw [beq_iff_eq]; omega, iteB_t, show ((1 : Int) == 1) = true from rfl, iteB_t, grd_t _ (by omega), bind_some', n3, iteB_t, grd_t _ (by omega), bind_some', n4]
      · rw [if_neg hl, show ((0 : Int) == 0) = true from rfl, iteB_t, grd_t _ (by omega), bind_some', n3, iteB_t, grd_t _ (by omega), bind_some', n4]
    · obtain ⟨N2, k2⟩ := ev_Bucket ([100, 97, 116, 97, 46, 111, 110, 101] : List UInt8)
      obtain ⟨N3, k3⟩ := ev_Bucket ([49, 57, 50, 46, 49, 54, 56, 46, 48, 46, 49] : List UInt8)
      refine ⟨N1 + N2 + N3, ?_⟩
      generalize hn : N1 + N2 + N3 = n
      have e1 : F9 n v0 = some (bucketT v0) := k1 n (by omega)
      have e2 : F9 n ([100, 97, 116, 97, 46, 111, 110, 101] : List UInt8) = some 0 := by rw [← one_fine]; exact k2 n (by omega)
      have e3 : F9 n ([49, 57, 50, 46, 49, 54, 56, 46, 48, 46, 49] : List UInt8) = some 4 := by rw [← four_num]; exact k3 n (by omega)
      rw [F4, decide_eq_false hbig, iteB_f, e1, bind_some', show (bucketT v0 != (0 : Int)) = true by rw [bne_iff_ne]; exact hf, iteB_t, e2, bind_some', show ((0 : Int) == 0) = true from rfl, iteB_t, e3, bind_some']
      rfl
end Go.Proofs.YtdfghdppbfabfaaDoorX

set_option linter.unusedVariables false
namespace Go.Proofs.YtdfghdppbfabfaaDoorX
open Go Go.RowKit Go.Proofs
set_option maxRecDepth 100000
theorem shapedRow (xs : List T) (h : ShapesW Tryd.prog [9] xs) : FnC Tryd.prog 4 xs (tb true) := shapedNameSmall law_main xs h
end Go.Proofs.YtdfghdppbfabfaaDoorX
namespace Go.Proofs.YtdfghdppbfabfaaDoor.nameSmall
open Go.ChangeShapes Go.WideShapes Go.ChangeAt Go.RowKit
set_option linter.unusedVariables false
theorem own : ownKnob Tryd.prog.godebug = none := by kernel_rfl
set_option maxRecDepth 100000 in
theorem lifted (os : Os) (started : os.Started) (H : Type) (enc : TypeId × Value → H) :
    ReturnsInHanded {} Tryd.checked os 4 .any (fun w args => (Rows.nameSmallSpec.pre enc Tryd.prog Tryd.f4 [] false w args ∧ laidMetH Tryd.prog Rows.nameSmallRow.laid w) ∧ sizedMet enc Tryd.prog Tryd.f4 (OpenSpec.ofChange Rows.nameSmallSpec) false w args) (Rows.nameSmallSpec.post enc Tryd.prog Tryd.f4 false true false false) := by
  refine returnsInHanded_of_change_and (C := Tryd.checked) (X := fun w _ => laidMetH Tryd.prog Rows.nameSmallRow.laid w) (fun _ _ _ hh h => h.of_heap hh) own started (by kernel_rfl) Tryd.func4
    (ChangeSpec.witness_shaped (enc := enc) (C := Tryd.checked) (os := os) (X := fun w _ => laidMetH Tryd.prog Rows.nameSmallRow.laid w) false (World.laidAll Tryd.prog os Rows.nameSmallRow.laid) #[.string ByteArray.empty] 8 (World.laidAll_os _ _ _)
      (World.shaped_of_ZipB (by kernel_rfl) (by kernel_rfl)) (by kernel_rfl) (by kernel_rfl) (by kernel_rfl)
      (by rw [MakeChecks.laidMetH_plain _ _ _ (by kernel_rfl)]; exact laidMet_laidAll _ (by kernel_rfl) (by kernel_rfl))) ?_
  intro W base args ds gs before hval0 hW _ _ hL _
  exact YtdfghdppbfabfaaDoorX.row_contract (P := Tryd.prog) (fn := Tryd.f4) (s := Rows.nameSmallSpec) (ts := [9]) (tb := 4) (L := [9]) (by kernel_rfl) (by kernel_rfl) (by kernel_rfl) (by kernel_rfl) (by kernel_rfl) (by kernel_rfl) rfl
    (fun H ds h => by
      match ds, h with
      | [d0], _ => rfl) YtdfghdppbfabfaaDoorX.shapedRow W base args ds gs before hval0 hW
theorem over : Rows.nameSmallRow.holds Tryd.pinned (OpenSpec.ofChange Rows.nameSmallSpec) :=
  OpenClaim.holds_of_wide 4 Tryd.f4 rfl rfl rfl rfl rfl rfl rfl ⟨rfl, rfl, rfl, rfl, rfl⟩ rfl rfl rfl rfl rfl (by kernel_rfl) Tryd.func4 (by kernel_rfl)
    (of_decide_eq_true (by kernel_rfl)) (by unfold Func.isWrapper; first | (rw [if_pos (by decide +kernel)]; kernel_rfl) | (rw [if_neg (by decide +kernel)]; exact ⟨rfl, rfl⟩))
    (fun os started H enc _ => lifted os started H enc)
theorem proved : Rows.NameSmallCardSaid :=
  Claim7.holds_tied_plain_at .later [] [.data, .pinned] true (true, "7ec3118e6db71b0d7c646cd0fd907a77b45a7e87d06668d1fb80d0317d1d006b") false
    over (fun _ h => by cases h) (by kernel_rfl) (fun _ h => by cases h) nameSmall_row_tie rfl ⟨rfl, rfl⟩ (by kernel_rfl) rfl
    (fun f fn hf hfn => by
      obtain rfl : f = 4 := Option.some.inj ((show Tryd.prog.funcNamed "shadowbox/shadowboxlaw27.NameSmall" = some 4 by kernel_rfl).symm.trans hf) |>.symm
      obtain rfl : fn = Tryd.f4 := (Option.some.inj (Tryd.func4.symm.trans hfn)).symm
      exact ⟨by kernel_rfl, fun j t ht => by
        rw [Tryd.params4] at ht
        have hm : t ∈ [9] := by simpa using Array.mem_of_getElem? ht
        have hall : ([9].all fun u => !Tryd.prog.wantsStandIn u) = true := by kernel_rfl
        exact (show Tryd.prog.wantsStandIn t = false by simpa using List.all_eq_true.1 hall t hm)⟩)
    (by kernel_rfl)
#print axioms proved
end Go.Proofs.YtdfghdppbfabfaaDoor.nameSmall
namespace Go.Proofs.YtdfghdppbfabfaaDoor
/-- The card, under a short name, for the claim. -/
theorem nameSmall_holds : Rows.NameSmallCardSaid := nameSmall.proved
end Go.Proofs.YtdfghdppbfabfaaDoor
