/- Part of the proof of NameTells: walks and plain words, merged. -/
import Derived.Test.YtdfghdppbfabfaaDoorBNameTellsb
import Derived.Test.YtdfghdppbfabfaaDoorBNameTellsc
import Derived.Test.YtdfghdppbfabfaaDoorBNameTellsd
import Derived.Test.YtdfghdppbfabfaaDoorRows
import Derived.Test.YtdfghdppbfabfaaDoorCards
import Derived.Test.YtdfghdppbfabfaaDoorTie
import Derived.Test.YtdfghdppbfabfaaDoorChecked
import Derived.WalkKit
import Derived.ProofKit
import Derived.OpenShut
import Derived.Lay
import Derived.LaidMore
import Derived.LaidOnce
import Derived.SevenTiedAt
set_option linter.unusedVariables false
set_option linter.unusedSimpArgs false

set_option linter.unusedVariables false
set_option linter.unusedSimpArgs false
namespace Go.Proofs.YtdfghdppbfabfaaDoorX
open Go Go.RowKit Go.Proofs
set_option maxRecDepth 100000
attribute [local go_sem] String.reduceEq String.reduceNe reduceCtorEq Int.reduceEq Nat.reduceAdd Nat.reduceSub Nat.reduceMul Nat.reduceLT Nat.reduceLeDiff Nat.reduceEqDiff Nat.reduceBEq Int.reduceToNat Int.reduceLT Int.reduceLE Int.reduceGT Int.reduceGE Int.reduceAdd Int.reduceSub Int.reduceMul Int.reduceNeg Int.reduceBEq Int.reduceBNe Int.reducePow Int.reduceDiv Int.reduceMod Int.reduceTDiv Int.reduceTMod Int.reduceNatCast
/-! ### shadowboxref14.Put -/
def F52 (n : Nat) (a0 : List (Int)) (a1 : Int) : Option (List (Int)) := grd (a0.length ≤ 549755813888) (iteB (decide ((IntKind.wrap .i64 (a1)) < (0 : Int))) (some a0) (iteB (decide ((1114111 : Int) < (IntKind.wrap .i64 (a1)))) (some a0) (iteB (decide ((55296 : Int) ≤ (IntKind.wrap .i64 (a1)))) (iteB (decide ((IntKind.wrap .i64 (a1)) ≤ (57343 : Int))) (some a0) (iteB (decide ((IntKind.wrap .i64 (a1)) < (128 : Int))) (grd ((a0.length + 1) ≤ 549755813888) (some (a0 ++ [(IntKind.wrap .u8 ((IntKind.wrap .i64 (a1))))]))) (iteB (decide ((IntKind.wrap .i64 (a1)) < (2048 : Int))) (grd ((a0.length + 2) ≤ 549755813888) (some (a0 ++ [(IntKind.wrap .u8 ((IntKind.wrap .i64 ((192 : Int) + (IntKind.wrap .i64 ((IntKind.wrap .i64 (a1)).tdiv (64 : Int))))))), (IntKind.wrap .u8 ((IntKind.wrap .i64 ((128 : Int) + ((IntKind.wrap .i64 (a1)).tmod (64 : Int))))))]))) (iteB (decide ((IntKind.wrap .i64 (a1)) < (65536 : Int))) (grd ((a0.length + 3) ≤ 549755813888) (some (a0 ++ [(IntKind.wrap .u8 ((IntKind.wrap .i64 ((224 : Int) + (IntKind.wrap .i64 ((IntKind.wrap .i64 (a1)).tdiv (4096 : Int))))))), (IntKind.wrap .u8 ((IntKind.wrap .i64 ((128 : Int) + ((IntKind.wrap .i64 ((IntKind.wrap .i64 (a1)).tdiv (64 : Int))).tmod (64 : Int)))))), (IntKind.wrap .u8 ((IntKind.wrap .i64 ((128 : Int) + ((IntKind.wrap .i64 (a1)).tmod (64 : Int))))))]))) (grd ((a0.length + 4) ≤ 549755813888) (some (a0 ++ [(IntKind.wrap .u8 ((IntKind.wrap .i64 ((240 : Int) + (IntKind.wrap .i64 ((IntKind.wrap .i64 (a1)).tdiv (262144 : Int))))))), (IntKind.wrap .u8 ((IntKind.wrap .i64 ((128 : Int) + ((IntKind.wrap .i64 ((IntKind.wrap .i64 (a1)).tdiv (4096 : Int))).tmod (64 : Int)))))), (IntKind.wrap .u8 ((IntKind.wrap .i64 ((128 : Int) + ((IntKind.wrap .i64 ((IntKind.wrap .i64 (a1)).tdiv (64 : Int))).tmod (64 : Int)))))), (IntKind.wrap .u8 ((IntKind.wrap .i64 ((128 : Int) + ((IntKind.wrap .i64 (a1)).tmod (64 : Int))))))]))))))) (iteB (decide ((IntKind.wrap .i64 (a1)) < (128 : Int))) (grd ((a0.length + 1) ≤ 549755813888) (some (a0 ++ [(IntKind.wrap .u8 ((IntKind.wrap .i64 (a1))))]))) (iteB (decide ((IntKind.wrap .i64 (a1)) < (2048 : Int))) (grd ((a0.length + 2) ≤ 549755813888) (some (a0 ++ [(IntKind.wrap .u8 ((IntKind.wrap .i64 ((192 : Int) + (IntKind.wrap .i64 ((IntKind.wrap .i64 (a1)).tdiv (64 : Int))))))), (IntKind.wrap .u8 ((IntKind.wrap .i64 ((128 : Int) + ((IntKind.wrap .i64 (a1)).tmod (64 : Int))))))]))) (iteB (decide ((IntKind.wrap .i64 (a1)) < (65536 : Int))) (grd ((a0.length + 3) ≤ 549755813888) (some (a0 ++ [(IntKind.wrap .u8 ((IntKind.wrap .i64 ((224 : Int) + (IntKind.wrap .i64 ((IntKind.wrap .i64 (a1)).tdiv (4096 : Int))))))), (IntKind.wrap .u8 ((IntKind.wrap .i64 ((128 : Int) + ((IntKind.wrap .i64 ((IntKind.wrap .i64 (a1)).tdiv (64 : Int))).tmod (64 : Int)))))), (IntKind.wrap .u8 ((IntKind.wrap .i64 ((128 : Int) + ((IntKind.wrap .i64 (a1)).tmod (64 : Int))))))]))) (grd ((a0.length + 4) ≤ 549755813888) (some (a0 ++ [(IntKind.wrap .u8 ((IntKind.wrap .i64 ((240 : Int) + (IntKind.wrap .i64 ((IntKind.wrap .i64 (a1)).tdiv (262144 : Int))))))), (IntKind.wrap .u8 ((IntKind.wrap .i64 ((128 : Int) + ((IntKind.wrap .i64 ((IntKind.wrap .i64 (a1)).tdiv (4096 : Int))).tmod (64 : Int)))))), (IntKind.wrap .u8 ((IntKind.wrap .i64 ((128 : Int) + ((IntKind.wrap .i64 ((IntKind.wrap .i64 (a1)).tdiv (64 : Int))).tmod (64 : Int)))))), (IntKind.wrap .u8 ((IntKind.wrap .i64 ((128 : Int) + ((IntKind.wrap .i64 (a1)).tmod (64 : Int))))))])))))))))
set_option maxHeartbeats 4000000 in
theorem F52_ok : ∀ (n : Nat) (a0 : List (Int)) (a1 : Int) (r : List (Int)), F52 n a0 a1 = some r → FnC Tryd.prog 52 [.sl 1 false (List.map byteT a0), .imm (.int .i32 a1)] (.sl 1 false (List.map byteT r))
  | n, a0, a1, r, h => by
    unfold F52 at h
    refine FnC.goX mixed Tryd.func52 (by kernel_rfl) rfl ?_
    simp only [Tryd.ntmps52, List.length_cons, List.length_nil, List.replicate, List.cons_append, List.nil_append, Nat.reduceAdd, Nat.reduceSub]
    refine runX_seq ?_
    refine runX_regionC fun C hC => ?_
    try simp -implicitDefEqProofs (maxSteps := 4000000) (disch := first | omega | decide | (simp only [go_sem]; omega)) only [go_sem, ↓reduceIte]
    repeat (with_reducible refine And.intro (by first | assumption | omega | (simp; done) | (simp; omega)) ?_)
    refine toEnd hC ?_
    refine endX_seq ?_
    refine runX_seq ?_
    refine runX_regionC fun C hC => ?_
    try simp -implicitDefEqProofs (maxSteps := 4000000) (disch := first | omega | decide | (simp only [go_sem]; omega)) only [go_sem, ↓reduceIte]
    repeat (with_reducible refine And.intro (by first | assumption | omega | (simp; done) | (simp; omega)) ?_)
    refine buildX_val ?_
    obtain ⟨g1, h⟩ := grd_some h
    try simp -implicitDefEqProofs (maxSteps := 4000000) (disch := first | omega | decide | (simp only [go_sem]; omega)) only [go_sem, ↓reduceIte]
    repeat (with_reducible refine And.intro (by first | assumption | omega | (simp; done) | (simp; omega)) ?_)
    refine toEnd hC ?_
    refine endX_seq ?_
    refine runX_seq ?_
    refine runX_regionC fun C hC => ?_
    try simp -implicitDefEqProofs (maxSteps := 4000000) (disch := first | omega | decide | (simp only [go_sem]; omega)) only [go_sem, ↓reduceIte]
    repeat (with_reducible refine And.intro (by first | assumption | omega | (simp; done) | (simp; omega)) ?_)
    refine toEnd hC ?_
    refine endX_seq ?_
    refine runX_seq ?_
    refine runX_seq ?_
    refine runX_regionC fun C hC => ?_
    try simp -implicitDefEqProofs (maxSteps := 4000000) (disch := first | omega | decide | (simp only [go_sem]; omega)) only [go_sem, ↓reduceIte]
    repeat (with_reducible refine And.intro (by first | assumption | omega | (simp; done) | (simp; omega)) ?_)
    rcases iteB_some h with ⟨c2, h⟩ | ⟨c2, h⟩
    · refine guardK_F c2 ?_
      try simp -implicitDefEqProofs (maxSteps := 4000000) (disch := first | omega | decide | (simp only [go_sem]; omega)) only [go_sem, ↓reduceIte]
      repeat (with_reducible refine And.intro (by first | assumption | omega | (simp; done) | (simp; omega)) ?_)
      refine toEnd hC ?_
      refine endX_seq ?_
      refine runX_condT rfl rfl ?_
      refine runX_seq ?_
      refine runX_regionC fun C hC => ?_
      try simp -implicitDefEqProofs (maxSteps := 4000000) (disch := first | omega | decide | (simp only [go_sem]; omega)) only [go_sem, ↓reduceIte]
      repeat (with_reducible refine And.intro (by first | assumption | omega | (simp; done) | (simp; omega)) ?_)
      refine toEnd hC ?_
      refine endX_seq ?_
      refine runX_ret ?_
      refine endX_seqR ?_
      refine endX_q ?_
      obtain rfl := Option.some.inj h
      show RetW _ _ _ _ _
      simp only [RetW]
      (try simp -implicitDefEqProofs (maxSteps := 4000000) (disch := first | omega | decide | (simp only [go_sem]; omega)) only [go_sem, ↓reduceIte])
      (try simp (disch := omega) only [if_pos, Nat.sub_zero])
      first | exact leT_refl _ | (refine ⟨rfl, ?_⟩; first | exact leT_refl _ | exact leT_sl | exact leT_sln | exact leT_nil | (refine leT_tup (by repeat (first | exact leL_refl _ | refine leL_cons (by first | exact leT_refl _ | exact leT_virt | exact leT_junk _ | exact leT_sl | exact leT_sln | exact leT_nil) ?_))) | (refine leT_agg (by repeat (first | exact leL_refl _ | refine leL_cons (by first | exact leT_refl _ | exact leT_virt | exact leT_junk _ | exact leT_sl | exact leT_sln | exact leT_nil) ?_)))) | (first | exact leT_refl _ | exact leT_sl | exact leT_sln | exact leT_nil | (refine leT_tup (by repeat (first | exact leL_refl _ | refine leL_cons (by first | exact leT_refl _ | exact leT_virt | exact leT_junk _ | exact leT_sl | exact leT_sln | exact leT_nil) ?_))) | (refine leT_agg (by repeat (first | exact leL_refl _ | refine leL_cons (by first | exact leT_refl _ | exact leT_virt | exact leT_junk _ | exact leT_sl | exact leT_sln | exact leT_nil) ?_)))) | (simp only [List.append_assoc, List.cons_append, List.nil_append]; exact leT_refl _) | (rw [List.take_of_length_le (by simp)]; (try simp only [List.append_assoc, List.cons_append, List.nil_append]); exact leT_refl _)
    · refine guardK_T c2 ?_
      try simp -implicitDefEqProofs (maxSteps := 4000000) (disch := first | omega | decide | (simp only [go_sem]; omega)) only [go_sem, ↓reduceIte]
      repeat (with_reducible refine And.intro (by first | assumption | omega | (simp; done) | (simp; omega)) ?_)
      rcases iteB_some h with ⟨c3, h⟩ | ⟨c3, h⟩
      · refine guardK_F c3 ?_
        try simp -implicitDefEqProofs (maxSteps := 4000000) (disch := first | omega | decide | (simp only [go_sem]; omega)) only [go_sem, ↓reduceIte]
        repeat (with_reducible refine And.intro (by first | assumption | omega | (simp; done) | (simp; omega)) ?_)
        refine toEnd hC ?_
        refine endX_seq ?_
        refine runX_condT rfl rfl ?_
        refine runX_seq ?_
        refine runX_regionC fun C hC => ?_
        try simp -implicitDefEqProofs (maxSteps := 4000000) (disch := first | omega | decide | (simp only [go_sem]; omega)) only [go_sem, ↓reduceIte]
        repeat (with_reducible refine And.intro (by first | assumption | omega | (simp; done) | (simp; omega)) ?_)
        refine toEnd hC ?_
        refine endX_seq ?_
        refine runX_ret ?_
        refine endX_seqR ?_
        refine endX_q ?_
        obtain rfl := Option.some.inj h
        show RetW _ _ _ _ _
        simp only [RetW]
        (try simp -implicitDefEqProofs (maxSteps := 4000000) (disch := first | omega | decide | (simp only [go_sem]; omega)) only [go_sem, ↓reduceIte])
        (try simp (disch := omega) only [if_pos, Nat.sub_zero])
        first | exact leT_refl _ | (refine ⟨rfl, ?_⟩; first | exact leT_refl _ | exact leT_sl | exact leT_sln | exact leT_nil | (refine leT_tup (by repeat (first | exact leL_refl _ | refine leL_cons (by first | exact leT_refl _ | exact leT_virt | exact leT_junk _ | exact leT_sl | exact leT_sln | exact leT_nil) ?_))) | (refine leT_agg (by repeat (first | exact leL_refl _ | refine leL_cons (by first | exact leT_refl _ | exact leT_virt | exact leT_junk _ | exact leT_sl | exact leT_sln | exact leT_nil) ?_)))) | (first | exact leT_refl _ | exact leT_sl | exact leT_sln | exact leT_nil | (refine leT_tup (by repeat (first | exact leL_refl _ | refine leL_cons (by first | exact leT_refl _ | exact leT_virt | exact leT_junk _ | exact leT_sl | exact leT_sln | exact leT_nil) ?_))) | (refine leT_agg (by repeat (first | exact leL_refl _ | refine leL_cons (by first | exact leT_refl _ | exact leT_virt | exact leT_junk _ | exact leT_sl | exact leT_sln | exact leT_nil) ?_)))) | (simp only [List.append_assoc, List.cons_append, List.nil_append]; exact leT_refl _) | (rw [List.take_of_length_le (by simp)]; (try simp only [List.append_assoc, List.cons_append, List.nil_append]); exact leT_refl _)
      · refine guardK_T c3 ?_
        try simp -implicitDefEqProofs (maxSteps := 4000000) (disch := first | omega | decide | (simp only [go_sem]; omega)) only [go_sem, ↓reduceIte]
        repeat (with_reducible refine And.intro (by first | assumption | omega | (simp; done) | (simp; omega)) ?_)
        rcases iteB_some h with ⟨c4, h⟩ | ⟨c4, h⟩
        · refine guardK_T c4 ?_
          try simp -implicitDefEqProofs (maxSteps := 4000000) (disch := first | omega | decide | (simp only [go_sem]; omega)) only [go_sem, ↓reduceIte]
          repeat (with_reducible refine And.intro (by first | assumption | omega | (simp; done) | (simp; omega)) ?_)
          refine toEnd hC ?_
          refine endX_seq ?_
          rcases iteB_some h with ⟨c5, h⟩ | ⟨c5, h⟩
          · refine runX_condT rfl c5 ?_
            refine runX_seq ?_
            refine runX_regionC fun C hC => ?_
            try simp -implicitDefEqProofs (maxSteps := 4000000) (disch := first | omega | decide | (simp only [go_sem]; omega)) only [go_sem, ↓reduceIte]
            repeat (with_reducible refine And.intro (by first | assumption | omega | (simp; done) | (simp; omega)) ?_)
            refine toEnd hC ?_
            refine endX_seq ?_
            refine runX_ret ?_
            refine endX_seqR ?_
            refine endX_q ?_
            obtain rfl := Option.some.inj h
            show RetW _ _ _ _ _
            simp only [RetW]
            (try simp -implicitDefEqProofs (maxSteps := 4000000) (disch := first | omega | decide | (simp only [go_sem]; omega)) only [go_sem, ↓reduceIte])
            (try simp (disch := omega) only [if_pos, Nat.sub_zero])
            first | exact leT_refl _ | (refine ⟨rfl, ?_⟩; first | exact leT_refl _ | exact leT_sl | exact leT_sln | exact leT_nil | (refine leT_tup (by repeat (first | exact leL_refl _ | refine leL_cons (by first | exact leT_refl _ | exact leT_virt | exact leT_junk _ | exact leT_sl | exact leT_sln | exact leT_nil) ?_))) | (refine leT_agg (by repeat (first | exact leL_refl _ | refine leL_cons (by first | exact leT_refl _ | exact leT_virt | exact leT_junk _ | exact leT_sl | exact leT_sln | exact leT_nil) ?_)))) | (first | exact leT_refl _ | exact leT_sl | exact leT_sln | exact leT_nil | (refine leT_tup (by repeat (first | exact leL_refl _ | refine leL_cons (by first | exact leT_refl _ | exact leT_virt | exact leT_junk _ | exact leT_sl | exact leT_sln | exact leT_nil) ?_))) | (refine leT_agg (by repeat (first | exact leL_refl _ | refine leL_cons (by first | exact leT_refl _ | exact leT_virt | exact leT_junk _ | exact leT_sl | exact leT_sln | exact leT_nil) ?_)))) | (simp only [List.append_assoc, List.cons_append, List.nil_append]; exact leT_refl _) | (rw [List.take_of_length_le (by simp)]; (try simp only [List.append_assoc, List.cons_append, List.nil_append]); exact leT_refl _)
          · refine runX_condF rfl c5 ?_
            refine runX_skip ?_
            refine endX_seq ?_
            refine runX_seq ?_
            refine runX_seq ?_
            refine runX_regionC fun C hC => ?_
            try simp -implicitDefEqProofs (maxSteps := 4000000) (disch := first | omega | decide | (simp only [go_sem]; omega)) only [go_sem, ↓reduceIte]
            repeat (with_reducible refine And.intro (by first | assumption | omega | (simp; done) | (simp; omega)) ?_)
            refine toEnd hC ?_
            refine endX_seq ?_
            rcases iteB_some h with ⟨c6, h⟩ | ⟨c6, h⟩
            · refine runX_condT rfl c6 ?_
              refine runX_seq ?_
              refine runX_regionC fun C hC => ?_
              try simp -implicitDefEqProofs (maxSteps := 4000000) (disch := first | omega | decide | (simp only [go_sem]; omega)) only [go_sem, ↓reduceIte]
              repeat (with_reducible refine And.intro (by first | assumption | omega | (simp; done) | (simp; omega)) ?_)
              refine buildX_val ?_
              obtain ⟨g7, h⟩ := grd_some h
              try simp -implicitDefEqProofs (maxSteps := 4000000) (disch := first | omega | decide | (simp only [go_sem]; omega)) only [go_sem, ↓reduceIte]
              repeat (with_reducible refine And.intro (by first | assumption | omega | (simp; done) | (simp; omega)) ?_)
              refine toEnd hC ?_
              refine endX_seq ?_
              refine runX_ret ?_
              refine endX_seqR ?_
              refine endX_q ?_
              obtain rfl := Option.some.inj h
              show RetW _ _ _ _ _
              simp only [RetW]
              (try simp -implicitDefEqProofs (maxSteps := 4000000) (disch := first | omega | decide | (simp only [go_sem]; omega)) only [go_sem, ↓reduceIte])
              (try simp (disch := omega) only [if_pos, Nat.sub_zero])
              first | exact leT_refl _ | (refine ⟨rfl, ?_⟩; first | exact leT_refl _ | exact leT_sl | exact leT_sln | exact leT_nil | (refine leT_tup (by repeat (first | exact leL_refl _ | refine leL_cons (by first | exact leT_refl _ | exact leT_virt | exact leT_junk _ | exact leT_sl | exact leT_sln | exact leT_nil) ?_))) | (refine leT_agg (by repeat (first | exact leL_refl _ | refine leL_cons (by first | exact leT_refl _ | exact leT_virt | exact leT_junk _ | exact leT_sl | exact leT_sln | exact leT_nil) ?_)))) | (first | exact leT_refl _ | exact leT_sl | exact leT_sln | exact leT_nil | (refine leT_tup (by repeat (first | exact leL_refl _ | refine leL_cons (by first | exact leT_refl _ | exact leT_virt | exact leT_junk _ | exact leT_sl | exact leT_sln | exact leT_nil) ?_))) | (refine leT_agg (by repeat (first | exact leL_refl _ | refine leL_cons (by first | exact leT_refl _ | exact leT_virt | exact leT_junk _ | exact leT_sl | exact leT_sln | exact leT_nil) ?_)))) | (simp only [List.append_assoc, List.cons_append, List.nil_append]; exact leT_refl _) | (rw [List.take_of_length_le (by simp)]; (try simp only [List.append_assoc, List.cons_append, List.nil_append]); exact leT_refl _)
            · refine runX_condF rfl c6 ?_
              refine runX_skip ?_
              refine endX_seq ?_
              refine runX_seq ?_
              refine runX_seq ?_
              refine runX_regionC fun C hC => ?_
              try simp -implicitDefEqProofs (maxSteps := 4000000) (disch := first | omega | decide | (simp only [go_sem]; omega)) only [go_sem, ↓reduceIte]
              repeat (with_reducible refine And.intro (by first | assumption | omega | (simp; done) | (simp; omega)) ?_)
              refine toEnd hC ?_
              refine endX_seq ?_
              rcases iteB_some h with ⟨c8, h⟩ | ⟨c8, h⟩
              · refine runX_condT rfl c8 ?_
                refine runX_seq ?_
                refine runX_regionC fun C hC => ?_
                try simp -implicitDefEqProofs (maxSteps := 4000000) (disch := first | omega | decide | (simp only [go_sem]; omega)) only [go_sem, ↓reduceIte]
                repeat (with_reducible refine And.intro (by first | assumption | omega | (simp; done) | (simp; omega)) ?_)
                refine buildX_val ?_
                obtain ⟨g9, h⟩ := grd_some h
                try simp -implicitDefEqProofs (maxSteps := 4000000) (disch := first | omega | decide | (simp only [go_sem]; omega)) only [go_sem, ↓reduceIte]
                repeat (with_reducible refine And.intro (by first | assumption | omega | (simp; done) | (simp; omega)) ?_)
                refine toEnd hC ?_
                refine endX_seq ?_
                refine runX_ret ?_
                refine endX_seqR ?_
                refine endX_q ?_
                obtain rfl := Option.some.inj h
                show RetW _ _ _ _ _
                simp only [RetW]
                (try simp -implicitDefEqProofs (maxSteps := 4000000) (disch := first | omega | decide | (simp only [go_sem]; omega)) only [go_sem, ↓reduceIte])
                (try simp (disch := omega) only [if_pos, Nat.sub_zero])
                first | exact leT_refl _ | (refine ⟨rfl, ?_⟩; first | exact leT_refl _ | exact leT_sl | exact leT_sln | exact leT_nil | (refine leT_tup (by repeat (first | exact leL_refl _ | refine leL_cons (by first | exact leT_refl _ | exact leT_virt | exact leT_junk _ | exact leT_sl | exact leT_sln | exact leT_nil) ?_))) | (refine leT_agg (by repeat (first | exact leL_refl _ | refine leL_cons (by first | exact leT_refl _ | exact leT_virt | exact leT_junk _ | exact leT_sl | exact leT_sln | exact leT_nil) ?_)))) | (first | exact leT_refl _ | exact leT_sl | exact leT_sln | exact leT_nil | (refine leT_tup (by repeat (first | exact leL_refl _ | refine leL_cons (by first | exact leT_refl _ | exact leT_virt | exact leT_junk _ | exact leT_sl | exact leT_sln | exact leT_nil) ?_))) | (refine leT_agg (by repeat (first | exact leL_refl _ | refine leL_cons (by first | exact leT_refl _ | exact leT_virt | exact leT_junk _ | exact leT_sl | exact leT_sln | exact leT_nil) ?_)))) | (simp only [List.append_assoc, List.cons_append, List.nil_append]; exact leT_refl _) | (rw [List.take_of_length_le (by simp)]; (try simp only [List.append_assoc, List.cons_append, List.nil_append]); exact leT_refl _)
              · refine runX_condF rfl c8 ?_
                refine runX_skip ?_
                refine endX_seq ?_
                refine runX_seq ?_
                refine runX_seq ?_
                refine runX_regionC fun C hC => ?_
                try simp -implicitDefEqProofs (maxSteps := 4000000) (disch := first | omega | decide | (simp only [go_sem]; omega)) only [go_sem, ↓reduceIte]
                repeat (with_reducible refine And.intro (by first | assumption | omega | (simp; done) | (simp; omega)) ?_)
                refine toEnd hC ?_
                refine endX_seq ?_
                rcases iteB_some h with ⟨c10, h⟩ | ⟨c10, h⟩
                · refine runX_condT rfl c10 ?_
                  refine runX_seq ?_
                  refine runX_regionC fun C hC => ?_
                  try simp -implicitDefEqProofs (maxSteps := 4000000) (disch := first | omega | decide | (simp only [go_sem]; omega)) only [go_sem, ↓reduceIte]
                  repeat (with_reducible refine And.intro (by first | assumption | omega | (simp; done) | (simp; omega)) ?_)
                  refine buildX_val ?_
                  obtain ⟨g11, h⟩ := grd_some h
                  try simp -implicitDefEqProofs (maxSteps := 4000000) (disch := first | omega | decide | (simp only [go_sem]; omega)) only [go_sem, ↓reduceIte]
                  repeat (with_reducible refine And.intro (by first | assumption | omega | (simp; done) | (simp; omega)) ?_)
                  refine toEnd hC ?_
                  refine endX_seq ?_
                  refine runX_ret ?_
                  refine endX_seqR ?_
                  refine endX_q ?_
                  obtain rfl := Option.some.inj h
                  show RetW _ _ _ _ _
                  simp only [RetW]
                  (try simp -implicitDefEqProofs (maxSteps := 4000000) (disch := first | omega | decide | (simp only [go_sem]; omega)) only [go_sem, ↓reduceIte])
                  (try simp (disch := omega) only [if_pos, Nat.sub_zero])
                  first | exact leT_refl _ | (refine ⟨rfl, ?_⟩; first | exact leT_refl _ | exact leT_sl | exact leT_sln | exact leT_nil | (refine leT_tup (by repeat (first | exact leL_refl _ | refine leL_cons (by first | exact leT_refl _ | exact leT_virt | exact leT_junk _ | exact leT_sl | exact leT_sln | exact leT_nil) ?_))) | (refine leT_agg (by repeat (first | exact leL_refl _ | refine leL_cons (by first | exact leT_refl _ | exact leT_virt | exact leT_junk _ | exact leT_sl | exact leT_sln | exact leT_nil) ?_)))) | (first | exact leT_refl _ | exact leT_sl | exact leT_sln | exact leT_nil | (refine leT_tup (by repeat (first | exact leL_refl _ | refine leL_cons (by first | exact leT_refl _ | exact leT_virt | exact leT_junk _ | exact leT_sl | exact leT_sln | exact leT_nil) ?_))) | (refine leT_agg (by repeat (first | exact leL_refl _ | refine leL_cons (by first | exact leT_refl _ | exact leT_virt | exact leT_junk _ | exact leT_sl | exact leT_sln | exact leT_nil) ?_)))) | (simp only [List.append_assoc, List.cons_append, List.nil_append]; exact leT_refl _) | (rw [List.take_of_length_le (by simp)]; (try simp only [List.append_assoc, List.cons_append, List.nil_append]); exact leT_refl _)
                · refine runX_condF rfl c10 ?_
                  refine runX_skip ?_
                  refine endX_seq ?_
                  refine runX_seq ?_
                  refine runX_regionC fun C hC => ?_
                  try simp -implicitDefEqProofs (maxSteps := 4000000) (disch := first | omega | decide | (simp only [go_sem]; omega)) only [go_sem, ↓reduceIte]
                  repeat (with_reducible refine And.intro (by first | assumption | omega | (simp; done) | (simp; omega)) ?_)
                  refine buildX_val ?_
                  obtain ⟨g12, h⟩ := grd_some h
                  try simp -implicitDefEqProofs (maxSteps := 4000000) (disch := first | omega | decide | (simp only [go_sem]; omega)) only [go_sem, ↓reduceIte]
                  repeat (with_reducible refine And.intro (by first | assumption | omega | (simp; done) | (simp; omega)) ?_)
                  refine toEnd hC ?_
                  refine endX_seq ?_
                  refine runX_ret ?_
                  refine endX_q ?_
                  obtain rfl := Option.some.inj h
                  show RetW _ _ _ _ _
                  simp only [RetW]
                  (try simp -implicitDefEqProofs (maxSteps := 4000000) (disch := first | omega | decide | (simp only [go_sem]; omega)) only [go_sem, ↓reduceIte])
                  (try simp (disch := omega) only [if_pos, Nat.sub_zero])
                  first | exact leT_refl _ | (refine ⟨rfl, ?_⟩; first | exact leT_refl _ | exact leT_sl | exact leT_sln | exact leT_nil | (refine leT_tup (by repeat (first | exact leL_refl _ | refine leL_cons (by first | exact leT_refl _ | exact leT_virt | exact leT_junk _ | exact leT_sl | exact leT_sln | exact leT_nil) ?_))) | (refine leT_agg (by repeat (first | exact leL_refl _ | refine leL_cons (by first | exact leT_refl _ | exact leT_virt | exact leT_junk _ | exact leT_sl | exact leT_sln | exact leT_nil) ?_)))) | (first | exact leT_refl _ | exact leT_sl | exact leT_sln | exact leT_nil | (refine leT_tup (by repeat (first | exact leL_refl _ | refine leL_cons (by first | exact leT_refl _ | exact leT_virt | exact leT_junk _ | exact leT_sl | exact leT_sln | exact leT_nil) ?_))) | (refine leT_agg (by repeat (first | exact leL_refl _ | refine leL_cons (by first | exact leT_refl _ | exact leT_virt | exact leT_junk _ | exact leT_sl | exact leT_sln | exact leT_nil) ?_)))) | (simp only [List.append_assoc, List.cons_append, List.nil_append]; exact leT_refl _) | (rw [List.take_of_length_le (by simp)]; (try simp only [List.append_assoc, List.cons_append, List.nil_append]); exact leT_refl _)
        · refine guardK_F c4 ?_
          try simp -implicitDefEqProofs (maxSteps := 4000000) (disch := first | omega | decide | (simp only [go_sem]; omega)) only [go_sem, ↓reduceIte]
          repeat (with_reducible refine And.intro (by first | assumption | omega | (simp; done) | (simp; omega)) ?_)
          refine toEnd hC ?_
          refine endX_seq ?_
          refine runX_condF rfl rfl ?_
          refine runX_skip ?_
          refine endX_seq ?_
          refine runX_seq ?_
          refine runX_seq ?_
          refine runX_regionC fun C hC => ?_
          try simp -implicitDefEqProofs (maxSteps := 4000000) (disch := first | omega | decide | (simp only [go_sem]; omega)) only [go_sem, ↓reduceIte]
          repeat (with_reducible refine And.intro (by first | assumption | omega | (simp; done) | (simp; omega)) ?_)
          refine toEnd hC ?_
          refine endX_seq ?_
          rcases iteB_some h with ⟨c13, h⟩ | ⟨c13, h⟩
          · refine runX_condT rfl c13 ?_
            refine runX_seq ?_
            refine runX_regionC fun C hC => ?_
            try simp -implicitDefEqProofs (maxSteps := 4000000) (disch := first | omega | decide | (simp only [go_sem]; omega)) only [go_sem, ↓reduceIte]
            repeat (with_reducible refine And.intro (by first | assumption | omega | (simp; done) | (simp; omega)) ?_)
            refine buildX_val ?_
            obtain ⟨g14, h⟩ := grd_some h
            try simp -implicitDefEqProofs (maxSteps := 4000000) (disch := first | omega | decide | (simp only [go_sem]; omega)) only [go_sem, ↓reduceIte]
            repeat (with_reducible refine And.intro (by first | assumption | omega | (simp; done) | (simp; omega)) ?_)
            refine toEnd hC ?_
            refine endX_seq ?_
            refine runX_ret ?_
            refine endX_seqR ?_
            refine endX_q ?_
            obtain rfl := Option.some.inj h
            show RetW _ _ _ _ _
            simp only [RetW]
            (try simp -implicitDefEqProofs (maxSteps := 4000000) (disch := first | omega | decide | (simp only [go_sem]; omega)) only [go_sem, ↓reduceIte])
            (try simp (disch := omega) only [if_pos, Nat.sub_zero])
            first | exact leT_refl _ | (refine ⟨rfl, ?_⟩; first | exact leT_refl _ | exact leT_sl | exact leT_sln | exact leT_nil | (refine leT_tup (by repeat (first | exact leL_refl _ | refine leL_cons (by first | exact leT_refl _ | exact leT_virt | exact leT_junk _ | exact leT_sl | exact leT_sln | exact leT_nil) ?_))) | (refine leT_agg (by repeat (first | exact leL_refl _ | refine leL_cons (by first | exact leT_refl _ | exact leT_virt | exact leT_junk _ | exact leT_sl | exact leT_sln | exact leT_nil) ?_)))) | (first | exact leT_refl _ | exact leT_sl | exact leT_sln | exact leT_nil | (refine leT_tup (by repeat (first | exact leL_refl _ | refine leL_cons (by first | exact leT_refl _ | exact leT_virt | exact leT_junk _ | exact leT_sl | exact leT_sln | exact leT_nil) ?_))) | (refine leT_agg (by repeat (first | exact leL_refl _ | refine leL_cons (by first | exact leT_refl _ | exact leT_virt | exact leT_junk _ | exact leT_sl | exact leT_sln | exact leT_nil) ?_)))) | (simp only [List.append_assoc, List.cons_append, List.nil_append]; exact leT_refl _) | (rw [List.take_of_length_le (by simp)]; (try simp only [List.append_assoc, List.cons_append, List.nil_append]); exact leT_refl _)
          · refine runX_condF rfl c13 ?_
            refine runX_skip ?_
            refine endX_seq ?_
            refine runX_seq ?_
            refine runX_seq ?_
            refine runX_regionC fun C hC => ?_
            try simp -implicitDefEqProofs (maxSteps := 4000000) (disch := first | omega | decide | (simp only [go_sem]; omega)) only [go_sem, ↓reduceIte]
            repeat (with_reducible refine And.intro (by first | assumption | omega | (simp; done) | (simp; omega)) ?_)
            refine toEnd hC ?_
            refine endX_seq ?_
            rcases iteB_some h with ⟨c15, h⟩ | ⟨c15, h⟩
            · refine runX_condT rfl c15 ?_
              refine runX_seq ?_
              refine runX_regionC fun C hC => ?_
              try simp -implicitDefEqProofs (maxSteps := 4000000) (disch := first | omega | decide | (simp only [go_sem]; omega)) only [go_sem, ↓reduceIte]
              repeat (with_reducible refine And.intro (by first | assumption | omega | (simp; done) | (simp; omega)) ?_)
              refine buildX_val ?_
              obtain ⟨g16, h⟩ := grd_some h
              try simp -implicitDefEqProofs (maxSteps := 4000000) (disch := first | omega | decide | (simp only [go_sem]; omega)) only [go_sem, ↓reduceIte]
              repeat (with_reducible refine And.intro (by first | assumption | omega | (simp; done) | (simp; omega)) ?_)
              refine toEnd hC ?_
              refine endX_seq ?_
              refine runX_ret ?_
              refine endX_seqR ?_
              refine endX_q ?_
              obtain rfl := Option.some.inj h
              show RetW _ _ _ _ _
              simp only [RetW]
              (try simp -implicitDefEqProofs (maxSteps := 4000000) (disch := first | omega | decide | (simp only [go_sem]; omega)) only [go_sem, ↓reduceIte])
              (try simp (disch := omega) only [if_pos, Nat.sub_zero])
              first | exact leT_refl _ | (refine ⟨rfl, ?_⟩; first | exact leT_refl _ | exact leT_sl | exact leT_sln | exact leT_nil | (refine leT_tup (by repeat (first | exact leL_refl _ | refine leL_cons (by first | exact leT_refl _ | exact leT_virt | exact leT_junk _ | exact leT_sl | exact leT_sln | exact leT_nil) ?_))) | (refine leT_agg (by repeat (first | exact leL_refl _ | refine leL_cons (by first | exact leT_refl _ | exact leT_virt | exact leT_junk _ | exact leT_sl | exact leT_sln | exact leT_nil) ?_)))) | (first | exact leT_refl _ | exact leT_sl | exact leT_sln | exact leT_nil | (refine leT_tup (by repeat (first | exact leL_refl _ | refine leL_cons (by first | exact leT_refl _ | exact leT_virt | exact leT_junk _ | exact leT_sl | exact leT_sln | exact leT_nil) ?_))) | (refine leT_agg (by repeat (first | exact leL_refl _ | refine leL_cons (by first | exact leT_refl _ | exact leT_virt | exact leT_junk _ | exact leT_sl | exact leT_sln | exact leT_nil) ?_)))) | (simp only [List.append_assoc, List.cons_append, List.nil_append]; exact leT_refl _) | (rw [List.take_of_length_le (by simp)]; (try simp only [List.append_assoc, List.cons_append, List.nil_append]); exact leT_refl _)
            · refine runX_condF rfl c15 ?_
              refine runX_skip ?_
              refine endX_seq ?_
              refine runX_seq ?_
              refine runX_seq ?_
              refine runX_regionC fun C hC => ?_
              try simp -implicitDefEqProofs (maxSteps := 4000000) (disch := first | omega | decide | (simp only [go_sem]; omega)) only [go_sem, ↓reduceIte]
              repeat (with_reducible refine And.intro (by first | assumption | omega | (simp; done) | (simp; omega)) ?_)
              refine toEnd hC ?_
              refine endX_seq ?_
              rcases iteB_some h with ⟨c17, h⟩ | ⟨c17, h⟩
              · refine runX_condT rfl c17 ?_
                refine runX_seq ?_
                refine runX_regionC fun C hC => ?_
                try simp -implicitDefEqProofs (maxSteps := 4000000) (disch := first | omega | decide | (simp only [go_sem]; omega)) only [go_sem, ↓reduceIte]
                repeat (with_reducible refine And.intro (by first | assumption | omega | (simp; done) | (simp; omega)) ?_)
                refine buildX_val ?_
                obtain ⟨g18, h⟩ := grd_some h
                try simp -implicitDefEqProofs (maxSteps := 4000000) (disch := first | omega | decide | (simp only [go_sem]; omega)) only [go_sem, ↓reduceIte]
                repeat (with_reducible refine And.intro (by first | assumption | omega | (simp; done) | (simp; omega)) ?_)
                refine toEnd hC ?_
                refine endX_seq ?_
                refine runX_ret ?_
                refine endX_seqR ?_
                refine endX_q ?_
                obtain rfl := Option.some.inj h
                show RetW _ _ _ _ _
                simp only [RetW]
                (try simp -implicitDefEqProofs (maxSteps := 4000000) (disch := first | omega | decide | (simp only [go_sem]; omega)) only [go_sem, ↓reduceIte])
                (try simp (disch := omega) only [if_pos, Nat.sub_zero])
                first | exact leT_refl _ | (refine ⟨rfl, ?_⟩; first | exact leT_refl _ | exact leT_sl | exact leT_sln | exact leT_nil | (refine leT_tup (by repeat (first | exact leL_refl _ | refine leL_cons (by first | exact leT_refl _ | exact leT_virt | exact leT_junk _ | exact leT_sl | exact leT_sln | exact leT_nil) ?_))) | (refine leT_agg (by repeat (first | exact leL_refl _ | refine leL_cons (by first | exact leT_refl _ | exact leT_virt | exact leT_junk _ | exact leT_sl | exact leT_sln | exact leT_nil) ?_)))) | (first | exact leT_refl _ | exact leT_sl | exact leT_sln | exact leT_nil | (refine leT_tup (by repeat (first | exact leL_refl _ | refine leL_cons (by first | exact leT_refl _ | exact leT_virt | exact leT_junk _ | exact leT_sl | exact leT_sln | exact leT_nil) ?_))) | (refine leT_agg (by repeat (first | exact leL_refl _ | refine leL_cons (by first | exact leT_refl _ | exact leT_virt | exact leT_junk _ | exact leT_sl | exact leT_sln | exact leT_nil) ?_)))) | (simp only [List.append_assoc, List.cons_append, List.nil_append]; exact leT_refl _) | (rw [List.take_of_length_le (by simp)]; (try simp only [List.append_assoc, List.cons_append, List.nil_append]); exact leT_refl _)
              · refine runX_condF rfl c17 ?_
                refine runX_skip ?_
                refine endX_seq ?_
                refine runX_seq ?_
                refine runX_regionC fun C hC => ?_
                try simp -implicitDefEqProofs (maxSteps := 4000000) (disch := first | omega | decide | (simp only [go_sem]; omega)) only [go_sem, ↓reduceIte]
                repeat (with_reducible refine And.intro (by first | assumption | omega | (simp; done) | (simp; omega)) ?_)
                refine buildX_val ?_
                obtain ⟨g19, h⟩ := grd_some h
                try simp -implicitDefEqProofs (maxSteps := 4000000) (disch := first | omega | decide | (simp only [go_sem]; omega)) only [go_sem, ↓reduceIte]
                repeat (with_reducible refine And.intro (by first | assumption | omega | (simp; done) | (simp; omega)) ?_)
                refine toEnd hC ?_
                refine endX_seq ?_
                refine runX_ret ?_
                refine endX_q ?_
                obtain rfl := Option.some.inj h
                show RetW _ _ _ _ _
                simp only [RetW]
                (try simp -implicitDefEqProofs (maxSteps := 4000000) (disch := first | omega | decide | (simp only [go_sem]; omega)) only [go_sem, ↓reduceIte])
                (try simp (disch := omega) only [if_pos, Nat.sub_zero])
                first | exact leT_refl _ | (refine ⟨rfl, ?_⟩; first | exact leT_refl _ | exact leT_sl | exact leT_sln | exact leT_nil | (refine leT_tup (by repeat (first | exact leL_refl _ | refine leL_cons (by first | exact leT_refl _ | exact leT_virt | exact leT_junk _ | exact leT_sl | exact leT_sln | exact leT_nil) ?_))) | (refine leT_agg (by repeat (first | exact leL_refl _ | refine leL_cons (by first | exact leT_refl _ | exact leT_virt | exact leT_junk _ | exact leT_sl | exact leT_sln | exact leT_nil) ?_)))) | (first | exact leT_refl _ | exact leT_sl | exact leT_sln | exact leT_nil | (refine leT_tup (by repeat (first | exact leL_refl _ | refine leL_cons (by first | exact leT_refl _ | exact leT_virt | exact leT_junk _ | exact leT_sl | exact leT_sln | exact leT_nil) ?_))) | (refine leT_agg (by repeat (first | exact leL_refl _ | refine leL_cons (by first | exact leT_refl _ | exact leT_virt | exact leT_junk _ | exact leT_sl | exact leT_sln | exact leT_nil) ?_)))) | (simp only [List.append_assoc, List.cons_append, List.nil_append]; exact leT_refl _) | (rw [List.take_of_length_le (by simp)]; (try simp only [List.append_assoc, List.cons_append, List.nil_append]); exact leT_refl _)
end Go.Proofs.YtdfghdppbfabfaaDoorX

set_option linter.unusedVariables false
set_option linter.unusedSimpArgs false
namespace Go.Proofs.YtdfghdppbfabfaaDoorX
open Go Go.RowKit Go.Proofs
set_option maxRecDepth 100000
attribute [local go_sem] String.reduceEq String.reduceNe reduceCtorEq Int.reduceEq Nat.reduceAdd Nat.reduceSub Nat.reduceMul Nat.reduceLT Nat.reduceLeDiff Nat.reduceEqDiff Nat.reduceBEq Int.reduceToNat Int.reduceLT Int.reduceLE Int.reduceGT Int.reduceGE Int.reduceAdd Int.reduceSub Int.reduceMul Int.reduceNeg Int.reduceBEq Int.reduceBNe Int.reducePow Int.reduceDiv Int.reduceMod Int.reduceTDiv Int.reduceTMod Int.reduceNatCast
/-! ### shadowboxref14.Next -/
def F42_S2 (a0 : List UInt8) (x2 : Int) (x10 : Int) : St := ⟨[.imm (.string (bs a0)), .junk, .junk, .junk, .imm (.int .i64 x10), .imm (.int .i64 x2), .junk, .junk, .junk, .junk, .junk, .junk, .junk, .junk, .junk, .junk, .junk, .junk, .junk, .junk, .junk, .junk, .junk, .junk, .junk, .junk, .junk, .junk, .junk, .junk, .junk, .junk, .junk, .junk, .junk, .junk, .junk, .junk, .junk, .junk, .junk, .junk, .junk, .junk, .junk, .junk, .junk, .junk, .junk, .junk, .junk, .junk, .junk, .junk, .junk, .junk, .junk, .junk], []⟩
def F42_S1 (a0 : List UInt8) (x1 : Int) (x2 : Int) : St := ⟨[.imm (.string (bs a0)), .junk, .junk, .junk, .imm (.int .i64 x1), .imm (.int .i64 x2), .junk, .junk, .junk, .junk, .junk, .junk, .junk, .junk, .junk, .junk, .junk, .junk, .junk, .junk, .junk, .junk, .junk, .junk, .junk, .junk, .junk, .junk, .junk, .junk, .junk, .junk, .junk, .junk, .junk, .junk, .junk, .junk, .junk, .junk, .junk, .junk, .junk, .junk, .junk, .junk, .junk, .junk, .junk, .junk, .junk, .junk, .junk, .junk, .junk, .junk, .junk, .junk], []⟩
mutual
def F42_J2 (m1 : Nat) (a0 : List UInt8) (x2 : Int) (x10 : Int) : Option ((Int) × (Int)) := iteB (decide (x10 ≤ (1114111 : Int))) ((F52 m1 [] (IntKind.wrap .i32 (x10))).bind fun v12 => grd (0 ≤ x2 ∧ x2 ≤ (a0.length : Int)) (iteB ((v12.map toB) == (a0.take x2.toNat)) (some ((IntKind.wrap .i32 (x10)), x2)) (F42_L1 m1 a0 x10 (IntKind.wrap .i64 (x2 + (1 : Int)))))) (F42_L1 m1 a0 x10 (IntKind.wrap .i64 (x2 + (1 : Int))))
def F42_L1 : Nat → (List UInt8) → (Int) → (Int) → Option ((Int) × (Int))
  | 0, _, _, _ => none
  | m1 + 1, a0, x1, x2 => iteB (decide (x2 ≤ (4 : Int))) (iteB (decide (x2 ≤ (a0.length : Int))) (grd (0 ≤ (IntKind.wrap .i64 (x2 - (1 : Int))) ∧ (IntKind.wrap .i64 (x2 - (1 : Int))) < (a0.length : Int)) (iteB (x2 == (1 : Int)) (iteB (decide ((240 : Int) ≤ (IntKind.wrap .i64 (((a0.getD (IntKind.wrap .i64 (x2 - (1 : Int))).toNat 0).toNat : Int))))) (F42_J2 m1 a0 x2 (IntKind.wrap .i64 ((IntKind.wrap .i64 (((a0.getD (IntKind.wrap .i64 (x2 - (1 : Int))).toNat 0).toNat : Int))) - (240 : Int)))) (iteB (decide ((224 : Int) ≤ (IntKind.wrap .i64 (((a0.getD (IntKind.wrap .i64 (x2 - (1 : Int))).toNat 0).toNat : Int))))) (F42_J2 m1 a0 x2 (IntKind.wrap .i64 ((IntKind.wrap .i64 (((a0.getD (IntKind.wrap .i64 (x2 - (1 : Int))).toNat 0).toNat : Int))) - (224 : Int)))) (iteB (decide ((192 : Int) ≤ (IntKind.wrap .i64 (((a0.getD (IntKind.wrap .i64 (x2 - (1 : Int))).toNat 0).toNat : Int))))) (F42_J2 m1 a0 x2 (IntKind.wrap .i64 ((IntKind.wrap .i64 (((a0.getD (IntKind.wrap .i64 (x2 - (1 : Int))).toNat 0).toNat : Int))) - (192 : Int)))) (F42_J2 m1 a0 x2 (IntKind.wrap .i64 (((a0.getD (IntKind.wrap .i64 (x2 - (1 : Int))).toNat 0).toNat : Int))))))) (F42_J2 m1 a0 x2 (IntKind.wrap .i64 ((IntKind.wrap .i64 (x1 * (64 : Int))) + ((IntKind.wrap .i64 ((IntKind.wrap .i64 (((a0.getD (IntKind.wrap .i64 (x2 - (1 : Int))).toNat 0).toNat : Int))) + (128 : Int))).tmod (256 : Int))))))) (some ((0 : Int), (0 : Int)))) (some ((0 : Int), (0 : Int)))
end
def F42 (n : Nat) (a0 : List UInt8) : Option ((Int) × (Int)) := F42_L1 n a0 (0 : Int) (1 : Int)
set_option maxHeartbeats 4000000 in
theorem F42_ok : ∀ (n : Nat) (a0 : List UInt8) (r : (Int) × (Int)), F42 n a0 = some r → FnC Tryd.prog 42 [.imm (.string (bs a0))] (.tup [.imm (.int .i32 r.1), .imm (.int .i64 r.2)])
  | n, a0, r, h => by
    unfold F42 at h
    refine FnC.goX mixed Tryd.func42 (by kernel_rfl) rfl ?_
    simp only [Tryd.ntmps42, List.length_cons, List.length_nil, List.replicate, List.cons_append, List.nil_append, Nat.reduceAdd, Nat.reduceSub]
    refine runX_seq ?_
    refine runX_regionC fun C hC => ?_
    try simp -implicitDefEqProofs (maxSteps := 4000000) (disch := first | omega | decide | (simp only [go_sem]; omega)) only [go_sem, ↓reduceIte]
    repeat (with_reducible refine And.intro (by first | assumption | omega | (simp; done) | (simp; omega)) ?_)
    refine toEnd hC ?_
    refine endX_seq ?_
    refine runX_seq ?_
    refine runX_regionC fun C hC => ?_
    try simp -implicitDefEqProofs (maxSteps := 4000000) (disch := first | omega | decide | (simp only [go_sem]; omega)) only [go_sem, ↓reduceIte]
    repeat (with_reducible refine And.intro (by first | assumption | omega | (simp; done) | (simp; omega)) ?_)
    refine toEnd hC ?_
    refine endX_seq ?_
    refine runX_seq ?_
    refine runX_seq ?_
    refine runX_regionC fun C hC => ?_
    try simp -implicitDefEqProofs (maxSteps := 4000000) (disch := first | omega | decide | (simp only [go_sem]; omega)) only [go_sem, ↓reduceIte]
    repeat (with_reducible refine And.intro (by first | assumption | omega | (simp; done) | (simp; omega)) ?_)
    refine toEnd hC ?_
    refine endX_seq ?_
    refine runX_block ?_
    refine runX_loop [0, 4, 5] (fun m S => ∃ (x1 : Int) (x2 : Int), S = F42_S1 a0 x1 x2 ∧ m ≤ n ∧ F42_L1 m a0 x1 x2 = some r) n ⟨F42_S1 a0 (0 : Int) (1 : Int), ?_, (0 : Int), (1 : Int), rfl, Nat.le_refl _, h⟩ ?_
    · simp only [F42_S1]
      (try simp -implicitDefEqProofs (maxSteps := 4000000) (disch := first | omega | decide | (simp only [go_sem]; omega)) only [go_sem, ↓reduceIte])
      first | exact leS_refl _ | (refine leS_le ?_ ?_ <;> first | exact leL_refl _ | exact leOs_refl _ | (repeat (first | exact leL_refl _ | refine leL_cons (by first | exact leT_refl _ | exact leT_virt | exact leT_junk _ | exact leT_sl | exact leT_sln | exact leT_nil) ?_)))
    · clear h
      rintro m1 S ⟨x1, x2, rfl, hm1, h⟩
      cases m1 with
      | zero => first | cases (show (none : Option _) = some _ from h) | (rw [F42_L1] at h; cases h)
      | succ m1 =>
        rw [F42_L1] at h
        simp only [F42_S1]
        refine runX_seq ?_
        refine runX_seq ?_
        refine runX_regionC fun C hC => ?_
        try simp -implicitDefEqProofs (maxSteps := 4000000) (disch := first | omega | decide | (simp only [go_sem]; omega)) only [go_sem, ↓reduceIte]
        repeat (with_reducible refine And.intro (by first | assumption | omega | (simp; done) | (simp; omega)) ?_)
        rcases iteB_some h with ⟨c3, h⟩ | ⟨c3, h⟩
        · refine guardK_T c3 ?_
          try simp -implicitDefEqProofs (maxSteps := 4000000) (disch := first | omega | decide | (simp only [go_sem]; omega)) only [go_sem, ↓reduceIte]
          repeat (with_reducible refine And.intro (by first | assumption | omega | (simp; done) | (simp; omega)) ?_)
          refine toEnd hC ?_
          refine endX_seq ?_
          rcases iteB_some h with ⟨c4, h⟩ | ⟨c4, h⟩
          · refine runX_condT rfl c4 ?_
            refine runX_skip ?_
            refine endX_seq ?_
            refine runX_seq ?_
            refine runX_block ?_
            refine runX_seq ?_
            refine runX_regionC fun C hC => ?_
            obtain ⟨g5, h⟩ := grd_some h
            try simp -implicitDefEqProofs (maxSteps := 4000000) (disch := first | omega | decide | (simp only [go_sem]; omega)) only [go_sem, ↓reduceIte]
            repeat (with_reducible refine And.intro (by first | assumption | omega | (simp; done) | (simp; omega)) ?_)
            refine toEnd hC ?_
            refine endX_seq ?_
            refine runX_meet [0, 4, 5] (fun S => ∃ (x10 : Int), S = F42_S2 a0 x2 x10 ∧ F42_J2 m1 a0 x2 x10 = some r) ?_ ?_
            · refine runX_seq ?_
              refine runX_regionC fun C hC => ?_
              try simp -implicitDefEqProofs (maxSteps := 4000000) (disch := first | omega | decide | (simp only [go_sem]; omega)) only [go_sem, ↓reduceIte]
              repeat (with_reducible refine And.intro (by first | assumption | omega | (simp; done) | (simp; omega)) ?_)
              refine toEnd hC ?_
              refine endX_seq ?_
              rcases iteB_some h with ⟨c6, h⟩ | ⟨c6, h⟩
              · refine runX_condT rfl c6 ?_
                refine runX_seq ?_
                refine runX_regionC fun C hC => ?_
                try simp -implicitDefEqProofs (maxSteps := 4000000) (disch := first | omega | decide | (simp only [go_sem]; omega)) only [go_sem, ↓reduceIte]
                repeat (with_reducible refine And.intro (by first | assumption | omega | (simp; done) | (simp; omega)) ?_)
                refine toEnd hC ?_
                refine endX_seq ?_
                refine runX_seq ?_
                refine runX_regionC fun C hC => ?_
                try simp -implicitDefEqProofs (maxSteps := 4000000) (disch := first | omega | decide | (simp only [go_sem]; omega)) only [go_sem, ↓reduceIte]
                repeat (with_reducible refine And.intro (by first | assumption | omega | (simp; done) | (simp; omega)) ?_)
                refine toEnd hC ?_
                refine endX_seq ?_
                rcases iteB_some h with ⟨c7, h⟩ | ⟨c7, h⟩
                · refine runX_condT rfl c7 ?_
                  refine runX_regionC fun C hC => ?_
                  try simp -implicitDefEqProofs (maxSteps := 4000000) (disch := first | omega | decide | (simp only [go_sem]; omega)) only [go_sem, ↓reduceIte]
                  repeat (with_reducible refine And.intro (by first | assumption | omega | (simp; done) | (simp; omega)) ?_)
                  refine toEnd hC ?_
                  refine endX_q (meetQ_normal ⟨F42_S2 a0 x2 (IntKind.wrap .i64 ((IntKind.wrap .i64 (((a0.getD (IntKind.wrap .i64 (x2 - (1 : Int))).toNat 0).toNat : Int))) - (240 : Int))), ?_, (IntKind.wrap .i64 ((IntKind.wrap .i64 (((a0.getD (IntKind.wrap .i64 (x2 - (1 : Int))).toNat 0).toNat : Int))) - (240 : Int))), rfl, h⟩)
                  simp only [F42_S2]
                  (try simp -implicitDefEqProofs (maxSteps := 4000000) (disch := first | omega | decide | (simp only [go_sem]; omega)) only [go_sem, ↓reduceIte])
                  first | exact leS_refl _ | (refine leS_le ?_ ?_ <;> first | exact leL_refl _ | exact leOs_refl _ | (repeat (first | exact leL_refl _ | refine leL_cons (by first | exact leT_refl _ | exact leT_virt | exact leT_junk _ | exact leT_sl | exact leT_sln | exact leT_nil) ?_)))
                · refine runX_condF rfl c7 ?_
                  refine runX_seq ?_
                  refine runX_regionC fun C hC => ?_
                  try simp -implicitDefEqProofs (maxSteps := 4000000) (disch := first | omega | decide | (simp only [go_sem]; omega)) only [go_sem, ↓reduceIte]
                  repeat (with_reducible refine And.intro (by first | assumption | omega | (simp; done) | (simp; omega)) ?_)
                  refine toEnd hC ?_
                  refine endX_seq ?_
                  rcases iteB_some h with ⟨c8, h⟩ | ⟨c8, h⟩
                  · refine runX_condT rfl c8 ?_
                    refine runX_regionC fun C hC => ?_
                    try simp -implicitDefEqProofs (maxSteps := 4000000) (disch := first | omega | decide | (simp only [go_sem]; omega)) only [go_sem, ↓reduceIte]
                    repeat (with_reducible refine And.intro (by first | assumption | omega | (simp; done) | (simp; omega)) ?_)
                    refine toEnd hC ?_
                    refine endX_q (meetQ_normal ⟨F42_S2 a0 x2 (IntKind.wrap .i64 ((IntKind.wrap .i64 (((a0.getD (IntKind.wrap .i64 (x2 - (1 : Int))).toNat 0).toNat : Int))) - (224 : Int))), ?_, (IntKind.wrap .i64 ((IntKind.wrap .i64 (((a0.getD (IntKind.wrap .i64 (x2 - (1 : Int))).toNat 0).toNat : Int))) - (224 : Int))), rfl, h⟩)
                    simp only [F42_S2]
                    (try simp -implicitDefEqProofs (maxSteps := 4000000) (disch := first | omega | decide | (simp only [go_sem]; omega)) only [go_sem, ↓reduceIte])
                    first | exact leS_refl _ | (refine leS_le ?_ ?_ <;> first | exact leL_refl _ | exact leOs_refl _ | (repeat (first | exact leL_refl _ | refine leL_cons (by first | exact leT_refl _ | exact leT_virt | exact leT_junk _ | exact leT_sl | exact leT_sln | exact leT_nil) ?_)))
                  · refine runX_condF rfl c8 ?_
                    refine runX_seq ?_
                    refine runX_regionC fun C hC => ?_
                    try simp -implicitDefEqProofs (maxSteps := 4000000) (disch := first | omega | decide | (simp only [go_sem]; omega)) only [go_sem, ↓reduceIte]
                    repeat (with_reducible refine And.intro (by first | assumption | omega | (simp; done) | (simp; omega)) ?_)
                    refine toEnd hC ?_
                    refine endX_seq ?_
                    rcases iteB_some h with ⟨c9, h⟩ | ⟨c9, h⟩
                    · refine runX_condT rfl c9 ?_
                      refine runX_regionC fun C hC => ?_
                      try simp -implicitDefEqProofs (maxSteps := 4000000) (disch := first | omega | decide | (simp only [go_sem]; omega)) only [go_sem, ↓reduceIte]
                      repeat (with_reducible refine And.intro (by first | assumption | omega | (simp; done) | (simp; omega)) ?_)
                      refine toEnd hC ?_
                      refine endX_q (meetQ_normal ⟨F42_S2 a0 x2 (IntKind.wrap .i64 ((IntKind.wrap .i64 (((a0.getD (IntKind.wrap .i64 (x2 - (1 : Int))).toNat 0).toNat : Int))) - (192 : Int))), ?_, (IntKind.wrap .i64 ((IntKind.wrap .i64 (((a0.getD (IntKind.wrap .i64 (x2 - (1 : Int))).toNat 0).toNat : Int))) - (192 : Int))), rfl, h⟩)
                      simp only [F42_S2]
                      (try simp -implicitDefEqProofs (maxSteps := 4000000) (disch := first | omega | decide | (simp only [go_sem]; omega)) only [go_sem, ↓reduceIte])
                      first | exact leS_refl _ | (refine leS_le ?_ ?_ <;> first | exact leL_refl _ | exact leOs_refl _ | (repeat (first | exact leL_refl _ | refine leL_cons (by first | exact leT_refl _ | exact leT_virt | exact leT_junk _ | exact leT_sl | exact leT_sln | exact leT_nil) ?_)))
                    · refine runX_condF rfl c9 ?_
                      refine runX_skip ?_
                      refine endX_q (meetQ_normal ⟨F42_S2 a0 x2 (IntKind.wrap .i64 (((a0.getD (IntKind.wrap .i64 (x2 - (1 : Int))).toNat 0).toNat : Int))), ?_, (IntKind.wrap .i64 (((a0.getD (IntKind.wrap .i64 (x2 - (1 : Int))).toNat 0).toNat : Int))), rfl, h⟩)
                      simp only [F42_S2]
                      (try simp -implicitDefEqProofs (maxSteps := 4000000) (disch := first | omega | decide | (simp only [go_sem]; omega)) only [go_sem, ↓reduceIte])
                      first | exact leS_refl _ | (refine leS_le ?_ ?_ <;> first | exact leL_refl _ | exact leOs_refl _ | (repeat (first | exact leL_refl _ | refine leL_cons (by first | exact leT_refl _ | exact leT_virt | exact leT_junk _ | exact leT_sl | exact leT_sln | exact leT_nil) ?_)))
              · refine runX_condF rfl c6 ?_
                refine runX_regionC fun C hC => ?_
                try simp -implicitDefEqProofs (maxSteps := 4000000) (disch := first | omega | decide | (simp only [go_sem]; omega)) only [go_sem, ↓reduceIte]
                repeat (with_reducible refine And.intro (by first | assumption | omega | (simp; done) | (simp; omega)) ?_)
                refine toEnd hC ?_
                refine endX_q (meetQ_normal ⟨F42_S2 a0 x2 (IntKind.wrap .i64 ((IntKind.wrap .i64 (x1 * (64 : Int))) + ((IntKind.wrap .i64 ((IntKind.wrap .i64 (((a0.getD (IntKind.wrap .i64 (x2 - (1 : Int))).toNat 0).toNat : Int))) + (128 : Int))).tmod (256 : Int)))), ?_, (IntKind.wrap .i64 ((IntKind.wrap .i64 (x1 * (64 : Int))) + ((IntKind.wrap .i64 ((IntKind.wrap .i64 (((a0.getD (IntKind.wrap .i64 (x2 - (1 : Int))).toNat 0).toNat : Int))) + (128 : Int))).tmod (256 : Int)))), rfl, h⟩)
                simp only [F42_S2]
                (try simp -implicitDefEqProofs (maxSteps := 4000000) (disch := first | omega | decide | (simp only [go_sem]; omega)) only [go_sem, ↓reduceIte])
                first | exact leS_refl _ | (refine leS_le ?_ ?_ <;> first | exact leL_refl _ | exact leOs_refl _ | (repeat (first | exact leL_refl _ | refine leL_cons (by first | exact leT_refl _ | exact leT_virt | exact leT_junk _ | exact leT_sl | exact leT_sln | exact leT_nil) ?_)))
            · clear h
              rintro S ⟨x10, rfl, h⟩
              rw [F42_J2] at h
              simp only [F42_S2]
              refine runX_seq ?_
              refine runX_drawC mixed (by kernel_rfl) fun C hC => ?_
              try simp -implicitDefEqProofs (maxSteps := 4000000) (disch := first | omega | decide | (simp only [go_sem]; omega)) only [go_sem, ↓reduceIte]
              repeat (with_reducible refine And.intro (by first | assumption | omega | (simp; done) | (simp; omega)) ?_)
              rcases iteB_some h with ⟨c11, h⟩ | ⟨c11, h⟩
              · refine guardD_T c11 ?_
                obtain ⟨v12, h12, h⟩ := bnd_some h
                try simp -implicitDefEqProofs (maxSteps := 4000000) (disch := first | omega | decide | (simp only [go_sem]; omega)) only [go_sem, ↓reduceIte]
                repeat (with_reducible refine And.intro (by first | assumption | omega | (simp; done) | (simp; omega)) ?_)
                refine callD_X (F52_ok m1 [] (IntKind.wrap .i32 (x10)) _ h12) (by repeat (first | exact leL_refl _ | refine leL_cons (by first | exact leT_refl _ | exact leT_virt | exact leT_junk _ | exact leT_sl | exact leT_sln | exact leT_nil) ?_)) ?_
                obtain ⟨g13, h⟩ := grd_some h
                try simp -implicitDefEqProofs (maxSteps := 4000000) (disch := first | omega | decide | (simp only [go_sem]; omega)) only [go_sem, ↓reduceIte]
                repeat (with_reducible refine And.intro (by first | assumption | omega | (simp; done) | (simp; omega)) ?_)
                refine toEnd hC ?_
                refine endX_seq ?_
                rcases iteB_some h with ⟨c14, h⟩ | ⟨c14, h⟩
                · refine runX_condT rfl c14 ?_
                  refine runX_seq ?_
                  refine runX_regionC fun C hC => ?_
                  try simp -implicitDefEqProofs (maxSteps := 4000000) (disch := first | omega | decide | (simp only [go_sem]; omega)) only [go_sem, ↓reduceIte]
                  repeat (with_reducible refine And.intro (by first | assumption | omega | (simp; done) | (simp; omega)) ?_)
                  refine toEnd hC ?_
                  refine endX_seq ?_
                  refine runX_ret ?_
                  refine endX_blkR ?_
                  refine endX_seqR ?_
                  refine endX_q (roundQ_ret ?_)
                  refine endX_blkR ?_
                  refine endX_seqR ?_
                  refine endX_q ?_
                  obtain rfl := Option.some.inj h
                  show RetW _ _ _ _ _
                  simp only [RetW]
                  (try simp -implicitDefEqProofs (maxSteps := 4000000) (disch := first | omega | decide | (simp only [go_sem]; omega)) only [go_sem, ↓reduceIte])
                  (try simp (disch := omega) only [if_pos, Nat.sub_zero])
                  exact leT_refl _
                · refine runX_condF rfl c14 ?_
                  refine runX_skip ?_
                  refine endX_blk ?_
                  refine endX_seq ?_
                  refine runX_regionC fun C hC => ?_
                  try simp -implicitDefEqProofs (maxSteps := 4000000) (disch := first | omega | decide | (simp only [go_sem]; omega)) only [go_sem, ↓reduceIte]
                  repeat (with_reducible refine And.intro (by first | assumption | omega | (simp; done) | (simp; omega)) ?_)
                  refine toEnd hC ?_
                  refine endX_q (roundQ_normal ⟨m1, by omega, F42_S1 a0 x10 (IntKind.wrap .i64 (x2 + (1 : Int))), ?_, x10, (IntKind.wrap .i64 (x2 + (1 : Int))), rfl, by omega, h⟩)
                  simp only [F42_S1]
                  (try simp -implicitDefEqProofs (maxSteps := 4000000) (disch := first | omega | decide | (simp only [go_sem]; omega)) only [go_sem, ↓reduceIte])
                  first | exact leS_refl _ | (refine leS_le ?_ ?_ <;> first | exact leL_refl _ | exact leOs_refl _ | (repeat (first | exact leL_refl _ | refine leL_cons (by first | exact leT_refl _ | exact leT_virt | exact leT_junk _ | exact leT_sl | exact leT_sln | exact leT_nil) ?_)))
              · refine guardD_F c11 ?_
                try simp -implicitDefEqProofs (maxSteps := 4000000) (disch := first | omega | decide | (simp only [go_sem]; omega)) only [go_sem, ↓reduceIte]
                repeat (with_reducible refine And.intro (by first | assumption | omega | (simp; done) | (simp; omega)) ?_)
                refine toEnd hC ?_
                refine endX_seq ?_
                refine runX_condF rfl rfl ?_
                refine runX_skip ?_
                refine endX_blk ?_
                refine endX_seq ?_
                refine runX_regionC fun C hC => ?_
                try simp -implicitDefEqProofs (maxSteps := 4000000) (disch := first | omega | decide | (simp only [go_sem]; omega)) only [go_sem, ↓reduceIte]
                repeat (with_reducible refine And.intro (by first | assumption | omega | (simp; done) | (simp; omega)) ?_)
                refine toEnd hC ?_
                refine endX_q (roundQ_normal ⟨m1, by omega, F42_S1 a0 x10 (IntKind.wrap .i64 (x2 + (1 : Int))), ?_, x10, (IntKind.wrap .i64 (x2 + (1 : Int))), rfl, by omega, h⟩)
                simp only [F42_S1]
                (try simp -implicitDefEqProofs (maxSteps := 4000000) (disch := first | omega | decide | (simp only [go_sem]; omega)) only [go_sem, ↓reduceIte])
                first | exact leS_refl _ | (refine leS_le ?_ ?_ <;> first | exact leL_refl _ | exact leOs_refl _ | (repeat (first | exact leL_refl _ | refine leL_cons (by first | exact leT_refl _ | exact leT_virt | exact leT_junk _ | exact leT_sl | exact leT_sln | exact leT_nil) ?_)))
          · refine runX_condF rfl c4 ?_
            refine runX_exit ?_
            refine endX_seqE ?_
            refine endX_q (roundQ_exit ?_)
            refine endX_blkE ?_
            refine endX_seq ?_
            refine runX_seq ?_
            refine runX_regionC fun C hC => ?_
            try simp -implicitDefEqProofs (maxSteps := 4000000) (disch := first | omega | decide | (simp only [go_sem]; omega)) only [go_sem, ↓reduceIte]
            repeat (with_reducible refine And.intro (by first | assumption | omega | (simp; done) | (simp; omega)) ?_)
            refine toEnd hC ?_
            refine endX_seq ?_
            refine runX_ret ?_
            refine endX_q ?_
            obtain rfl := Option.some.inj h
            show RetW _ _ _ _ _
            simp only [RetW]
            (try simp -implicitDefEqProofs (maxSteps := 4000000) (disch := first | omega | decide | (simp only [go_sem]; omega)) only [go_sem, ↓reduceIte])
            (try simp (disch := omega) only [if_pos, Nat.sub_zero])
            exact leT_refl _
        · refine guardK_F c3 ?_
          try simp -implicitDefEqProofs (maxSteps := 4000000) (disch := first | omega | decide | (simp only [go_sem]; omega)) only [go_sem, ↓reduceIte]
          repeat (with_reducible refine And.intro (by first | assumption | omega | (simp; done) | (simp; omega)) ?_)
          refine toEnd hC ?_
          refine endX_seq ?_
          refine runX_condF rfl rfl ?_
          refine runX_exit ?_
          refine endX_seqE ?_
          refine endX_q (roundQ_exit ?_)
          refine endX_blkE ?_
          refine endX_seq ?_
          refine runX_seq ?_
          refine runX_regionC fun C hC => ?_
          try simp -implicitDefEqProofs (maxSteps := 4000000) (disch := first | omega | decide | (simp only [go_sem]; omega)) only [go_sem, ↓reduceIte]
          repeat (with_reducible refine And.intro (by first | assumption | omega | (simp; done) | (simp; omega)) ?_)
          refine toEnd hC ?_
          refine endX_seq ?_
          refine runX_ret ?_
          refine endX_q ?_
          obtain rfl := Option.some.inj h
          show RetW _ _ _ _ _
          simp only [RetW]
          (try simp -implicitDefEqProofs (maxSteps := 4000000) (disch := first | omega | decide | (simp only [go_sem]; omega)) only [go_sem, ↓reduceIte])
          (try simp (disch := omega) only [if_pos, Nat.sub_zero])
          exact leT_refl _
end Go.Proofs.YtdfghdppbfabfaaDoorX

set_option linter.unusedVariables false
set_option linter.unusedSimpArgs false
namespace Go.Proofs.YtdfghdppbfabfaaDoorX
open Go Go.RowKit Go.Proofs
set_option maxRecDepth 100000
attribute [local go_sem] String.reduceEq String.reduceNe reduceCtorEq Int.reduceEq Nat.reduceAdd Nat.reduceSub Nat.reduceMul Nat.reduceLT Nat.reduceLeDiff Nat.reduceEqDiff Nat.reduceBEq Int.reduceToNat Int.reduceLT Int.reduceLE Int.reduceGT Int.reduceGE Int.reduceAdd Int.reduceSub Int.reduceMul Int.reduceNeg Int.reduceBEq Int.reduceBNe Int.reducePow Int.reduceDiv Int.reduceMod Int.reduceTDiv Int.reduceTMod Int.reduceNatCast
/-! ### shadowboxref14.Count -/
def F31_S1 (x1 : List UInt8) (x2 : Int) : St := ⟨[.imm (.string (bs x1)), .junk, .junk, .imm (.int .i64 x2), .junk, .junk, .junk, .junk, .junk, .junk, .junk, .junk, .junk, .junk, .junk, .junk, .junk, .junk, .junk, .junk, .junk, .junk], []⟩
def F31_L1 : Nat → (List UInt8) → (Int) → Option (Int)
  | 0, _, _ => none
  | m1 + 1, x1, x2 => iteB (decide ((0 : Int) < (x1.length : Int))) ((F42 m1 x1).bind fun v4 => iteB (v4.2 == (0 : Int)) (some (-1 : Int)) (grd (0 ≤ v4.2 ∧ v4.2 ≤ (x1.length : Int)) (F31_L1 m1 (x1.drop v4.2.toNat) (IntKind.wrap .i64 (x2 + (1 : Int)))))) (some x2)
def F31 (n : Nat) (a0 : List UInt8) : Option (Int) := F31_L1 n a0 (0 : Int)
set_option maxHeartbeats 4000000 in
theorem F31_ok : ∀ (n : Nat) (a0 : List UInt8) (r : Int), F31 n a0 = some r → FnC Tryd.prog 31 [.imm (.string (bs a0))] (.imm (.int .i64 r))
  | n, a0, r, h => by
    unfold F31 at h
    refine FnC.goX mixed Tryd.func31 (by kernel_rfl) rfl ?_
    simp only [Tryd.ntmps31, List.length_cons, List.length_nil, List.replicate, List.cons_append, List.nil_append, Nat.reduceAdd, Nat.reduceSub]
    refine runX_seq ?_
    refine runX_regionC fun C hC => ?_
    try simp -implicitDefEqProofs (maxSteps := 4000000) (disch := first | omega | decide | (simp only [go_sem]; omega)) only [go_sem, ↓reduceIte]
    repeat (with_reducible refine And.intro (by first | assumption | omega | (simp; done) | (simp; omega)) ?_)
    refine toEnd hC ?_
    refine endX_seq ?_
    refine runX_seq ?_
    refine runX_regionC fun C hC => ?_
    try simp -implicitDefEqProofs (maxSteps := 4000000) (disch := first | omega | decide | (simp only [go_sem]; omega)) only [go_sem, ↓reduceIte]
    repeat (with_reducible refine And.intro (by first | assumption | omega | (simp; done) | (simp; omega)) ?_)
    refine toEnd hC ?_
    refine endX_seq ?_
    refine runX_seq ?_
    refine runX_block ?_
    refine runX_loop [0, 3] (fun m S => ∃ (x1 : List UInt8) (x2 : Int), S = F31_S1 x1 x2 ∧ m ≤ n ∧ F31_L1 m x1 x2 = some r) n ⟨F31_S1 a0 (0 : Int), ?_, a0, (0 : Int), rfl, Nat.le_refl _, h⟩ ?_
    · simp only [F31_S1]
      (try simp -implicitDefEqProofs (maxSteps := 4000000) (disch := first | omega | decide | (simp only [go_sem]; omega)) only [go_sem, ↓reduceIte])
      first | exact leS_refl _ | (refine leS_le ?_ ?_ <;> first | exact leL_refl _ | exact leOs_refl _ | (repeat (first | exact leL_refl _ | refine leL_cons (by first | exact leT_refl _ | exact leT_virt | exact leT_junk _ | exact leT_sl | exact leT_sln | exact leT_nil) ?_)))
    · clear h
      rintro m1 S ⟨x1, x2, rfl, hm1, h⟩
      cases m1 with
      | zero => first | cases (show (none : Option _) = some _ from h) | (rw [F31_L1] at h; cases h)
      | succ m1 =>
        rw [F31_L1] at h
        simp only [F31_S1]
        refine runX_seq ?_
        refine runX_seq ?_
        refine runX_regionC fun C hC => ?_
        try simp -implicitDefEqProofs (maxSteps := 4000000) (disch := first | omega | decide | (simp only [go_sem]; omega)) only [go_sem, ↓reduceIte]
        repeat (with_reducible refine And.intro (by first | assumption | omega | (simp; done) | (simp; omega)) ?_)
        refine toEnd hC ?_
        refine endX_seq ?_
        rcases iteB_some h with ⟨c3, h⟩ | ⟨c3, h⟩
        · refine runX_condT rfl c3 ?_
          refine runX_skip ?_
          refine endX_seq ?_
          refine runX_block ?_
          refine runX_seq ?_
          refine runX_regionC fun C hC => ?_
          obtain ⟨v4, h4, h⟩ := bnd_some h
          try simp -implicitDefEqProofs (maxSteps := 4000000) (disch := first | omega | decide | (simp only [go_sem]; omega)) only [go_sem, ↓reduceIte]
          repeat (with_reducible refine And.intro (by first | assumption | omega | (simp; done) | (simp; omega)) ?_)
          refine callG_X (F42_ok m1 x1 _ h4) (by repeat (first | exact leL_refl _ | refine leL_cons (by first | exact leT_refl _ | exact leT_virt | exact leT_junk _ | exact leT_sl | exact leT_sln | exact leT_nil) ?_)) ?_
          try simp -implicitDefEqProofs (maxSteps := 4000000) (disch := first | omega | decide | (simp only [go_sem]; omega)) only [go_sem, ↓reduceIte]
          repeat (with_reducible refine And.intro (by first | assumption | omega | (simp; done) | (simp; omega)) ?_)
          refine toEnd hC ?_
          refine endX_seq ?_
          refine runX_seq ?_
          refine runX_seq ?_
          refine runX_regionC fun C hC => ?_
          try simp -implicitDefEqProofs (maxSteps := 4000000) (disch := first | omega | decide | (simp only [go_sem]; omega)) only [go_sem, ↓reduceIte]
          repeat (with_reducible refine And.intro (by first | assumption | omega | (simp; done) | (simp; omega)) ?_)
          refine toEnd hC ?_
          refine endX_seq ?_
          rcases iteB_some h with ⟨c5, h⟩ | ⟨c5, h⟩
          · refine runX_condT rfl c5 ?_
            refine runX_seq ?_
            refine runX_regionC fun C hC => ?_
            try simp -implicitDefEqProofs (maxSteps := 4000000) (disch := first | omega | decide | (simp only [go_sem]; omega)) only [go_sem, ↓reduceIte]
            repeat (with_reducible refine And.intro (by first | assumption | omega | (simp; done) | (simp; omega)) ?_)
            refine toEnd hC ?_
            refine endX_seq ?_
            refine runX_ret ?_
            refine endX_seqR ?_
            refine endX_blkR ?_
            refine endX_q (roundQ_ret ?_)
            refine endX_blkR ?_
            refine endX_seqR ?_
            refine endX_q ?_
            obtain rfl := Option.some.inj h
            show RetW _ _ _ _ _
            simp only [RetW]
            (try simp -implicitDefEqProofs (maxSteps := 4000000) (disch := first | omega | decide | (simp only [go_sem]; omega)) only [go_sem, ↓reduceIte])
            (try simp (disch := omega) only [if_pos, Nat.sub_zero])
            exact leT_refl _
          · refine runX_condF rfl c5 ?_
            refine runX_skip ?_
            refine endX_seq ?_
            refine runX_seq ?_
            refine runX_regionC fun C hC => ?_
            obtain ⟨g6, h⟩ := grd_some h
            try simp -implicitDefEqProofs (maxSteps := 4000000) (disch := first | omega | decide | (simp only [go_sem]; omega)) only [go_sem, ↓reduceIte]
            repeat (with_reducible refine And.intro (by first | assumption | omega | (simp; done) | (simp; omega)) ?_)
            refine toEnd hC ?_
            refine endX_seq ?_
            refine runX_regionC fun C hC => ?_
            try simp -implicitDefEqProofs (maxSteps := 4000000) (disch := first | omega | decide | (simp only [go_sem]; omega)) only [go_sem, ↓reduceIte]
            repeat (with_reducible refine And.intro (by first | assumption | omega | (simp; done) | (simp; omega)) ?_)
            refine toEnd hC ?_
            refine endX_blk ?_
            refine endX_q (roundQ_normal ⟨m1, by omega, F31_S1 (x1.drop v4.2.toNat) (IntKind.wrap .i64 (x2 + (1 : Int))), ?_, (x1.drop v4.2.toNat), (IntKind.wrap .i64 (x2 + (1 : Int))), rfl, by omega, h⟩)
            simp only [F31_S1]
            (try simp -implicitDefEqProofs (maxSteps := 4000000) (disch := first | omega | decide | (simp only [go_sem]; omega)) only [go_sem, ↓reduceIte])
            first | exact leS_refl _ | (refine leS_le ?_ ?_ <;> first | exact leL_refl _ | exact leOs_refl _ | (repeat (first | exact leL_refl _ | refine leL_cons (by first | exact leT_refl _ | exact leT_virt | exact leT_junk _ | exact leT_sl | exact leT_sln | exact leT_nil) ?_)))
        · refine runX_condF rfl c3 ?_
          refine runX_exit ?_
          refine endX_seqE ?_
          refine endX_q (roundQ_exit ?_)
          refine endX_blkE ?_
          refine endX_seq ?_
          refine runX_seq ?_
          refine runX_regionC fun C hC => ?_
          try simp -implicitDefEqProofs (maxSteps := 4000000) (disch := first | omega | decide | (simp only [go_sem]; omega)) only [go_sem, ↓reduceIte]
          repeat (with_reducible refine And.intro (by first | assumption | omega | (simp; done) | (simp; omega)) ?_)
          refine toEnd hC ?_
          refine endX_seq ?_
          refine runX_ret ?_
          refine endX_q ?_
          obtain rfl := Option.some.inj h
          show RetW _ _ _ _ _
          simp only [RetW]
          (try simp -implicitDefEqProofs (maxSteps := 4000000) (disch := first | omega | decide | (simp only [go_sem]; omega)) only [go_sem, ↓reduceIte])
          (try simp (disch := omega) only [if_pos, Nat.sub_zero])
          exact leT_refl _
end Go.Proofs.YtdfghdppbfabfaaDoorX

set_option linter.unusedVariables false
set_option linter.unusedSimpArgs false
namespace Go.Proofs.YtdfghdppbfabfaaDoorX
open Go Go.RowKit Go.Proofs
set_option maxRecDepth 100000
attribute [local go_sem] String.reduceEq String.reduceNe reduceCtorEq Int.reduceEq Nat.reduceAdd Nat.reduceSub Nat.reduceMul Nat.reduceLT Nat.reduceLeDiff Nat.reduceEqDiff Nat.reduceBEq Int.reduceToNat Int.reduceLT Int.reduceLE Int.reduceGT Int.reduceGE Int.reduceAdd Int.reduceSub Int.reduceMul Int.reduceNeg Int.reduceBEq Int.reduceBNe Int.reducePow Int.reduceDiv Int.reduceMod Int.reduceTDiv Int.reduceTMod Int.reduceNatCast
/-! ### shadowboxref27.Object -/
def F16_S2 (v11 : List (List UInt8)) (x14 : Int) : St := ⟨[.junk, .junk, .junk, .junk, .sl 1 false (List.map eS v11), .imm (.int .i64 x14), .junk, .junk, .junk, .junk, .junk, .junk, .junk, .junk, .junk, .junk, .junk, .junk, .junk, .junk, .junk, .junk, .junk, .junk, .junk, .junk, .junk, .junk, .junk, .junk, .junk, .junk, .junk, .junk, .junk, .junk, .junk, .junk, .junk, .junk, .junk, .junk, .junk, .junk, .junk, .junk, .junk, .junk, .junk, .junk, .junk, .junk, .junk, .junk, .junk, .junk], []⟩
def F16_S1 (a0 : List UInt8) (x5 : Int) : St := ⟨[.imm (.string (bs a0)), .junk, .junk, .imm (.int .i64 x5), .junk, .junk, .junk, .junk, .junk, .junk, .junk, .junk, .junk, .junk, .junk, .junk, .junk, .junk, .junk, .junk, .junk, .junk, .junk, .junk, .junk, .junk, .junk, .junk, .junk, .junk, .junk, .junk, .junk, .junk, .junk, .junk, .junk, .junk, .junk, .junk, .junk, .junk, .junk, .junk, .junk, .junk, .junk, .junk, .junk, .junk, .junk, .junk, .junk, .junk, .junk, .junk], []⟩
mutual
def F16_L2 : Nat → (List (List UInt8)) → (Int) → Option (Int)
  | 0, _, _ => none
  | m2 + 1, v11, x14 => iteB (decide (x14 < (v11.length : Int))) (grd (0 ≤ x14 ∧ x14 < (v11.length : Int)) (iteB ((v11.getD x14.toNat default) == ([46] : List UInt8)) (some (3 : Int)) (grd (0 ≤ x14 ∧ x14 < (v11.length : Int)) (iteB ((v11.getD x14.toNat default) == ([46, 46] : List UInt8)) (some (3 : Int)) (F16_L2 m2 v11 (IntKind.wrap .i64 (x14 + (1 : Int)))))))) (some (0 : Int))
def F16_L1 : Nat → (List UInt8) → (Int) → Option (Int)
  | 0, _, _ => none
  | m1 + 1, a0, x5 => iteB (decide (x5 < (a0.length : Int))) (grd (0 ≤ x5 ∧ x5 < (a0.length : Int)) (iteB (decide (((a0.getD x5.toNat 0).toNat : Int) < (32 : Int))) (some (2 : Int)) (grd (0 ≤ x5 ∧ x5 < (a0.length : Int)) (iteB (((a0.getD x5.toNat 0).toNat : Int) == (127 : Int)) (some (2 : Int)) (F16_L1 m1 a0 (IntKind.wrap .i64 (x5 + (1 : Int)))))))) ((F25 m1 a0 (47 : Int)).bind fun v11 => grd ((0 : Int) < (a0.length : Int)) (iteB (((a0.getD (0 : Int).toNat 0).toNat : Int) == (47 : Int)) (some (3 : Int)) (F16_L2 m1 v11 (0 : Int))))
end
def F16 (n : Nat) (a0 : List UInt8) : Option (Int) := iteB (decide ((a0.length : Int) < (1 : Int))) (some (1 : Int)) (iteB (decide ((64 : Int) < (a0.length : Int))) (some (1 : Int)) ((F31 n a0).bind fun v3 => iteB (decide (v3 < (0 : Int))) (some (2 : Int)) (F16_L1 n a0 (0 : Int))))
set_option maxHeartbeats 4000000 in
theorem F16_ok : ∀ (n : Nat) (a0 : List UInt8) (r : Int), F16 n a0 = some r → FnC Tryd.prog 16 [.imm (.string (bs a0))] (.imm (.int .i64 r))
  | n, a0, r, h => by
    unfold F16 at h
    refine FnC.goX mixed Tryd.func16 (by kernel_rfl) rfl ?_
    simp only [Tryd.ntmps16, List.length_cons, List.length_nil, List.replicate, List.cons_append, List.nil_append, Nat.reduceAdd, Nat.reduceSub]
    refine runX_seq ?_
    refine runX_regionC fun C hC => ?_
    try simp -implicitDefEqProofs (maxSteps := 4000000) (disch := first | omega | decide | (simp only [go_sem]; omega)) only [go_sem, ↓reduceIte]
    repeat (with_reducible refine And.intro (by first | assumption | omega | (simp; done) | (simp; omega)) ?_)
    refine toEnd hC ?_
    refine endX_seq ?_
    refine runX_seq ?_
    refine runX_seq ?_
    refine runX_regionC fun C hC => ?_
    try simp -implicitDefEqProofs (maxSteps := 4000000) (disch := first | omega | decide | (simp only [go_sem]; omega)) only [go_sem, ↓reduceIte]
    repeat (with_reducible refine And.intro (by first | assumption | omega | (simp; done) | (simp; omega)) ?_)
    rcases iteB_some h with ⟨c1, h⟩ | ⟨c1, h⟩
    · refine guardK_F c1 ?_
      try simp -implicitDefEqProofs (maxSteps := 4000000) (disch := first | omega | decide | (simp only [go_sem]; omega)) only [go_sem, ↓reduceIte]
      repeat (with_reducible refine And.intro (by first | assumption | omega | (simp; done) | (simp; omega)) ?_)
      refine toEnd hC ?_
      refine endX_seq ?_
      refine runX_condT rfl rfl ?_
      refine runX_seq ?_
      refine runX_regionC fun C hC => ?_
      try simp -implicitDefEqProofs (maxSteps := 4000000) (disch := first | omega | decide | (simp only [go_sem]; omega)) only [go_sem, ↓reduceIte]
      repeat (with_reducible refine And.intro (by first | assumption | omega | (simp; done) | (simp; omega)) ?_)
      refine toEnd hC ?_
      refine endX_seq ?_
      refine runX_ret ?_
      refine endX_seqR ?_
      refine endX_q ?_
      obtain rfl := Option.some.inj h
      show RetW _ _ _ _ _
      simp only [RetW]
      (try simp -implicitDefEqProofs (maxSteps := 4000000) (disch := first | omega | decide | (simp only [go_sem]; omega)) only [go_sem, ↓reduceIte])
      (try simp (disch := omega) only [if_pos, Nat.sub_zero])
      exact leT_refl _
    · refine guardK_T c1 ?_
      try simp -implicitDefEqProofs (maxSteps := 4000000) (disch := first | omega | decide | (simp only [go_sem]; omega)) only [go_sem, ↓reduceIte]
      repeat (with_reducible refine And.intro (by first | assumption | omega | (simp; done) | (simp; omega)) ?_)
      refine toEnd hC ?_
      refine endX_seq ?_
      rcases iteB_some h with ⟨c2, h⟩ | ⟨c2, h⟩
      · refine runX_condT rfl c2 ?_
        refine runX_seq ?_
        refine runX_regionC fun C hC => ?_
        try simp -implicitDefEqProofs (maxSteps := 4000000) (disch := first | omega | decide | (simp only [go_sem]; omega)) only [go_sem, ↓reduceIte]
        repeat (with_reducible refine And.intro (by first | assumption | omega | (simp; done) | (simp; omega)) ?_)
        refine toEnd hC ?_
        refine endX_seq ?_
        refine runX_ret ?_
        refine endX_seqR ?_
        refine endX_q ?_
        obtain rfl := Option.some.inj h
        show RetW _ _ _ _ _
        simp only [RetW]
        (try simp -implicitDefEqProofs (maxSteps := 4000000) (disch := first | omega | decide | (simp only [go_sem]; omega)) only [go_sem, ↓reduceIte])
        (try simp (disch := omega) only [if_pos, Nat.sub_zero])
        exact leT_refl _
      · refine runX_condF rfl c2 ?_
        refine runX_skip ?_
        refine endX_seq ?_
        refine runX_seq ?_
        refine runX_seq ?_
        refine runX_regionC fun C hC => ?_
        obtain ⟨v3, h3, h⟩ := bnd_some h
        try simp -implicitDefEqProofs (maxSteps := 4000000) (disch := first | omega | decide | (simp only [go_sem]; omega)) only [go_sem, ↓reduceIte]
        repeat (with_reducible refine And.intro (by first | assumption | omega | (simp; done) | (simp; omega)) ?_)
        refine callG_X (F31_ok n a0 _ h3) (by repeat (first | exact leL_refl _ | refine leL_cons (by first | exact leT_refl _ | exact leT_virt | exact leT_junk _ | exact leT_sl | exact leT_sln | exact leT_nil) ?_)) ?_
        try simp -implicitDefEqProofs (maxSteps := 4000000) (disch := first | omega | decide | (simp only [go_sem]; omega)) only [go_sem, ↓reduceIte]
        repeat (with_reducible refine And.intro (by first | assumption | omega | (simp; done) | (simp; omega)) ?_)
        refine toEnd hC ?_
        refine endX_seq ?_
        rcases iteB_some h with ⟨c4, h⟩ | ⟨c4, h⟩
        · refine runX_condT rfl c4 ?_
          refine runX_seq ?_
          refine runX_regionC fun C hC => ?_
          try simp -implicitDefEqProofs (maxSteps := 4000000) (disch := first | omega | decide | (simp only [go_sem]; omega)) only [go_sem, ↓reduceIte]
          repeat (with_reducible refine And.intro (by first | assumption | omega | (simp; done) | (simp; omega)) ?_)
          refine toEnd hC ?_
          refine endX_seq ?_
          refine runX_ret ?_
          refine endX_seqR ?_
          refine endX_q ?_
          obtain rfl := Option.some.inj h
          show RetW _ _ _ _ _
          simp only [RetW]
          (try simp -implicitDefEqProofs (maxSteps := 4000000) (disch := first | omega | decide | (simp only [go_sem]; omega)) only [go_sem, ↓reduceIte])
          (try simp (disch := omega) only [if_pos, Nat.sub_zero])
          exact leT_refl _
        · refine runX_condF rfl c4 ?_
          refine runX_skip ?_
          refine endX_seq ?_
          refine runX_seq ?_
          refine runX_seq ?_
          refine runX_regionC fun C hC => ?_
          try simp -implicitDefEqProofs (maxSteps := 4000000) (disch := first | omega | decide | (simp only [go_sem]; omega)) only [go_sem, ↓reduceIte]
          repeat (with_reducible refine And.intro (by first | assumption | omega | (simp; done) | (simp; omega)) ?_)
          refine toEnd hC ?_
          refine endX_seq ?_
          refine runX_block ?_
          refine runX_loop [0, 3] (fun m S => ∃ (x5 : Int), S = F16_S1 a0 x5 ∧ m ≤ n ∧ F16_L1 m a0 x5 = some r) n ⟨F16_S1 a0 (0 : Int), ?_, (0 : Int), rfl, Nat.le_refl _, h⟩ ?_
          · simp only [F16_S1]
            (try simp -implicitDefEqProofs (maxSteps := 4000000) (disch := first | omega | decide | (simp only [go_sem]; omega)) only [go_sem, ↓reduceIte])
            first | exact leS_refl _ | (refine leS_le ?_ ?_ <;> first | exact leL_refl _ | exact leOs_refl _ | (repeat (first | exact leL_refl _ | refine leL_cons (by first | exact leT_refl _ | exact leT_virt | exact leT_junk _ | exact leT_sl | exact leT_sln | exact leT_nil) ?_)))
          · clear h
            rintro m1 S ⟨x5, rfl, hm1, h⟩
            cases m1 with
            | zero => first | cases (show (none : Option _) = some _ from h) | (rw [F16_L1] at h; cases h)
            | succ m1 =>
              rw [F16_L1] at h
              simp only [F16_S1]
              refine runX_seq ?_
              refine runX_seq ?_
              refine runX_regionC fun C hC => ?_
              try simp -implicitDefEqProofs (maxSteps := 4000000) (disch := first | omega | decide | (simp only [go_sem]; omega)) only [go_sem, ↓reduceIte]
              repeat (with_reducible refine And.intro (by first | assumption | omega | (simp; done) | (simp; omega)) ?_)
              refine toEnd hC ?_
              refine endX_seq ?_
              rcases iteB_some h with ⟨c6, h⟩ | ⟨c6, h⟩
              · refine runX_condT rfl c6 ?_
                refine runX_skip ?_
                refine endX_seq ?_
                refine runX_seq ?_
                refine runX_block ?_
                refine runX_seq ?_
                refine runX_regionC fun C hC => ?_
                obtain ⟨g7, h⟩ := grd_some h
                try simp -implicitDefEqProofs (maxSteps := 4000000) (disch := first | omega | decide | (simp only [go_sem]; omega)) only [go_sem, ↓reduceIte]
                repeat (with_reducible refine And.intro (by first | assumption | omega | (simp; done) | (simp; omega)) ?_)
                rcases iteB_some h with ⟨c8, h⟩ | ⟨c8, h⟩
                · refine guardK_F c8 ?_
                  try simp -implicitDefEqProofs (maxSteps := 4000000) (disch := first | omega | decide | (simp only [go_sem]; omega)) only [go_sem, ↓reduceIte]
                  repeat (with_reducible refine And.intro (by first | assumption | omega | (simp; done) | (simp; omega)) ?_)
                  refine toEnd hC ?_
                  refine endX_seq ?_
                  refine runX_condT rfl rfl ?_
                  refine runX_seq ?_
                  refine runX_regionC fun C hC => ?_
                  try simp -implicitDefEqProofs (maxSteps := 4000000) (disch := first | omega | decide | (simp only [go_sem]; omega)) only [go_sem, ↓reduceIte]
                  repeat (with_reducible refine And.intro (by first | assumption | omega | (simp; done) | (simp; omega)) ?_)
                  refine toEnd hC ?_
                  refine endX_seq ?_
                  refine runX_ret ?_
                  refine endX_blkR ?_
                  refine endX_seqR ?_
                  refine endX_q (roundQ_ret ?_)
                  refine endX_blkR ?_
                  refine endX_seqR ?_
                  refine endX_q ?_
                  obtain rfl := Option.some.inj h
                  show RetW _ _ _ _ _
                  simp only [RetW]
                  (try simp -implicitDefEqProofs (maxSteps := 4000000) (disch := first | omega | decide | (simp only [go_sem]; omega)) only [go_sem, ↓reduceIte])
                  (try simp (disch := omega) only [if_pos, Nat.sub_zero])
                  exact leT_refl _
                · refine guardK_T c8 ?_
                  obtain ⟨g9, h⟩ := grd_some h
                  try simp -implicitDefEqProofs (maxSteps := 4000000) (disch := first | omega | decide | (simp only [go_sem]; omega)) only [go_sem, ↓reduceIte]
                  repeat (with_reducible refine And.intro (by first | assumption | omega | (simp; done) | (simp; omega)) ?_)
                  refine toEnd hC ?_
                  refine endX_seq ?_
                  rcases iteB_some h with ⟨c10, h⟩ | ⟨c10, h⟩
                  · refine runX_condT rfl c10 ?_
                    refine runX_seq ?_
                    refine runX_regionC fun C hC => ?_
                    try simp -implicitDefEqProofs (maxSteps := 4000000) (disch := first | omega | decide | (simp only [go_sem]; omega)) only [go_sem, ↓reduceIte]
                    repeat (with_reducible refine And.intro (by first | assumption | omega | (simp; done) | (simp; omega)) ?_)
                    refine toEnd hC ?_
                    refine endX_seq ?_
                    refine runX_ret ?_
                    refine endX_blkR ?_
                    refine endX_seqR ?_
                    refine endX_q (roundQ_ret ?_)
                    refine endX_blkR ?_
                    refine endX_seqR ?_
                    refine endX_q ?_
                    obtain rfl := Option.some.inj h
                    show RetW _ _ _ _ _
                    simp only [RetW]
                    (try simp -implicitDefEqProofs (maxSteps := 4000000) (disch := first | omega | decide | (simp only [go_sem]; omega)) only [go_sem, ↓reduceIte])
                    (try simp (disch := omega) only [if_pos, Nat.sub_zero])
                    exact leT_refl _
                  · refine runX_condF rfl c10 ?_
                    refine runX_skip ?_
                    refine endX_blk ?_
                    refine endX_seq ?_
                    refine runX_regionC fun C hC => ?_
                    try simp -implicitDefEqProofs (maxSteps := 4000000) (disch := first | omega | decide | (simp only [go_sem]; omega)) only [go_sem, ↓reduceIte]
                    repeat (with_reducible refine And.intro (by first | assumption | omega | (simp; done) | (simp; omega)) ?_)
                    refine toEnd hC ?_
                    refine endX_q (roundQ_normal ⟨m1, by omega, F16_S1 a0 (IntKind.wrap .i64 (x5 + (1 : Int))), ?_, (IntKind.wrap .i64 (x5 + (1 : Int))), rfl, by omega, h⟩)
                    simp only [F16_S1]
                    (try simp -implicitDefEqProofs (maxSteps := 4000000) (disch := first | omega | decide | (simp only [go_sem]; omega)) only [go_sem, ↓reduceIte])
                    first | exact leS_refl _ | (refine leS_le ?_ ?_ <;> first | exact leL_refl _ | exact leOs_refl _ | (repeat (first | exact leL_refl _ | refine leL_cons (by first | exact leT_refl _ | exact leT_virt | exact leT_junk _ | exact leT_sl | exact leT_sln | exact leT_nil) ?_)))
              · refine runX_condF rfl c6 ?_
                refine runX_exit ?_
                refine endX_seqE ?_
                refine endX_q (roundQ_exit ?_)
                refine endX_blkE ?_
                refine endX_seq ?_
                refine runX_seq ?_
                refine runX_regionC fun C hC => ?_
                obtain ⟨v11, h11, h⟩ := bnd_some h
                try simp -implicitDefEqProofs (maxSteps := 4000000) (disch := first | omega | decide | (simp only [go_sem]; omega)) only [go_sem, ↓reduceIte]
                repeat (with_reducible refine And.intro (by first | assumption | omega | (simp; done) | (simp; omega)) ?_)
                refine callG_X (F25_ok m1 a0 (47 : Int) _ h11) (by repeat (first | exact leL_refl _ | refine leL_cons (by first | exact leT_refl _ | exact leT_virt | exact leT_junk _ | exact leT_sl | exact leT_sln | exact leT_nil) ?_)) ?_
                try simp -implicitDefEqProofs (maxSteps := 4000000) (disch := first | omega | decide | (simp only [go_sem]; omega)) only [go_sem, ↓reduceIte]
                repeat (with_reducible refine And.intro (by first | assumption | omega | (simp; done) | (simp; omega)) ?_)
                refine toEnd hC ?_
                refine endX_seq ?_
                refine runX_seq ?_
                refine runX_seq ?_
                refine runX_regionC fun C hC => ?_
                obtain ⟨g12, h⟩ := grd_some h
                try simp -implicitDefEqProofs (maxSteps := 4000000) (disch := first | omega | decide | (simp only [go_sem]; omega)) only [go_sem, ↓reduceIte]
                repeat (with_reducible refine And.intro (by first | assumption | omega | (simp; done) | (simp; omega)) ?_)
                refine toEnd hC ?_
                refine endX_seq ?_
                rcases iteB_some h with ⟨c13, h⟩ | ⟨c13, h⟩
                · refine runX_condT rfl c13 ?_
                  refine runX_seq ?_
                  refine runX_regionC fun C hC => ?_
                  try simp -implicitDefEqProofs (maxSteps := 4000000) (disch := first | omega | decide | (simp only [go_sem]; omega)) only [go_sem, ↓reduceIte]
                  repeat (with_reducible refine And.intro (by first | assumption | omega | (simp; done) | (simp; omega)) ?_)
                  refine toEnd hC ?_
                  refine endX_seq ?_
                  refine runX_ret ?_
                  refine endX_seqR ?_
                  refine endX_q ?_
                  obtain rfl := Option.some.inj h
                  show RetW _ _ _ _ _
                  simp only [RetW]
                  (try simp -implicitDefEqProofs (maxSteps := 4000000) (disch := first | omega | decide | (simp only [go_sem]; omega)) only [go_sem, ↓reduceIte])
                  (try simp (disch := omega) only [if_pos, Nat.sub_zero])
                  exact leT_refl _
                · refine runX_condF rfl c13 ?_
                  refine runX_skip ?_
                  refine endX_seq ?_
                  refine runX_seq ?_
                  refine runX_seq ?_
                  refine runX_regionC fun C hC => ?_
                  try simp -implicitDefEqProofs (maxSteps := 4000000) (disch := first | omega | decide | (simp only [go_sem]; omega)) only [go_sem, ↓reduceIte]
                  repeat (with_reducible refine And.intro (by first | assumption | omega | (simp; done) | (simp; omega)) ?_)
                  refine toEnd hC ?_
                  refine endX_seq ?_
                  refine runX_block ?_
                  refine runX_loop [4, 5] (fun m S => ∃ (x14 : Int), S = F16_S2 v11 x14 ∧ m ≤ m1 ∧ F16_L2 m v11 x14 = some r) m1 ⟨F16_S2 v11 (0 : Int), ?_, (0 : Int), rfl, Nat.le_refl _, h⟩ ?_
                  · simp only [F16_S2]
                    (try simp -implicitDefEqProofs (maxSteps := 4000000) (disch := first | omega | decide | (simp only [go_sem]; omega)) only [go_sem, ↓reduceIte])
                    first | exact leS_refl _ | (refine leS_le ?_ ?_ <;> first | exact leL_refl _ | exact leOs_refl _ | (repeat (first | exact leL_refl _ | refine leL_cons (by first | exact leT_refl _ | exact leT_virt | exact leT_junk _ | exact leT_sl | exact leT_sln | exact leT_nil) ?_)))
                  · clear h
                    rintro m2 S ⟨x14, rfl, hm2, h⟩
                    cases m2 with
                    | zero => first | cases (show (none : Option _) = some _ from h) | (rw [F16_L2] at h; cases h)
                    | succ m2 =>
                      rw [F16_L2] at h
                      simp only [F16_S2]
                      refine runX_seq ?_
                      refine runX_seq ?_
                      refine runX_regionC fun C hC => ?_
                      try simp -implicitDefEqProofs (maxSteps := 4000000) (disch := first | omega | decide | (simp only [go_sem]; omega)) only [go_sem, ↓reduceIte]
                      repeat (with_reducible refine And.intro (by first | assumption | omega | (simp; done) | (simp; omega)) ?_)
                      refine toEnd hC ?_
                      refine endX_seq ?_
                      rcases iteB_some h with ⟨c15, h⟩ | ⟨c15, h⟩
                      · refine runX_condT rfl c15 ?_
                        refine runX_skip ?_
                        refine endX_seq ?_
                        refine runX_seq ?_
                        refine runX_block ?_
                        refine runX_seq ?_
                        refine runX_regionC fun C hC => ?_
                        obtain ⟨g16, h⟩ := grd_some h
                        try simp -implicitDefEqProofs (maxSteps := 4000000) (disch := first | omega | decide | (simp only [go_sem]; omega)) only [go_sem, ↓reduceIte]
                        repeat (with_reducible refine And.intro (by first | assumption | omega | (simp; done) | (simp; omega)) ?_)
                        rcases iteB_some h with ⟨c17, h⟩ | ⟨c17, h⟩
                        · refine guardK_F c17 ?_
                          try simp -implicitDefEqProofs (maxSteps := 4000000) (disch := first | omega | decide | (simp only [go_sem]; omega)) only [go_sem, ↓reduceIte]
                          repeat (with_reducible refine And.intro (by first | assumption | omega | (simp; done) | (simp; omega)) ?_)
                          refine toEnd hC ?_
                          refine endX_seq ?_
                          refine runX_condT rfl rfl ?_
                          refine runX_seq ?_
                          refine runX_regionC fun C hC => ?_
                          try simp -implicitDefEqProofs (maxSteps := 4000000) (disch := first | omega | decide | (simp only [go_sem]; omega)) only [go_sem, ↓reduceIte]
                          repeat (with_reducible refine And.intro (by first | assumption | omega | (simp; done) | (simp; omega)) ?_)
                          refine toEnd hC ?_
                          refine endX_seq ?_
                          refine runX_ret ?_
                          refine endX_blkR ?_
                          refine endX_seqR ?_
                          refine endX_q (roundQ_ret ?_)
                          refine endX_blkR ?_
                          refine endX_seqR ?_
                          refine endX_q ?_
                          obtain rfl := Option.some.inj h
                          show RetW _ _ _ _ _
                          simp only [RetW]
                          (try simp -implicitDefEqProofs (maxSteps := 4000000) (disch := first | omega | decide | (simp only [go_sem]; omega)) only [go_sem, ↓reduceIte])
                          (try simp (disch := omega) only [if_pos, Nat.sub_zero])
                          exact leT_refl _
                        · refine guardK_T c17 ?_
                          obtain ⟨g18, h⟩ := grd_some h
                          try simp -implicitDefEqProofs (maxSteps := 4000000) (disch := first | omega | decide | (simp only [go_sem]; omega)) only [go_sem, ↓reduceIte]
                          repeat (with_reducible refine And.intro (by first | assumption | omega | (simp; done) | (simp; omega)) ?_)
                          refine toEnd hC ?_
                          refine endX_seq ?_
                          rcases iteB_some h with ⟨c19, h⟩ | ⟨c19, h⟩
                          · refine runX_condT rfl c19 ?_
                            refine runX_seq ?_
                            refine runX_regionC fun C hC => ?_
                            try simp -implicitDefEqProofs (maxSteps := 4000000) (disch := first | omega | decide | (simp only [go_sem]; omega)) only [go_sem, ↓reduceIte]
                            repeat (with_reducible refine And.intro (by first | assumption | omega | (simp; done) | (simp; omega)) ?_)
                            refine toEnd hC ?_
                            refine endX_seq ?_
                            refine runX_ret ?_
                            refine endX_blkR ?_
                            refine endX_seqR ?_
                            refine endX_q (roundQ_ret ?_)
                            refine endX_blkR ?_
                            refine endX_seqR ?_
                            refine endX_q ?_
                            obtain rfl := Option.some.inj h
                            show RetW _ _ _ _ _
                            simp only [RetW]
                            (try simp -implicitDefEqProofs (maxSteps := 4000000) (disch := first | omega | decide | (simp only [go_sem]; omega)) only [go_sem, ↓reduceIte])
                            (try simp (disch := omega) only [if_pos, Nat.sub_zero])
                            exact leT_refl _
                          · refine runX_condF rfl c19 ?_
                            refine runX_skip ?_
                            refine endX_blk ?_
                            refine endX_seq ?_
                            refine runX_regionC fun C hC => ?_
                            try simp -implicitDefEqProofs (maxSteps := 4000000) (disch := first | omega | decide | (simp only [go_sem]; omega)) only [go_sem, ↓reduceIte]
                            repeat (with_reducible refine And.intro (by first | assumption | omega | (simp; done) | (simp; omega)) ?_)
                            refine toEnd hC ?_
                            refine endX_q (roundQ_normal ⟨m2, by omega, F16_S2 v11 (IntKind.wrap .i64 (x14 + (1 : Int))), ?_, (IntKind.wrap .i64 (x14 + (1 : Int))), rfl, by omega, h⟩)
                            simp only [F16_S2]
                            (try simp -implicitDefEqProofs (maxSteps := 4000000) (disch := first | omega | decide | (simp only [go_sem]; omega)) only [go_sem, ↓reduceIte])
                            first | exact leS_refl _ | (refine leS_le ?_ ?_ <;> first | exact leL_refl _ | exact leOs_refl _ | (repeat (first | exact leL_refl _ | refine leL_cons (by first | exact leT_refl _ | exact leT_virt | exact leT_junk _ | exact leT_sl | exact leT_sln | exact leT_nil) ?_)))
                      · refine runX_condF rfl c15 ?_
                        refine runX_exit ?_
                        refine endX_seqE ?_
                        refine endX_q (roundQ_exit ?_)
                        refine endX_blkE ?_
                        refine endX_seq ?_
                        refine runX_seq ?_
                        refine runX_regionC fun C hC => ?_
                        try simp -implicitDefEqProofs (maxSteps := 4000000) (disch := first | omega | decide | (simp only [go_sem]; omega)) only [go_sem, ↓reduceIte]
                        repeat (with_reducible refine And.intro (by first | assumption | omega | (simp; done) | (simp; omega)) ?_)
                        refine toEnd hC ?_
                        refine endX_seq ?_
                        refine runX_ret ?_
                        refine endX_q ?_
                        obtain rfl := Option.some.inj h
                        show RetW _ _ _ _ _
                        simp only [RetW]
                        (try simp -implicitDefEqProofs (maxSteps := 4000000) (disch := first | omega | decide | (simp only [go_sem]; omega)) only [go_sem, ↓reduceIte])
                        (try simp (disch := omega) only [if_pos, Nat.sub_zero])
                        exact leT_refl _
end Go.Proofs.YtdfghdppbfabfaaDoorX

set_option linter.unusedVariables false
set_option linter.unusedSimpArgs false
namespace Go.Proofs.YtdfghdppbfabfaaDoorX
open Go Go.RowKit Go.Proofs
set_option maxRecDepth 100000
attribute [local go_sem] String.reduceEq String.reduceNe reduceCtorEq Int.reduceEq Nat.reduceAdd Nat.reduceSub Nat.reduceMul Nat.reduceLT Nat.reduceLeDiff Nat.reduceEqDiff Nat.reduceBEq Int.reduceToNat Int.reduceLT Int.reduceLE Int.reduceGT Int.reduceGE Int.reduceAdd Int.reduceSub Int.reduceMul Int.reduceNeg Int.reduceBEq Int.reduceBNe Int.reducePow Int.reduceDiv Int.reduceMod Int.reduceTDiv Int.reduceTMod Int.reduceNatCast
/-! ### shadowboxlaw27.NameTells -/
def F6_S1 (x3 : List UInt8) : St := ⟨[.imm (.string (bs x3)), .junk, .junk, .junk, .junk, .junk, .junk, .junk, .junk, .junk, .junk, .junk, .junk, .junk, .junk, .junk, .junk, .junk, .junk, .junk, .junk, .junk, .junk, .junk, .junk, .junk, .junk, .junk, .junk, .junk, .junk, .junk, .junk, .junk, .junk, .junk, .junk, .junk, .junk, .junk, .junk, .junk, .junk, .junk, .junk, .junk, .junk, .junk, .junk, .junk, .junk, .junk, .junk, .junk, .junk, .junk, .junk, .junk, .junk, .junk, .junk, .junk, .junk, .junk], []⟩
def F6_J1 (n : Nat) (x3 : List UInt8) : Option (Bool) := (F11 n x3).bind fun v4 => (F13 n x3).bind fun v5 => (F9 n x3).bind fun v6 => (F14 n x3).bind fun v7 => iteB (v6 == v7) ((F15 n x3).bind fun v9 => (F16 n x3).bind fun v10 => iteB (v9 == v10) ((F8 n x3).bind fun v12 => (F17 n x3).bind fun v13 => iteB (v12 == v13) (iteB (v4.1 == v5.1) (iteB (v4.2.1 == v5.2.1) (iteB (v4.2.2 == v5.2.2) ((F9 n ([97, 46, 46, 98] : List UInt8)).bind fun v18 => some (v18 == (3 : Int))) (some false)) (some false)) (some false)) (some false)) (some false)) (some false)
def F6 (n : Nat) (a0 : List UInt8) : Option (Bool) := iteB (decide ((1000 : Int) < (a0.length : Int))) (grd ((1000 : Int) ≤ (a0.length : Int)) (F6_J1 n (a0.take 1000))) (F6_J1 n a0)
set_option maxHeartbeats 4000000 in
theorem F6_ok : ∀ (n : Nat) (a0 : List UInt8) (r : Bool), F6 n a0 = some r → FnC Tryd.prog 6 [.imm (.string (bs a0))] (.imm (.bool r))
  | n, a0, r, h => by
    unfold F6 at h
    refine FnC.goX mixed Tryd.func6 (by kernel_rfl) rfl ?_
    simp only [Tryd.ntmps6, List.length_cons, List.length_nil, List.replicate, List.cons_append, List.nil_append, Nat.reduceAdd, Nat.reduceSub]
    refine runX_seq ?_
    refine runX_regionC fun C hC => ?_
    try simp -implicitDefEqProofs (maxSteps := 4000000) (disch := first | omega | decide | (simp only [go_sem]; omega)) only [go_sem, ↓reduceIte]
    repeat (with_reducible refine And.intro (by first | assumption | omega | (simp; done) | (simp; omega)) ?_)
    refine toEnd hC ?_
    refine endX_seq ?_
    refine runX_meet [0] (fun S => ∃ (x3 : List UInt8), S = F6_S1 x3 ∧ F6_J1 n x3 = some r) ?_ ?_
    · refine runX_seq ?_
      refine runX_regionC fun C hC => ?_
      try simp -implicitDefEqProofs (maxSteps := 4000000) (disch := first | omega | decide | (simp only [go_sem]; omega)) only [go_sem, ↓reduceIte]
      repeat (with_reducible refine And.intro (by first | assumption | omega | (simp; done) | (simp; omega)) ?_)
      refine toEnd hC ?_
      refine endX_seq ?_
      rcases iteB_some h with ⟨c1, h⟩ | ⟨c1, h⟩
      · refine runX_condT rfl c1 ?_
        refine runX_regionC fun C hC => ?_
        obtain ⟨g2, h⟩ := grd_some h
        try simp -implicitDefEqProofs (maxSteps := 4000000) (disch := first | omega | decide | (simp only [go_sem]; omega)) only [go_sem, ↓reduceIte]
        repeat (with_reducible refine And.intro (by first | assumption | omega | (simp; done) | (simp; omega)) ?_)
        refine toEnd hC ?_
        refine endX_q (meetQ_normal ⟨F6_S1 (a0.take 1000), ?_, (a0.take 1000), rfl, h⟩)
        simp only [F6_S1]
        (try simp -implicitDefEqProofs (maxSteps := 4000000) (disch := first | omega | decide | (simp only [go_sem]; omega)) only [go_sem, ↓reduceIte])
        first | exact leS_refl _ | (refine leS_le ?_ ?_ <;> first | exact leL_refl _ | exact leOs_refl _ | (repeat (first | exact leL_refl _ | refine leL_cons (by first | exact leT_refl _ | exact leT_virt | exact leT_junk _ | exact leT_sl | exact leT_sln | exact leT_nil) ?_)))
      · refine runX_condF rfl c1 ?_
        refine runX_skip ?_
        refine endX_q (meetQ_normal ⟨F6_S1 a0, ?_, a0, rfl, h⟩)
        simp only [F6_S1]
        (try simp -implicitDefEqProofs (maxSteps := 4000000) (disch := first | omega | decide | (simp only [go_sem]; omega)) only [go_sem, ↓reduceIte])
        first | exact leS_refl _ | (refine leS_le ?_ ?_ <;> first | exact leL_refl _ | exact leOs_refl _ | (repeat (first | exact leL_refl _ | refine leL_cons (by first | exact leT_refl _ | exact leT_virt | exact leT_junk _ | exact leT_sl | exact leT_sln | exact leT_nil) ?_)))
    · clear h
      rintro S ⟨x3, rfl, h⟩
      rw [F6_J1] at h
      simp only [F6_S1]
      refine runX_seq ?_
      refine runX_regionC fun C hC => ?_
      obtain ⟨v4, h4, h⟩ := bnd_some h
      try simp -implicitDefEqProofs (maxSteps := 4000000) (disch := first | omega | decide | (simp only [go_sem]; omega)) only [go_sem, ↓reduceIte]
      repeat (with_reducible refine And.intro (by first | assumption | omega | (simp; done) | (simp; omega)) ?_)
      refine callG_X (F11_ok n x3 _ h4) (by repeat (first | exact leL_refl _ | refine leL_cons (by first | exact leT_refl _ | exact leT_virt | exact leT_junk _ | exact leT_sl | exact leT_sln | exact leT_nil) ?_)) ?_
      try simp -implicitDefEqProofs (maxSteps := 4000000) (disch := first | omega | decide | (simp only [go_sem]; omega)) only [go_sem, ↓reduceIte]
      repeat (with_reducible refine And.intro (by first | assumption | omega | (simp; done) | (simp; omega)) ?_)
      refine toEnd hC ?_
      refine endX_seq ?_
      refine runX_seq ?_
      refine runX_regionC fun C hC => ?_
      obtain ⟨v5, h5, h⟩ := bnd_some h
      try simp -implicitDefEqProofs (maxSteps := 4000000) (disch := first | omega | decide | (simp only [go_sem]; omega)) only [go_sem, ↓reduceIte]
      repeat (with_reducible refine And.intro (by first | assumption | omega | (simp; done) | (simp; omega)) ?_)
      refine callG_X (F13_ok n x3 _ h5) (by repeat (first | exact leL_refl _ | refine leL_cons (by first | exact leT_refl _ | exact leT_virt | exact leT_junk _ | exact leT_sl | exact leT_sln | exact leT_nil) ?_)) ?_
      try simp -implicitDefEqProofs (maxSteps := 4000000) (disch := first | omega | decide | (simp only [go_sem]; omega)) only [go_sem, ↓reduceIte]
      repeat (with_reducible refine And.intro (by first | assumption | omega | (simp; done) | (simp; omega)) ?_)
      refine toEnd hC ?_
      refine endX_seq ?_
      refine runX_seq ?_
      refine runX_regionC fun C hC => ?_
      obtain ⟨v6, h6, h⟩ := bnd_some h
      try simp -implicitDefEqProofs (maxSteps := 4000000) (disch := first | omega | decide | (simp only [go_sem]; omega)) only [go_sem, ↓reduceIte]
      repeat (with_reducible refine And.intro (by first | assumption | omega | (simp; done) | (simp; omega)) ?_)
      refine callG_X (F9_ok n x3 _ h6) (by repeat (first | exact leL_refl _ | refine leL_cons (by first | exact leT_refl _ | exact leT_virt | exact leT_junk _ | exact leT_sl | exact leT_sln | exact leT_nil) ?_)) ?_
      obtain ⟨v7, h7, h⟩ := bnd_some h
      try simp -implicitDefEqProofs (maxSteps := 4000000) (disch := first | omega | decide | (simp only [go_sem]; omega)) only [go_sem, ↓reduceIte]
      repeat (with_reducible refine And.intro (by first | assumption | omega | (simp; done) | (simp; omega)) ?_)
      refine callG_X (F14_ok n x3 _ h7) (by repeat (first | exact leL_refl _ | refine leL_cons (by first | exact leT_refl _ | exact leT_virt | exact leT_junk _ | exact leT_sl | exact leT_sln | exact leT_nil) ?_)) ?_
      try simp -implicitDefEqProofs (maxSteps := 4000000) (disch := first | omega | decide | (simp only [go_sem]; omega)) only [go_sem, ↓reduceIte]
      repeat (with_reducible refine And.intro (by first | assumption | omega | (simp; done) | (simp; omega)) ?_)
      rcases iteB_some h with ⟨c8, h⟩ | ⟨c8, h⟩
      · refine guardK_T c8 ?_
        obtain ⟨v9, h9, h⟩ := bnd_some h
        try simp -implicitDefEqProofs (maxSteps := 4000000) (disch := first | omega | decide | (simp only [go_sem]; omega)) only [go_sem, ↓reduceIte]
        repeat (with_reducible refine And.intro (by first | assumption | omega | (simp; done) | (simp; omega)) ?_)
        refine callG_X (F15_ok n x3 _ h9) (by repeat (first | exact leL_refl _ | refine leL_cons (by first | exact leT_refl _ | exact leT_virt | exact leT_junk _ | exact leT_sl | exact leT_sln | exact leT_nil) ?_)) ?_
        obtain ⟨v10, h10, h⟩ := bnd_some h
        try simp -implicitDefEqProofs (maxSteps := 4000000) (disch := first | omega | decide | (simp only [go_sem]; omega)) only [go_sem, ↓reduceIte]
        repeat (with_reducible refine And.intro (by first | assumption | omega | (simp; done) | (simp; omega)) ?_)
        refine callG_X (F16_ok n x3 _ h10) (by repeat (first | exact leL_refl _ | refine leL_cons (by first | exact leT_refl _ | exact leT_virt | exact leT_junk _ | exact leT_sl | exact leT_sln | exact leT_nil) ?_)) ?_
        try simp -implicitDefEqProofs (maxSteps := 4000000) (disch := first | omega | decide | (simp only [go_sem]; omega)) only [go_sem, ↓reduceIte]
        repeat (with_reducible refine And.intro (by first | assumption | omega | (simp; done) | (simp; omega)) ?_)
        rcases iteB_some h with ⟨c11, h⟩ | ⟨c11, h⟩
        · refine guardK_T c11 ?_
          obtain ⟨v12, h12, h⟩ := bnd_some h
          try simp -implicitDefEqProofs (maxSteps := 4000000) (disch := first | omega | decide | (simp only [go_sem]; omega)) only [go_sem, ↓reduceIte]
          repeat (with_reducible refine And.intro (by first | assumption | omega | (simp; done) | (simp; omega)) ?_)
          refine callG_X (F8_ok n x3 _ h12) (by repeat (first | exact leL_refl _ | refine leL_cons (by first | exact leT_refl _ | exact leT_virt | exact leT_junk _ | exact leT_sl | exact leT_sln | exact leT_nil) ?_)) ?_
          obtain ⟨v13, h13, h⟩ := bnd_some h
          try simp -implicitDefEqProofs (maxSteps := 4000000) (disch := first | omega | decide | (simp only [go_sem]; omega)) only [go_sem, ↓reduceIte]
          repeat (with_reducible refine And.intro (by first | assumption | omega | (simp; done) | (simp; omega)) ?_)
          refine callG_X (F17_ok n x3 _ h13) (by repeat (first | exact leL_refl _ | refine leL_cons (by first | exact leT_refl _ | exact leT_virt | exact leT_junk _ | exact leT_sl | exact leT_sln | exact leT_nil) ?_)) ?_
          try simp -implicitDefEqProofs (maxSteps := 4000000) (disch := first | omega | decide | (simp only [go_sem]; omega)) only [go_sem, ↓reduceIte]
          repeat (with_reducible refine And.intro (by first | assumption | omega | (simp; done) | (simp; omega)) ?_)
          rcases iteB_some h with ⟨c14, h⟩ | ⟨c14, h⟩
          · refine guardK_T c14 ?_
            try simp -implicitDefEqProofs (maxSteps := 4000000) (disch := first | omega | decide | (simp only [go_sem]; omega)) only [go_sem, ↓reduceIte]
            repeat (with_reducible refine And.intro (by first | assumption | omega | (simp; done) | (simp; omega)) ?_)
            rcases iteB_some h with ⟨c15, h⟩ | ⟨c15, h⟩
            · refine guardK_T c15 ?_
              try simp -implicitDefEqProofs (maxSteps := 4000000) (disch := first | omega | decide | (simp only [go_sem]; omega)) only [go_sem, ↓reduceIte]
              repeat (with_reducible refine And.intro (by first | assumption | omega | (simp; done) | (simp; omega)) ?_)
              rcases iteB_some h with ⟨c16, h⟩ | ⟨c16, h⟩
              · refine guardK_T c16 ?_
                try simp -implicitDefEqProofs (maxSteps := 4000000) (disch := first | omega | decide | (simp only [go_sem]; omega)) only [go_sem, ↓reduceIte]
                repeat (with_reducible refine And.intro (by first | assumption | omega | (simp; done) | (simp; omega)) ?_)
                rcases iteB_some h with ⟨c17, h⟩ | ⟨c17, h⟩
                · refine guardK_T c17 ?_
                  obtain ⟨v18, h18, h⟩ := bnd_some h
                  try simp -implicitDefEqProofs (maxSteps := 4000000) (disch := first | omega | decide | (simp only [go_sem]; omega)) only [go_sem, ↓reduceIte]
                  repeat (with_reducible refine And.intro (by first | assumption | omega | (simp; done) | (simp; omega)) ?_)
                  refine callG_X (F9_ok n ([97, 46, 46, 98] : List UInt8) _ h18) (by repeat (first | exact leL_refl _ | refine leL_cons (by first | exact leT_refl _ | exact leT_virt | exact leT_junk _ | exact leT_sl | exact leT_sln | exact leT_nil) ?_)) ?_
                  try simp -implicitDefEqProofs (maxSteps := 4000000) (disch := first | omega | decide | (simp only [go_sem]; omega)) only [go_sem, ↓reduceIte]
                  repeat (with_reducible refine And.intro (by first | assumption | omega | (simp; done) | (simp; omega)) ?_)
                  refine toEnd hC ?_
                  refine endX_seq ?_
                  refine runX_ret ?_
                  refine endX_q ?_
                  obtain rfl := Option.some.inj h
                  show RetW _ _ _ _ _
                  simp only [RetW]
                  (try simp -implicitDefEqProofs (maxSteps := 4000000) (disch := first | omega | decide | (simp only [go_sem]; omega)) only [go_sem, ↓reduceIte])
                  (try simp (disch := omega) only [if_pos, Nat.sub_zero])
                  exact leT_refl _
                · refine guardK_F c17 ?_
                  try simp -implicitDefEqProofs (maxSteps := 4000000) (disch := first | omega | decide | (simp only [go_sem]; omega)) only [go_sem, ↓reduceIte]
                  repeat (with_reducible refine And.intro (by first | assumption | omega | (simp; done) | (simp; omega)) ?_)
                  refine toEnd hC ?_
                  refine endX_seq ?_
                  refine runX_ret ?_
                  refine endX_q ?_
                  obtain rfl := Option.some.inj h
                  show RetW _ _ _ _ _
                  simp only [RetW]
                  (try simp -implicitDefEqProofs (maxSteps := 4000000) (disch := first | omega | decide | (simp only [go_sem]; omega)) only [go_sem, ↓reduceIte])
                  (try simp (disch := omega) only [if_pos, Nat.sub_zero])
                  exact leT_refl _
              · refine guardK_F c16 ?_
                try simp -implicitDefEqProofs (maxSteps := 4000000) (disch := first | omega | decide | (simp only [go_sem]; omega)) only [go_sem, ↓reduceIte]
                repeat (with_reducible refine And.intro (by first | assumption | omega | (simp; done) | (simp; omega)) ?_)
                refine toEnd hC ?_
                refine endX_seq ?_
                refine runX_ret ?_
                refine endX_q ?_
                obtain rfl := Option.some.inj h
                show RetW _ _ _ _ _
                simp only [RetW]
                (try simp -implicitDefEqProofs (maxSteps := 4000000) (disch := first | omega | decide | (simp only [go_sem]; omega)) only [go_sem, ↓reduceIte])
                (try simp (disch := omega) only [if_pos, Nat.sub_zero])
                exact leT_refl _
            · refine guardK_F c15 ?_
              try simp -implicitDefEqProofs (maxSteps := 4000000) (disch := first | omega | decide | (simp only [go_sem]; omega)) only [go_sem, ↓reduceIte]
              repeat (with_reducible refine And.intro (by first | assumption | omega | (simp; done) | (simp; omega)) ?_)
              refine toEnd hC ?_
              refine endX_seq ?_
              refine runX_ret ?_
              refine endX_q ?_
              obtain rfl := Option.some.inj h
              show RetW _ _ _ _ _
              simp only [RetW]
              (try simp -implicitDefEqProofs (maxSteps := 4000000) (disch := first | omega | decide | (simp only [go_sem]; omega)) only [go_sem, ↓reduceIte])
              (try simp (disch := omega) only [if_pos, Nat.sub_zero])
              exact leT_refl _
          · refine guardK_F c14 ?_
            try simp -implicitDefEqProofs (maxSteps := 4000000) (disch := first | omega | decide | (simp only [go_sem]; omega)) only [go_sem, ↓reduceIte]
            repeat (with_reducible refine And.intro (by first | assumption | omega | (simp; done) | (simp; omega)) ?_)
            refine toEnd hC ?_
            refine endX_seq ?_
            refine runX_ret ?_
            refine endX_q ?_
            obtain rfl := Option.some.inj h
            show RetW _ _ _ _ _
            simp only [RetW]
            (try simp -implicitDefEqProofs (maxSteps := 4000000) (disch := first | omega | decide | (simp only [go_sem]; omega)) only [go_sem, ↓reduceIte])
            (try simp (disch := omega) only [if_pos, Nat.sub_zero])
            exact leT_refl _
        · refine guardK_F c11 ?_
          try simp -implicitDefEqProofs (maxSteps := 4000000) (disch := first | omega | decide | (simp only [go_sem]; omega)) only [go_sem, ↓reduceIte]
          repeat (with_reducible refine And.intro (by first | assumption | omega | (simp; done) | (simp; omega)) ?_)
          refine toEnd hC ?_
          refine endX_seq ?_
          refine runX_ret ?_
          refine endX_q ?_
          obtain rfl := Option.some.inj h
          show RetW _ _ _ _ _
          simp only [RetW]
          (try simp -implicitDefEqProofs (maxSteps := 4000000) (disch := first | omega | decide | (simp only [go_sem]; omega)) only [go_sem, ↓reduceIte])
          (try simp (disch := omega) only [if_pos, Nat.sub_zero])
          exact leT_refl _
      · refine guardK_F c8 ?_
        try simp -implicitDefEqProofs (maxSteps := 4000000) (disch := first | omega | decide | (simp only [go_sem]; omega)) only [go_sem, ↓reduceIte]
        repeat (with_reducible refine And.intro (by first | assumption | omega | (simp; done) | (simp; omega)) ?_)
        refine toEnd hC ?_
        refine endX_seq ?_
        refine runX_ret ?_
        refine endX_q ?_
        obtain rfl := Option.some.inj h
        show RetW _ _ _ _ _
        simp only [RetW]
        (try simp -implicitDefEqProofs (maxSteps := 4000000) (disch := first | omega | decide | (simp only [go_sem]; omega)) only [go_sem, ↓reduceIte])
        (try simp (disch := omega) only [if_pos, Nat.sub_zero])
        exact leT_refl _
end Go.Proofs.YtdfghdppbfabfaaDoorX

/- Shapes of arguments, as plain values. Of no program. -/
set_option linter.unusedVariables false
namespace Go.Proofs.YtdfghdppbfabfaaDoorX
open Go Go.RowKit
theorem RepR.le {E : Env} {sz : Nat} : ∀ {l l' : List T} {c : List Value}, l.length = l'.length → (∀ i, leT anyE (l.getD i .junk) (l'.getD i .junk)) → RepR E sz l c → RepR E sz l' c
  | [], [], c, _, _, h => h
  | x :: l, y :: l', c, hl, hi, h => by
    simp only [RepR] at h ⊢
    obtain ⟨u, c', h1, h2, h3, h4⟩ := h
    exact ⟨u, c', h1, h2, by simpa using hi 0 E true u trivial (by simpa using h3), RepR.le (by simpa using hl) (fun i => by simpa using hi (i + 1)) h4⟩
  | [], _ :: _, c, hl, _, _ => by simp at hl
  | _ :: _, [], c, hl, _, _ => by simp at hl
theorem leT_slE {sz : Nat} {f : Bool} {l l' : List T} (hl : l.length = l'.length) (h : ∀ i, leT anyE (l.getD i .junk) (l'.getD i .junk)) : leT anyE (.sl sz f l) (.sl sz false l') := fun E cl v hp k => by
  simp only [Rep] at k ⊢
  obtain ⟨a, cap, c, h1, h2, h3, h4, h5⟩ := k
  exact ⟨a, cap, c, by rw [h1, hl], by rw [← hl]; exact h2, (fun h => by cases h), RepR.le hl h h4, h5⟩
theorem elems_shape {α : Type} (enc : α → T) (ok : α → Prop) : ∀ (l : List T), (∀ y ∈ l, ∃ v, leT anyE y (enc v) ∧ ok v) → ∃ vs : List α, vs.length = l.length ∧ (∀ i, leT anyE (l.getD i .junk) ((vs.map enc).getD i .junk)) ∧ ∀ v ∈ vs, ok v
  | [], _ => ⟨[], rfl, fun i => by simp [leT_refl], fun v hv => by simp at hv⟩
  | y :: l, h => by
    obtain ⟨v, h1, h2⟩ := h y (by simp)
    obtain ⟨vs, h3, h4, h5⟩ := elems_shape enc ok l fun z hz => h z (by simp [hz])
    refine ⟨v :: vs, by simp [h3], fun i => ?_, fun w hw => ?_⟩
    · cases i with
      | zero => simpa using h1
      | succ i => simpa using h4 i
    · rcases List.mem_cons.1 hw with rfl | hw
      · exact h2
      · exact h5 w hw
theorem sl_shape {α : Type} (enc : α → T) (ok : α → Prop) (l : List T) (h : ∀ y ∈ l, ∃ v, leT anyE y (enc v) ∧ ok v) {sz : Nat} {f : Bool} : ∃ vs : List α, leT anyE (.sl sz f l) (.sl sz false (vs.map enc)) ∧ vs.length = l.length ∧ ∀ v ∈ vs, ok v := by
  obtain ⟨vs, h1, h2, h3⟩ := elems_shape enc ok l h
  exact ⟨vs, leT_slE (by simp [h1]) h2, h1, h3⟩
theorem arr_shape {α : Type} (enc : α → T) (ok : α → Prop) : ∀ (l : List T), (∀ y ∈ l, ∃ v, y = enc v ∧ T.cells y = [y] ∧ ok v) → ∃ vs : List α, l.flatMap T.cells = vs.map enc ∧ vs.length = l.length ∧ ∀ v ∈ vs, ok v
  | [], _ => ⟨[], rfl, rfl, fun v hv => by simp at hv⟩
  | y :: l, h => by
    obtain ⟨v, rfl, hc, h2⟩ := h y (by simp)
    obtain ⟨vs, h3, h4, h5⟩ := arr_shape enc ok l fun z hz => h z (by simp [hz])
    refine ⟨v :: vs, by rw [List.flatMap_cons, hc, h3]; rfl, by simp [h4], fun w hw => ?_⟩
    rcases List.mem_cons.1 hw with rfl | hw
    · exact h2
    · exact h5 w hw
end Go.Proofs.YtdfghdppbfabfaaDoorX

set_option linter.unusedVariables false
set_option linter.unusedSimpArgs false
namespace Go.Proofs.YtdfghdppbfabfaaDoorX
open Go Go.RowKit Go.Proofs
set_option maxRecDepth 100000
def okT9 (v : List UInt8) : Prop := v.length ≤ 9223372036854775807
theorem shp9 : ∀ (n : Nat) (x : T), ShapeW Tryd.prog n 9 x → ∃ v : List UInt8, x = .imm (.string (bs v)) ∧ okT9 v
  | 0, x, h => h.elim
  | n + 1, x, h => by
    simp only [ShapeW, Tryd.underlying9] at h
    obtain ⟨s, rfl, hs⟩ := h
    exact ⟨s.data.toList, by rw [← of_bs], hs⟩
theorem shapedNameTells (main : ∀ (v0 : List UInt8), okT9 v0 → ∃ n, F6 n v0 = some true) (xs : List T) (h : ShapesW Tryd.prog [9] xs) : FnC Tryd.prog 6 xs (tb true) := by
  obtain ⟨x0, xs0, rfl, ⟨n0, h0⟩, rfl⟩ := h
  obtain ⟨v0, rfl, k0⟩ := shp9 _ _ h0
  obtain ⟨N, hN⟩ := main v0 k0
  exact (F6_ok N v0 true hN).le (leL_cons (leT_refl _) (leL_nil)) (leT_refl _)

end Go.Proofs.YtdfghdppbfabfaaDoorX

/- Plain functions with fuel: what they come to. Of no program. -/
set_option linter.unusedVariables false
set_option linter.unusedSimpArgs false
namespace Go.Proofs.YtdfghdppbfabfaaDoorX
open Go

/-- With fuel enough the answer is this. -/
def Ev {α : Type} (f : Nat → Option α) (r : α) : Prop := ∃ N, ∀ n, N ≤ n → f n = some r
theorem Ev.pure {α : Type} {r : α} : Ev (fun _ => some r) r := ⟨0, fun _ _ => rfl⟩
theorem Ev.const {α : Type} {x : Option α} {r : α} (h : x = some r) : Ev (fun _ => x) r := ⟨0, fun _ _ => h⟩
theorem Ev.bind {α β : Type} {f : Nat → Option α} {g : Nat → α → Option β} {v : α} {r : β} (h : Ev f v) (h' : Ev (fun n => g n v) r) : Ev (fun n => (f n).bind (g n)) r := by
  obtain ⟨N, h⟩ := h
  obtain ⟨M, h'⟩ := h'
  exact ⟨max N M, fun n hn => by show (f n).bind (g n) = _; rw [h n (by omega)]; exact h' n (by omega)⟩
theorem Ev.step {α : Type} {f : Nat → Option α} {r : α} (h : Ev (fun n => f (n + 1)) r) : Ev f r := by
  obtain ⟨N, h⟩ := h
  refine ⟨N + 1, fun n hn => ?_⟩
  obtain ⟨m, rfl⟩ : ∃ m, n = m + 1 := ⟨n - 1, by omega⟩
  exact h m (by omega)
theorem Ev.congr {α : Type} {f g : Nat → Option α} {r : α} (h : Ev g r) (e : ∀ n, f n = g n) : Ev f r := by
  obtain ⟨N, h⟩ := h
  exact ⟨N, fun n hn => (e n).trans (h n hn)⟩
theorem Ev.grd {α : Type} {p : Prop} [Decidable p] {f : Nat → Option α} {r : α} (hp : p) (h : Ev f r) : Ev (fun n => grd p (f n)) r := h.congr fun n => if_pos hp
theorem Ev.ofT {α : Type} {b : Bool} {f g : Nat → Option α} {r : α} (hb : b = true) (h : Ev f r) : Ev (fun n => iteB b (f n) (g n)) r := h.congr fun n => by rw [hb]; rfl
theorem Ev.ofF {α : Type} {b : Bool} {f g : Nat → Option α} {r : α} (hb : b = false) (h : Ev g r) : Ev (fun n => iteB b (f n) (g n)) r := h.congr fun n => by rw [hb]; rfl
theorem Ev.ite {α : Type} {b : Bool} {f g : Nat → Option α} {r : α} (h1 : b = true → Ev f r) (h2 : b = false → Ev g r) : Ev (fun n => iteB b (f n) (g n)) r := by
  cases hb : b with
  | true => exact (h1 hb).congr fun n => rfl
  | false => exact (h2 hb).congr fun n => rfl
theorem iteB_t {α : Type} (x y : Option α) : iteB true x y = x := rfl
theorem iteB_f {α : Type} (x y : Option α) : iteB false x y = y := rfl
theorem grd_t {α : Type} {p : Prop} [Decidable p] (x : Option α) (h : p) : grd p x = x := if_pos h
theorem grd_True {α : Type} [Decidable True] (x : Option α) : grd True x = x := if_pos trivial
theorem bind_some' {α β : Type} (v : α) (g : α → Option β) : (some v).bind g = g v := rfl
theorem w64 {n : Int} (h : -9223372036854775808 ≤ n ∧ n ≤ 9223372036854775807) : IntKind.wrap .i64 n = n := Go.IntWalk.i64_in _ h
theorem w32 {n : Int} (h : -2147483648 ≤ n ∧ n ≤ 2147483647) : IntKind.wrap .i32 n = n := Go.IntWalk.i32_in _ h
theorem wu8 {n : Int} (h : 0 ≤ n ∧ n ≤ 255) : IntKind.wrap .u8 n = n := Go.IntWalk.u8_in _ h
theorem wu32 {n : Int} (h : 0 ≤ n ∧ n ≤ 4294967295) : IntKind.wrap .u32 n = n := Go.IntWalk.u32_in _ h
theorem wu64 {n : Int} (h : 0 ≤ n ∧ n ≤ 18446744073709551615) : IntKind.wrap .u64 n = n := Go.IntWalk.u64_in _ h
/-- Bytes as numbers. -/
theorem u8_beq (a b : UInt8) : ((a.toNat : Int) == (b.toNat : Int)) = (a == b) := by
  rw [Bool.eq_iff_iff, beq_iff_eq, beq_iff_eq]
  exact ⟨fun h => UInt8.toNat_inj.1 (by omega), fun h => by rw [h]⟩
theorem u8_lit (a : UInt8) (k : Nat) (hk : k < 256) : ((a.toNat : Int) == ((k : Nat) : Int)) = (a == UInt8.ofNat k) := by
  rw [Bool.eq_iff_iff, beq_iff_eq, beq_iff_eq]
  constructor
  · intro h
    apply UInt8.toNat_inj.1
    rw [UInt8.toNat_ofNat']
    omega
  · intro h
    subst h
    rw [UInt8.toNat_ofNat']
    omega
theorem u8_lt (a : UInt8) : (0 : Int) ≤ (a.toNat : Int) ∧ (a.toNat : Int) ≤ 255 := by
  have := a.toNat_lt; omega
theorem drop_cons {α : Type} (l : List α) (i : Nat) (d : α) (h : i < l.length) : l.drop i = l.getD i d :: l.drop (i + 1) := by
  rw [List.drop_eq_getElem_cons h, List.getD_eq_getElem?_getD, List.getElem?_eq_getElem h]; rfl
theorem toNat_nat (n : Nat) : ((n : Int)).toNat = n := rfl
end Go.Proofs.YtdfghdppbfabfaaDoorX

/- Texts cut at a byte: strings.Index, Count, Split, Cut of one byte. -/
set_option linter.unusedVariables false
set_option linter.unusedSimpArgs false
namespace Go.Proofs.YtdfghdppbfabfaaDoorX
open Go

def splitB (c : UInt8) : List UInt8 → List (List UInt8)
  | [] => [[]]
  | x :: l => if x = c then [] :: splitB c l else match splitB c l with
    | [] => [[x]]
    | y :: ys => (x :: y) :: ys
theorem split_ne (c : UInt8) : ∀ l, splitB c l ≠ []
  | [] => by simp [splitB]
  | x :: l => by
    rw [splitB]
    split
    · simp
    · split <;> simp
/-- Where a byte first stands. -/
theorem idx_cases (c : UInt8) : ∀ s : List UInt8, (Lib.indexByte s c = -1 ∧ c ∉ s ∧ s.count c = 0 ∧ splitB c s = [s]) ∨
    ∃ m : Nat, m < s.length ∧ Lib.indexByte s c = (m : Int) ∧ c ∉ s.take m ∧ s = s.take m ++ c :: s.drop (m + 1) ∧ s.count c = 1 + (s.drop (m + 1)).count c ∧ splitB c s = s.take m :: splitB c (s.drop (m + 1))
  | [] => .inl ⟨rfl, by simp, rfl, rfl⟩
  | x :: l => by
    by_cases h : x = c
    · subst h
      refine .inr ⟨0, by simp, ?_, by simp, by simp, by simp; omega, by simp [splitB]⟩
      rw [Lib.indexByte, beq_self_eq_true, if_pos rfl]; rfl
    · have hb : (x == c) = false := by rw [beq_eq_false_iff_ne]; exact h
      rcases idx_cases c l with ⟨h1, h2, h3, h4⟩ | ⟨m, h1, h2, h3, h4, h5, h6⟩
      · refine .inl ⟨?_, ?_, ?_, ?_⟩
        · rw [Lib.indexByte, hb, h1]; rfl
        · simp only [List.mem_cons, not_or]; exact ⟨fun e => h e.symm, h2⟩
        · rw [List.count_cons_of_ne h, h3]
        · rw [splitB, if_neg h, h4]
      · refine .inr ⟨m + 1, by simp; omega, ?_, ?_, ?_, ?_, ?_⟩
        · rw [Lib.indexByte, hb, h2]
          simp only [Bool.false_eq_true, if_false]
          rw [if_neg (by rw [beq_iff_eq]; omega)]; omega
        · rw [List.take_succ_cons]; simp only [List.mem_cons, not_or]; exact ⟨fun e => h e.symm, h3⟩
        · rw [List.take_succ_cons, List.drop_succ_cons, List.cons_append, ← h4]
        · rw [List.count_cons_of_ne h, List.drop_succ_cons, h5]
        · rw [splitB, if_neg h, h6, List.take_succ_cons, List.drop_succ_cons]
theorem Index_eq (n : Nat) (s : List UInt8) (c : UInt8) : F50 n s [c] = some (Lib.indexByte s c) := by
  rw [F50]
  show iteB false _ _ = _
  rw [iteB_f]
  by_cases h : ([c] : List UInt8) = s
  · rw [show (([c] : List UInt8) == s) = true by rw [beq_iff_eq]; exact h, iteB_t, ← h, Lib.indexByte, beq_self_eq_true]; rfl
  · rw [show (([c] : List UInt8) == s) = false by rw [beq_eq_false_iff_ne]; exact h, iteB_f]
    show iteB true _ _ = _
    rw [iteB_t, grd_t _ (by simp), F56, bind_some']
    show some (Lib.indexByte s (((c.toNat : Nat) : Int).toNat.toUInt8)) = _
    rw [toNat_nat, show c.toNat.toUInt8 = c by simp]
theorem sIndex_eq (n : Nat) (s : List UInt8) (c : UInt8) : F47 n s [c] = some (Lib.indexByte s c) := by rw [F47, Index_eq, bind_some']
theorem take_set' {α : Type} : ∀ (l : List α) (i : Nat) (x : α), i < l.length → (l.set i x).take (i + 1) = l.take i ++ [x]
  | [], i, x, h => by simp at h
  | a :: l, 0, x, h => by simp
  | a :: l, i + 1, x, h => by
    rw [List.set_cons_succ, List.take_succ_cons, List.take_succ_cons, List.cons_append, take_set' l i x (by simpa using h)]
theorem ev_gen (c : UInt8) (s0 : List UInt8) (N : Nat) (h0 : N ≤ s0.length + 1) (hN : s0.length ≤ 1000000) : ∀ (d : Nat) (s : List UInt8) (i : Nat) (row : List (List UInt8)), s.count c = d → i + d + 1 = N → row.length = N → s.length ≤ 1000000 →
    Ev (fun k => F34_L3 k [c] 0 s0 (N : Int) s (i : Int) row) (row.take i ++ splitB c s) := by
  have hmin : (if IntKind.wrap .i64 ((s0.length : Int) + 1) < (N : Int) then IntKind.wrap .i64 ((s0.length : Int) + 1) else (N : Int)) = (N : Int) := by
    rw [w64 (by omega), if_neg (by omega)]
  intro d
  induction d with
  | zero =>
    intro s i row hc hi hr hs
    rcases idx_cases c s with ⟨h1, h2, h3, h4⟩ | ⟨m, h1, h2, h3, h4, h5, h6⟩
    · rw [h4]
      refine Ev.step (Ev.pure.congr fun k => ?_)
      rw [F34_L3, hmin, w64 (n := (N : Int) - 1) (by omega), decide_eq_false (by omega), iteB_f, F34_J2, grd_t _ (by omega), toNat_nat, grd_t _ (by omega), w64 (n := (i : Int) + 1) (by omega), grd_t _ (by omega), show ((i : Int) + 1).toNat = i + 1 by omega, take_set' _ _ _ (by omega)]
    · omega
  | succ d ih =>
    intro s i row hc hi hr hs
    rcases idx_cases c s with ⟨h1, h2, h3, h4⟩ | ⟨m, h1, h2, h3, h4, h5, h6⟩
    · omega
    · have e := ih (s.drop (m + 1)) (i + 1) (row.set i (s.take m)) (by omega) (by omega) (by rw [List.length_set, hr]) (by rw [List.length_drop]; omega)
      rw [take_set' _ _ _ (by omega), List.append_assoc] at e
      rw [h6]
      refine Ev.step (e.congr fun k => ?_)
      rw [F34_L3, hmin, w64 (n := (N : Int) - 1) (by omega), decide_eq_true (by omega), iteB_t, sIndex_eq, bind_some', h2, decide_eq_false (by omega), iteB_f, w64 (n := (m : Int) + 0) (by omega)]
      rw [show (([c] : List UInt8).length : Int) = 1 from rfl, w64 (n := (m : Int) + 1) (by omega), w64 (n := (i : Int) + 1) (by omega), toNat_nat]
      rw [grd_t _ (by omega), grd_t _ (by omega), grd_t _ (by omega), grd_t _ (by omega)]
      rw [show ((m : Int) + 1).toNat = m + 1 by omega, show ((m : Int) + 0).toNat = m by omega, show (i : Int) + 1 = ((i + 1 : Nat) : Int) by omega]
theorem ev_Split (c : UInt8) (s : List UInt8) (hs : s.length ≤ 1000000) : Ev (fun k => F18 k s [c]) (splitB c s) := by
  have hcl : s.count c ≤ s.length := List.count_le_length
  have e := ev_gen c s (s.count c + 1) (by omega) hs (s.count c) s 0 (List.replicate (s.count c + 1) []) rfl (by omega) (by simp) hs
  rw [List.take_zero, List.nil_append] at e
  obtain ⟨N, hN⟩ := e
  refine ⟨N, fun n hn => ?_⟩
  have e := hN n hn
  dsimp only at e
  have w1 : IntKind.wrap .i64 (((Lib.countByte s c : Nat) : Int) + 1) = ((s.count c + 1 : Nat) : Int) := by
    unfold Lib.countByte
    rw [w64 (by omega)]; omega
  have hmin : (if IntKind.wrap .i64 ((s.length : Int) + 1) < ((s.count c + 1 : Nat) : Int) then IntKind.wrap .i64 ((s.length : Int) + 1) else ((s.count c + 1 : Nat) : Int)) = ((s.count c + 1 : Nat) : Int) := by
    rw [w64 (by omega), if_neg (by omega)]
  show F18 n s [c] = _
  rw [F18, F34]
  show (iteB false _ (iteB false _ (iteB true _ _))).bind _ = _
  rw [iteB_f, iteB_f, iteB_t, F46]
  show ((some ((Lib.countByte s c : Nat) : Int)).bind _).bind _ = _
  rw [bind_some', w1, F34_J1, hmin, toNat_nat, grd_t _ (by omega)]
  show (F34_L3 n [c] 0 s _ s ((0 : Nat) : Int) _).bind _ = _
  rw [e, bind_some']
def cutB (c : UInt8) (s : List UInt8) : List UInt8 × List UInt8 × Bool := if c ∈ s then (s.take (Lib.indexByte s c).toNat, s.drop ((Lib.indexByte s c).toNat + 1), true) else (s, [], false)
theorem Cut_eq (n : Nat) (s : List UInt8) (c : UInt8) (hs : s.length ≤ 1000000) : F24 n s [c] = some (cutB c s) := by
  unfold cutB
  rw [F24, F39, Index_eq, bind_some', show (([c] : List UInt8).length : Int) = 1 from rfl]
  rcases idx_cases c s with ⟨h1, h2, h3, h4⟩ | ⟨m, h1, h2, h3, h4, h5, h6⟩
  · rw [if_neg h2, h1]; rfl
  · have hm : c ∈ s := by rw [h4]; simp
    rw [if_pos hm, h2, decide_eq_true (by omega), iteB_t, w64 (by omega), grd_t _ (by omega), grd_t _ (by omega), bind_some', show ((m : Int) + 1).toNat = m + 1 by omega, toNat_nat]
/-- Where a byte is not ahead of its first place. -/
theorem idx_app (c : UInt8) (b : List UInt8) : ∀ a : List UInt8, c ∉ a → Lib.indexByte (a ++ c :: b) c = (a.length : Int)
  | [], _ => by rw [List.nil_append, Lib.indexByte, beq_self_eq_true, if_pos rfl]; rfl
  | x :: a, h => by
    simp only [List.mem_cons, not_or] at h
    rw [List.cons_append, Lib.indexByte, show (x == c) = false by (rw [beq_eq_false_iff_ne]; exact fun e => h.1 e.symm), idx_app c b a h.2]
    simp only [Bool.false_eq_true, if_false]
    rw [if_neg (by rw [beq_iff_eq]; omega), List.length_cons]; omega
theorem cut_app (c : UInt8) (a b : List UInt8) (h : c ∉ a) : cutB c (a ++ c :: b) = (a, b, true) := by
  unfold cutB
  rw [if_pos (by simp), idx_app c b a h, toNat_nat, List.take_left']
  · rw [show a.length + 1 = (a ++ [c]).length by simp, show a ++ c :: b = (a ++ [c]) ++ b by simp, List.drop_left']; rfl
  · rfl
theorem cut_none (c : UInt8) (a : List UInt8) (h : c ∉ a) : cutB c a = (a, [], false) := by unfold cutB; rw [if_neg h]
end Go.Proofs.YtdfghdppbfabfaaDoorX

/- hex.Decimal: what it answers. -/
set_option linter.unusedVariables false
set_option linter.unusedSimpArgs false
namespace Go.Proofs.YtdfghdppbfabfaaDoorX
open Go

/-- The digits of a number, the last one first. -/
def dgR (n : Nat) : List Int := if n < 10 then [48 + (n : Int)] else (48 + ((n % 10 : Nat) : Int)) :: dgR (n / 10)
theorem dgR_lt {n : Nat} (h : n < 10) : dgR n = [48 + (n : Int)] := by rw [dgR, if_pos h]
theorem dgR_ge {n : Nat} (h : ¬ n < 10) : dgR n = (48 + ((n % 10 : Nat) : Int)) :: dgR (n / 10) := by rw [dgR, if_neg h]
theorem dgR_len : ∀ (k n : Nat), n < 10 ^ (k + 1) → (dgR n).length ≤ k + 1
  | 0, n, h => by rw [dgR_lt (by omega)]; simp
  | k + 1, n, h => by
    by_cases h1 : n < 10
    · rw [dgR_lt h1]; simp
    · rw [dgR_ge h1, List.length_cons]
      have := dgR_len k (n / 10) (by rw [Nat.pow_succ] at h; omega)
      omega
theorem dgR_pos (n : Nat) : 0 < (dgR n).length := by
  by_cases h : n < 10
  · rw [dgR_lt h]; simp
  · rw [dgR_ge h]; simp
/-- A number's text. -/
def decI (n : Int) : List Int := (if n < 0 then dgR n.natAbs ++ [45] else dgR n.natAbs).reverse
def decT (n : Int) : List UInt8 := (decI n).map toB

def rvI (l0 : List Int) (i : Nat) (l : List Int) : Prop := l.length = l0.length ∧ ∀ k, k < l0.length → l.getD k 0 = if k < i ∨ l0.length - i ≤ k then l0.getD (l0.length - 1 - k) 0 else l0.getD k 0
theorem rv_end {l0 l : List Int} {i : Nat} (h : rvI l0 i l) (hi : l0.length ≤ 2 * i + 1) : l = l0.reverse := by
  obtain ⟨h1, h2⟩ := h
  apply List.ext_getElem
  · rw [h1, List.length_reverse]
  · intro k hk1 hk2
    have hk : k < l0.length := by omega
    have h3 := h2 k hk
    rw [List.getD_eq_getElem?_getD, List.getElem?_eq_getElem hk1] at h3
    rw [List.getElem_reverse]
    rw [show l[k] = (some l[k]).getD 0 from rfl, h3]
    split
    · rw [List.getD_eq_getElem?_getD, List.getElem?_eq_getElem (by omega)]; rfl
    · have e : l0.length - 1 - k = k := by omega
      rw [List.getD_eq_getElem?_getD, List.getElem?_eq_getElem (by omega)]
      simp only [e]; rfl
theorem rv_step {l0 l : List Int} {i j : Nat} (h : rvI l0 i l) (hj : i + j + 1 = l0.length) (hij : i < j) : rvI l0 (i + 1) ((l.set i (l.getD j 0)).set j (l.getD i 0)) := by
  obtain ⟨h1, h2⟩ := h
  refine ⟨by simp [h1], fun k hk => ?_⟩
  have gi := h2 i (by omega)
  have gj := h2 j (by omega)
  rw [if_neg (by omega)] at gi gj
  rw [List.getD_eq_getElem?_getD, List.getElem?_set]
  by_cases hkj : j = k
  · subst hkj
    rw [if_pos rfl, List.length_set, if_pos (by omega), Option.getD_some, gi, if_pos (by omega), show l0.length - 1 - j = i by omega]
  · rw [if_neg hkj, List.getElem?_set]
    by_cases hki : i = k
    · subst hki
      rw [if_pos rfl, if_pos (by omega), Option.getD_some, gj, if_pos (by omega), show l0.length - 1 - i = j by omega]
    · rw [if_neg hki, ← List.getD_eq_getElem?_getD, h2 k hk]
      by_cases hc : k < i ∨ l0.length - i ≤ k
      · rw [if_pos hc, if_pos (by omega)]
      · rw [if_neg hc, if_neg (by omega)]
theorem ev_rev (l0 : List Int) (hl : l0.length ≤ 1000) : ∀ (d i : Nat) (l : List Int), l0.length ≤ 2 * i + d → i ≤ l0.length → rvI l0 i l →
    Ev (fun n => F7_L4 n (i : Int) ((l0.length : Int) - 1 - i) l) (l0.reverse.map toB) := by
  intro d
  induction d with
  | zero =>
    intro i l hd hi h
    refine Ev.step (Ev.pure.congr fun n => ?_)
    have d1 : decide ((i : Int) < (l0.length : Int) - 1 - i) = false := decide_eq_false (by omega)
    simp only [F7_L4, d1, iteB_f]
    rw [rv_end h (by omega)]
  | succ d ih =>
    intro i l hd hi h
    refine Ev.step ?_
    by_cases hlt : (i : Int) < (l0.length : Int) - 1 - i
    · obtain ⟨j, hj⟩ : ∃ j : Nat, (l0.length : Int) - 1 - i = j := ⟨((l0.length : Int) - 1 - i).toNat, by omega⟩
      have d1 : decide ((i : Int) < (j : Int)) = true := decide_eq_true (by omega)
      have hll := h.1
      have w1 : IntKind.wrap .i64 ((i : Int) + 1) = ((i + 1 : Nat) : Int) := by rw [w64 (by omega)]; omega
      have w2 : IntKind.wrap .i64 ((j : Int) - 1) = (l0.length : Int) - 1 - ((i + 1 : Nat) : Int) := by rw [w64 (by omega)]; omega
      have e := ih (i + 1) _ (by omega) (by omega) (rv_step (j := j) h (by omega) (by omega))
      rw [hj]
      refine e.congr fun n => ?_
      simp only [F7_L4, d1, iteB_t, toNat_nat, w1, w2]
      have g1 : (0 ≤ (j : Int) ∧ (j : Int) < (l.length : Int)) := by omega
      have g2 : (0 ≤ (i : Int) ∧ (i : Int) < (l.length : Int)) := by omega
      have g3 : j < l.length := by omega
      have g4 : i < l.length := by omega
      rw [grd_t _ g1, grd_t _ g3, grd_t _ g2, grd_t _ g4, grd_t _ g2, grd_t _ g4, grd_t _ g1, grd_t _ g3]
      rfl
    · refine Ev.pure.congr fun n => ?_
      have d1 : decide ((i : Int) < (l0.length : Int) - 1 - i) = false := decide_eq_false hlt
      simp only [F7_L4, d1, iteB_f]
      rw [rv_end h (by omega)]
theorem ev_J3 (l : List Int) (h0 : 0 < l.length) (hl : l.length ≤ 1000) : Ev (fun n => F7_J3 n l) (l.reverse.map toB) := by
  have w1 : IntKind.wrap .i64 ((l.length : Int) - 1) = (l.length : Int) - 1 - ((0 : Nat) : Int) := by rw [w64 (by omega)]; omega
  refine (ev_rev l hl l.length 0 l (by omega) (by omega) ⟨rfl, fun k hk => by rw [if_neg (by omega)]⟩).congr fun n => ?_
  simp only [F7_J3, w1]; rfl
theorem digitAt (r : Nat) (h : r < 10) : ((([48, 49, 50, 51, 52, 53, 54, 55, 56, 57, 97, 98, 99, 100, 101, 102] : List UInt8).getD r 0).toNat : Int) = 48 + r := by
  have : ∀ r : Fin 10, ((([48, 49, 50, 51, 52, 53, 54, 55, 56, 57, 97, 98, 99, 100, 101, 102] : List UInt8).getD r.val 0).toNat : Int) = 48 + r.val := by decide
  exact this ⟨r, h⟩
theorem ev_digs (a : Int) : ∀ (k m : Nat) (l : List Int), m < 10 ^ (k + 1) → m < 10000000000000000000 → l.length + k ≤ 100 → Ev (fun n => F7_L2 n a (m : Int) l) ((if a < 0 then l ++ dgR m ++ [45] else l ++ dgR m).reverse.map toB) := by
  intro k
  induction k with
  | zero =>
    intro m l hm hb hl
    have hm' : m < 10 := by omega
    refine Ev.step ?_
    have e1 : (m : Int).tmod 10 = m := by rw [Int.tmod_eq_emod_of_nonneg (by omega)]; omega
    have e2 : (m : Int).tdiv 10 = 0 := by rw [Int.tdiv_eq_ediv_of_nonneg (by omega)]; omega
    have e3 : (IntKind.wrap .u64 0 == (0 : Int)) = true := by rw [wu64 (by omega)]; rfl
    rw [dgR_lt hm']
    by_cases ha : a < 0
    · rw [if_pos ha]
      refine (ev_J3 (l ++ [48 + (m : Int)] ++ [45]) (by simp) (by simp; omega)).congr fun n => ?_
      simp only [F7_L2, e1, e2, e3, toNat_nat, digitAt m hm', decide_eq_true ha, iteB_t]
      rw [grd_t _ (by omega), grd_t _ (by omega), grd_t _ (by omega)]
    · rw [if_neg ha]
      refine (ev_J3 (l ++ [48 + (m : Int)]) (by simp) (by simp; omega)).congr fun n => ?_
      simp only [F7_L2, e1, e2, e3, toNat_nat, digitAt m hm', decide_eq_false ha, iteB_t, iteB_f]
      rw [grd_t _ (by omega), grd_t _ (by omega)]
  | succ k ih =>
    intro m l hm hb hl
    by_cases hm' : m < 10
    · have := ih m l (by have : 10 ^ 1 ≤ 10 ^ (k + 1) := Nat.pow_le_pow_right (by omega) (by omega); omega) hb (by omega)
      exact this
    refine Ev.step ?_
    have e1 : (m : Int).tmod 10 = ((m % 10 : Nat) : Int) := by rw [Int.tmod_eq_emod_of_nonneg (by omega)]; omega
    have e2 : (m : Int).tdiv 10 = ((m / 10 : Nat) : Int) := by rw [Int.tdiv_eq_ediv_of_nonneg (by omega)]; omega
    have e4 : IntKind.wrap .u64 ((m / 10 : Nat) : Int) = ((m / 10 : Nat) : Int) := wu64 (by omega)
    have e3 : (((m / 10 : Nat) : Int) == (0 : Int)) = false := by rw [beq_eq_false_iff_ne]; omega
    have := ih (m / 10) (l ++ [48 + ((m % 10 : Nat) : Int)]) (by rw [Nat.pow_succ] at hm; omega) (by omega) (by simp; omega)
    rw [dgR_ge hm']
    rw [show (if a < 0 then l ++ (48 + ((m % 10 : Nat) : Int)) :: dgR (m / 10) ++ [45] else l ++ (48 + ((m % 10 : Nat) : Int)) :: dgR (m / 10)) = (if a < 0 then l ++ [48 + ((m % 10 : Nat) : Int)] ++ dgR (m / 10) ++ [45] else l ++ [48 + ((m % 10 : Nat) : Int)] ++ dgR (m / 10)) by simp]
    refine this.congr fun n => ?_
    simp only [F7_L2, e1, e2, e4, e3, toNat_nat, digitAt (m % 10) (by omega), iteB_f]
    rw [grd_t _ (by omega), grd_t _ (by omega)]
theorem ev_Decimal (a : Int) (h : -9223372036854775808 ≤ a ∧ a ≤ 9223372036854775807) : Ev (fun n => F7 n a) (decT a) := by
  have hd := ev_digs a 19 a.natAbs [] (by omega) (by omega) (by simp)
  simp only [List.nil_append] at hd
  unfold decT decI
  refine hd.congr fun n => ?_
  have hw : ∀ x : Int, IntKind.wrap .u64 x = x % 18446744073709551616 := fun x => rfl
  by_cases ha : a < 0
  · have e : IntKind.wrap .u64 (0 - IntKind.wrap .u64 a) = (a.natAbs : Int) := by rw [hw, hw]; omega
    simp only [F7, F7_J1, decide_eq_true ha, iteB_t, e]
  · have e : IntKind.wrap .u64 a = (a.natAbs : Int) := by rw [hw]; omega
    simp only [F7, F7_J1, decide_eq_false ha, iteB_f, e]
end Go.Proofs.YtdfghdppbfabfaaDoorX

/- Names: what name.Bucket and name.Split answer. -/
set_option linter.unusedVariables false
set_option linter.unusedSimpArgs false
namespace Go.Proofs.YtdfghdppbfabfaaDoorX
open Go

/-! hex.ReadDecimal -/
def decP : List UInt8 → Int → Int × Bool
  | [], n => (n, true)
  | c :: l, n => if kindOf (c.toNat : Int) = 1 then decP l (n * 10 + ((c.toNat : Int) - 48)) else (0, false)
theorem kind_one {c : Int} (h : kindOf c = 1) : 48 ≤ c ∧ c ≤ 57 := by
  unfold kindOf at h
  split at h
  · assumption
  · split at h
    · omega
    · split at h
      · omega
      · split at h <;> omega
theorem pow10 (i : Nat) (h : i ≤ 17) : 1 ≤ (10 : Int) ^ i ∧ (10 : Int) ^ i ≤ 100000000000000000 ∧ (10 : Int) ^ (i + 1) = 10 ^ i * 10 := by
  have h1 : (10 : Nat) ^ i ≤ 10 ^ 17 := Nat.pow_le_pow_right (by omega) h
  have h2 : 1 ≤ (10 : Nat) ^ i := Nat.pos_of_ne_zero (by simp)
  have h3 : ((10 : Nat) ^ i : Nat) = ((10 : Int) ^ i) := by simp
  refine ⟨by omega, by omega, Int.pow_succ _ _⟩
theorem ev_dec_l (l : List UInt8) (hl : l.length ≤ 18) : ∀ (d i : Nat) (x : Int), i + d = l.length → 0 ≤ x ∧ x < (10 : Int) ^ i → Ev (fun k => F19_L1 k l x (i : Int)) (decP (l.drop i) x) := by
  intro d
  induction d with
  | zero =>
    intro i x hi hx
    rw [List.drop_of_length_le (by omega)]
    refine Ev.step (Ev.pure.congr fun k => ?_)
    rw [F19_L1, decide_eq_false (by omega), iteB_f]; rfl
  | succ d ih =>
    intro i x hi hx
    rw [drop_cons l i 0 (by omega), decP]
    obtain ⟨p1, p2, p3⟩ := pow10 i (by omega)
    have hb := u8_lt (l.getD i 0)
    have w1 : IntKind.wrap .i64 ((i : Int) + 1) = ((i + 1 : Nat) : Int) := by rw [w64 (by omega)]; omega
    generalize hc : l.getD i 0 = c at *
    by_cases hk : kindOf (c.toNat : Int) = 1
    · rw [if_pos hk]
      have hk' := kind_one hk
      have e := ih (i + 1) (x * 10 + ((c.toNat : Int) - 48)) (by omega) (by rw [p3]; omega)
      refine Ev.step (e.congr fun k => ?_)
      rw [F19_L1, decide_eq_true (by omega), iteB_t, grd_t _ (by omega), toNat_nat, hc, F23, bind_some', hk]
      show iteB false _ _ = _
      rw [iteB_f, grd_t _ (by omega), wu8 (by omega), w64 (n := (c.toNat : Int) - 48) (by omega), w64 (n := x * 10) (by omega), w64 (n := x * 10 + _) (by omega), w1]
    · rw [if_neg hk]
      refine Ev.step (Ev.pure.congr fun k => ?_)
      rw [F19_L1, decide_eq_true (by omega), iteB_t, grd_t _ (by omega), toNat_nat, hc, F23, bind_some', show (kindOf (c.toNat : Int) != 1) = true by rw [bne_iff_ne]; exact hk, iteB_t]
def readD (l : List UInt8) : Int × Bool := if l = [] ∨ 18 < l.length then (0, false) else decP l 0
theorem ev_ReadDecimal (l : List UInt8) : Ev (fun k => F19 k l) (readD l) := by
  unfold readD
  cases l with
  | nil => rw [if_pos (Or.inl rfl)]; exact Ev.pure.congr fun k => rfl
  | cons a l =>
    by_cases h : 18 < (a :: l).length
    · rw [if_pos (Or.inr h)]
      refine Ev.pure.congr fun k => ?_
      rw [F19, show ((a :: l) == []) = false by rfl, iteB_f, decide_eq_true (by omega), iteB_t]
    · rw [if_neg (by simp only [reduceCtorEq, false_or]; exact h)]
      have e := ev_dec_l (a :: l) (by omega) (a :: l).length 0 0 (by omega) (by decide)
      refine e.congr fun k => ?_
      rw [F19, show ((a :: l) == []) = false by rfl, iteB_f, decide_eq_false (by omega), iteB_f]; rfl
theorem decP_bd : ∀ (l : List UInt8) (x : Int) (m : Nat), 0 ≤ x → x < (10 : Int) ^ m → m + l.length ≤ 18 → 0 ≤ (decP l x).1 ∧ (decP l x).1 ≤ 1000000000000000000
  | [], x, m, h0, h, hl => by
    have h1 : (10 : Nat) ^ m ≤ 10 ^ 18 := Nat.pow_le_pow_right (by omega) (by simpa using hl)
    have h3 : ((10 : Nat) ^ m : Nat) = ((10 : Int) ^ m) := by simp
    rw [decP]; dsimp only; omega
  | c :: l, x, m, h0, h, hl => by
    rw [decP]
    rw [List.length_cons] at hl
    obtain ⟨p1, p2, p3⟩ := pow10 m (by omega)
    by_cases hk : kindOf (c.toNat : Int) = 1
    · have hk' := kind_one hk
      rw [if_pos hk]
      exact decP_bd l _ (m + 1) (by omega) (by rw [p3]; omega) (by omega)
    · rw [if_neg hk]; dsimp only; omega
theorem readD_bd (l : List UInt8) : 0 ≤ (readD l).1 ∧ (readD l).1 ≤ 1000000000000000000 := by
  unfold readD
  split
  · dsimp only; omega
  · exact decP_bd l 0 0 (by omega) (by decide) (by omega)

/-! signs and labels -/
def smallB (c : Int) : Bool := kindOf c == 1 || (kindOf c == 2 || kindOf c == 3)
theorem small_eq (n : Nat) (c : Int) : F35 n c = some (smallB c) := by
  rw [F35, F23, bind_some']
  unfold smallB
  generalize kindOf c = k
  by_cases h1 : k = 1
  · subst h1; rfl
  · rw [show (k == (1 : Int)) = false by rw [beq_eq_false_iff_ne]; exact h1, iteB_f, Bool.false_or]
    by_cases h2 : k = 2
    · subst h2; rfl
    · rw [show (k == (2 : Int)) = false by rw [beq_eq_false_iff_ne]; exact h2, iteB_f, Bool.false_or]
      cases k == (3 : Int) <;> rfl
def okS (c : UInt8) : Bool := smallB (c.toNat : Int) || ((c.toNat : Int) == 46 || (c.toNat : Int) == 45)
theorem ev_signs_l (s : List UInt8) (hs : s.length ≤ 1000000) : ∀ (d i : Nat), i + d = s.length → Ev (fun k => F20_L1 k s (i : Int)) ((s.drop i).all okS) := by
  intro d
  induction d with
  | zero =>
    intro i hi
    rw [List.drop_of_length_le (by omega)]
    refine Ev.step (Ev.pure.congr fun k => ?_)
    rw [F20_L1, decide_eq_false (by omega), iteB_f]; rfl
  | succ d ih =>
    intro i hi
    have w1 : IntKind.wrap .i64 ((i : Int) + 1) = ((i + 1 : Nat) : Int) := by rw [w64 (by omega)]; omega
    have e := ih (i + 1) (by omega)
    rw [drop_cons s i 0 (by omega), List.all_cons]
    have q1 : ∀ x : UInt8, ((([46] : List UInt8).getD (0 : Int).toNat 0).toNat : Int) = 46 := fun _ => rfl
    have q2 : ((([45] : List UInt8).getD (0 : Int).toNat 0).toNat : Int) = 45 := rfl
    generalize hc : s.getD i 0 = c at *
    unfold okS
    by_cases h1 : smallB (c.toNat : Int) = true
    · rw [h1, Bool.true_or, Bool.true_and]
      refine Ev.step (e.congr fun k => ?_)
      rw [F20_L1, decide_eq_true (by omega), iteB_t, grd_t _ (by omega), toNat_nat, hc, small_eq, bind_some', h1, w1]; rfl
    · rw [Bool.not_eq_true] at h1
      rw [h1, Bool.false_or]
      by_cases h2 : (c.toNat : Int) = 46
      · rw [show ((c.toNat : Int) == 46) = true by rw [beq_iff_eq]; exact h2, Bool.true_or, Bool.true_and]
        refine Ev.step (e.congr fun k => ?_)
        rw [F20_L1, decide_eq_true (by omega), iteB_t, grd_t _ (by omega), toNat_nat, hc, small_eq, bind_some', h1, w1]
        show iteB true _ _ = _
        rw [iteB_t, grd_t _ (by omega), grd_t _ (by decide), q1 0, show ((c.toNat : Int) != 46) = false by rw [h2]; rfl, iteB_f]
      · rw [show ((c.toNat : Int) == 46) = false by rw [beq_eq_false_iff_ne]; exact h2, Bool.false_or]
        by_cases h3 : (c.toNat : Int) = 45
        · rw [show ((c.toNat : Int) == 45) = true by rw [beq_iff_eq]; exact h3, Bool.true_and]
          refine Ev.step (e.congr fun k => ?_)
          rw [F20_L1, decide_eq_true (by omega), iteB_t, grd_t _ (by omega), toNat_nat, hc, small_eq, bind_some', h1, w1]
          show iteB true _ _ = _
          rw [iteB_t, grd_t _ (by omega), grd_t _ (by decide), q1 0, show ((c.toNat : Int) != 46) = true by rw [bne_iff_ne]; exact h2, iteB_t, grd_t _ (by omega), grd_t _ (by decide), q2, show ((c.toNat : Int) != 45) = false by rw [h3]; rfl, iteB_f]
        · rw [show ((c.toNat : Int) == 45) = false by rw [beq_eq_false_iff_ne]; exact h3, Bool.false_and]
          refine Ev.step (Ev.pure.congr fun k => ?_)
          rw [F20_L1, decide_eq_true (by omega), iteB_t, grd_t _ (by omega), toNat_nat, hc, small_eq, bind_some', h1]
          show iteB true _ _ = _
          rw [iteB_t, grd_t _ (by omega), grd_t _ (by decide), q1 0, show ((c.toNat : Int) != 46) = true by rw [bne_iff_ne]; exact h2, iteB_t, grd_t _ (by omega), grd_t _ (by decide), q2, show ((c.toNat : Int) != 45) = true by rw [bne_iff_ne]; exact h3, iteB_t]
theorem ev_signs (s : List UInt8) (hs : s.length ≤ 1000000) : Ev (fun k => F20 k s) (s.all okS) := (ev_signs_l s hs s.length 0 (by omega)).congr fun k => rfl
theorem split_len (c : UInt8) : ∀ (s : List UInt8), ∀ p ∈ splitB c s, p.length ≤ s.length
  | [], p, h => by simp [splitB] at h; subst h; simp
  | x :: l, p, h => by
    rw [splitB] at h
    split at h
    · rcases List.mem_cons.1 h with rfl | h
      · simp
      · have := split_len c l p h; simp; omega
    · split at h
      · simp at h; subst h; simp
      · rename_i y ys e
        rcases List.mem_cons.1 h with rfl | h
        · have := split_len c l y (by rw [e]; simp); simp; omega
        · have := split_len c l p (by rw [e]; simp [h]); simp; omega
def labB (p : List UInt8) : Bool := !(p == []) && (smallB ((p.getD 0 0).toNat : Int) && smallB ((p.getD (p.length - 1) 0).toNat : Int))
theorem mem_getD {α : Type} [Inhabited α] {l : List α} {i : Nat} (h : i < l.length) : l.getD i default ∈ l := by
  rw [List.getD_eq_getElem?_getD, List.getElem?_eq_getElem h]; exact List.getElem_mem h
theorem ev_edges_l (l : List (List UInt8)) (hl : l.length ≤ 1000000) (hp : ∀ p ∈ l, p.length ≤ 1000000) : ∀ (d i : Nat), i + d = l.length → Ev (fun k => F21_L1 k l true (i : Int)) ((l.drop i).all labB) := by
  intro d
  induction d with
  | zero =>
    intro i hi
    rw [List.drop_of_length_le (by omega)]
    refine Ev.step (Ev.pure.congr fun k => ?_)
    rw [F21_L1, decide_eq_false (by omega), iteB_f]; rfl
  | succ d ih =>
    intro i hi
    have w1 : IntKind.wrap .i64 ((i : Int) + 1) = ((i + 1 : Nat) : Int) := by rw [w64 (by omega)]; omega
    have e := ih (i + 1) (by omega)
    have hm := hp _ (mem_getD (l := l) (i := i) (by omega))
    rw [drop_cons l i default (by omega), List.all_cons]
    generalize hc : l.getD i default = p at *
    unfold labB
    by_cases h0 : p = []
    · rw [show (p == []) = true by rw [h0]; rfl]
      refine Ev.step (Ev.pure.congr fun k => ?_)
      rw [F21_L1, decide_eq_true (by omega), iteB_t, grd_t _ (by omega), toNat_nat, hc, show (p == []) = true by rw [h0]; rfl]; rfl
    · have hlen : 0 < p.length := List.length_pos_iff.2 h0
      have hne : (p == []) = false := by rw [beq_eq_false_iff_ne]; exact h0
      have w2 : IntKind.wrap .i64 ((p.length : Int) - 1) = ((p.length - 1 : Nat) : Int) := by rw [w64 (by omega)]; omega
      have g1 : ((0 : Int)).toNat = 0 := rfl
      rw [hne, Bool.not_false, Bool.true_and]
      by_cases h1 : smallB ((p.getD 0 0).toNat : Int) = true
      · rw [h1, Bool.true_and]
        by_cases h2 : smallB ((p.getD (p.length - 1) 0).toNat : Int) = true
        · rw [h2, Bool.true_and]
          refine Ev.step (e.congr fun k => ?_)
          rw [F21_L1, decide_eq_true (by omega), iteB_t, grd_t _ (by omega), toNat_nat, hc, hne, iteB_f, grd_t _ (by omega), g1, small_eq, bind_some', h1, w2]
          show iteB false _ _ = _
          rw [iteB_f, grd_t _ (by omega), toNat_nat, small_eq, bind_some', h2, w1]; rfl
        · rw [Bool.not_eq_true] at h2
          rw [h2, Bool.false_and]
          refine Ev.step (Ev.pure.congr fun k => ?_)
          rw [F21_L1, decide_eq_true (by omega), iteB_t, grd_t _ (by omega), toNat_nat, hc, hne, iteB_f, grd_t _ (by omega), g1, small_eq, bind_some', h1, w2]
          show iteB false _ _ = _
          rw [iteB_f, grd_t _ (by omega), toNat_nat, small_eq, bind_some', h2]; rfl
      · rw [Bool.not_eq_true] at h1
        rw [h1, Bool.false_and, Bool.false_and]
        refine Ev.step (Ev.pure.congr fun k => ?_)
        rw [F21_L1, decide_eq_true (by omega), iteB_t, grd_t _ (by omega), toNat_nat, hc, hne, iteB_f, grd_t _ (by omega), g1, small_eq, bind_some', h1]; rfl
theorem split_count (c : UInt8) : ∀ s : List UInt8, (splitB c s).length ≤ s.length + 1
  | [] => by simp [splitB]
  | x :: l => by
    have ih := split_count c l
    rw [splitB]
    split
    · simp; omega
    · split
      · simp
      · rename_i y ys e
        rw [e] at ih
        simp at ih ⊢; omega
theorem ev_edges (s : List UInt8) (hs : s.length ≤ 100000) : Ev (fun k => F21 k s) ((splitB 46 s).all labB) := by
  have h1 := split_count 46 s
  exact (Ev.bind (g := fun k v => F21_L1 k v true (0 : Int)) (ev_Split 46 s (by omega)) (ev_edges_l _ (by omega) (fun p hp => by have := split_len 46 s p hp; omega) (splitB 46 s).length 0 (by omega))).congr fun k => rfl
def numB (p : List UInt8) : Bool := (readD p).2 && (!(decide (255 < (readD p).1)) && decT (readD p).1 == p)
theorem ev_addr_l (l : List (List UInt8)) (hl : l.length ≤ 1000000) : ∀ (d i : Nat), i + d = l.length → Ev (fun k => F8_L1 k l (i : Int)) ((l.drop i).all numB) := by
  intro d
  induction d with
  | zero =>
    intro i hi
    rw [List.drop_of_length_le (by omega)]
    refine Ev.step (Ev.pure.congr fun k => ?_)
    rw [F8_L1, decide_eq_false (by omega), iteB_f]; rfl
  | succ d ih =>
    intro i hi
    have w1 : IntKind.wrap .i64 ((i : Int) + 1) = ((i + 1 : Nat) : Int) := by rw [w64 (by omega)]; omega
    obtain ⟨N1, k1⟩ := ih (i + 1) (by omega)
    rw [drop_cons l i default (by omega), List.all_cons]
    generalize hc : l.getD i default = p at *
    obtain ⟨N2, k2⟩ := ev_ReadDecimal p
    have hb := readD_bd p
    obtain ⟨N3, k3⟩ := ev_Decimal (readD p).1 (by omega)
    refine Ev.step ⟨N1 + N2 + N3, fun n hn => ?_⟩
    have e1 : F8_L1 n l ((i + 1 : Nat) : Int) = some ((l.drop (i + 1)).all numB) := k1 n (by omega)
    have e2 : F19 n p = some (readD p) := k2 n (by omega)
    have e3 : F7 n (readD p).1 = some (decT (readD p).1) := k3 n (by omega)
    show F8_L1 (n + 1) l (i : Int) = _
    rw [F8_L1, decide_eq_true (by omega), iteB_t, grd_t _ (by omega), toNat_nat, hc, e2, bind_some', e3, bind_some', w1, e1]
    unfold numB
    cases (readD p).2
    · rfl
    · cases decide ((255 : Int) < (readD p).1)
      · cases (decT (readD p).1 == p) <;> rfl
      · rfl
def addrB (l : List (List UInt8)) : Bool := l.length == 4 && l.all numB
theorem ev_Address (s : List UInt8) (hs : s.length ≤ 100000) : Ev (fun k => F8 k s) (addrB (splitB 46 s)) := by
  have h1 := split_count 46 s
  obtain ⟨N1, k1⟩ := ev_Split 46 s (by omega)
  obtain ⟨N2, k2⟩ := ev_addr_l (splitB 46 s) (by omega) (splitB 46 s).length 0 (by omega)
  refine ⟨N1 + N2, fun n hn => ?_⟩
  have e1 : F18 n s [46] = some (splitB 46 s) := k1 n (by omega)
  have e2 : F8_L1 n (splitB 46 s) 0 = some ((splitB 46 s).all numB) := k2 n (by omega)
  show F8 n s = _
  rw [F8, e1, bind_some', e2]
  unfold addrB
  by_cases h : (splitB 46 s).length = 4
  · rw [h]; rfl
  · rw [show (((splitB 46 s).length : Int) != 4) = true by rw [bne_iff_ne]; omega, iteB_t, show ((splitB 46 s).length == 4) = false by rw [beq_eq_false_iff_ne]; exact h, Bool.false_and]
def preB (s p : List UInt8) : Bool := decide (p.length ≤ s.length) && s.take p.length == p
def sufB (s p : List UInt8) : Bool := decide (p.length ≤ s.length) && s.drop (s.length - p.length) == p
theorem pre_eq (n : Nat) (s p : List UInt8) : F36 n s p = some (preB s p) := by
  rw [F36, F48]
  unfold preB
  by_cases h : p.length ≤ s.length
  · rw [decide_eq_true (by omega), iteB_t, grd_t _ (by omega), bind_some', decide_eq_true h, toNat_nat, Bool.true_and]
  · rw [decide_eq_false (by omega), iteB_f, bind_some', decide_eq_false h, Bool.false_and]
theorem suf_eq (n : Nat) (s p : List UInt8) (hs : s.length ≤ 1000000) : F37 n s p = some (sufB s p) := by
  rw [F37, F49]
  unfold sufB
  by_cases h : p.length ≤ s.length
  · rw [decide_eq_true (by omega), iteB_t, w64 (by omega), grd_t _ (by omega), bind_some', decide_eq_true h, show ((s.length : Int) - (p.length : Int)).toNat = s.length - p.length by omega, Bool.true_and]
  · rw [decide_eq_false (by omega), iteB_f, bind_some', decide_eq_false h, Bool.false_and]
def keptB (s : List UInt8) : Bool := preB s [120, 110, 45, 45] || (preB s [115, 116, 104, 114, 101, 101, 45] || (sufB s [45, 115, 51, 97, 108, 105, 97, 115] || sufB s [45, 45, 111, 108, 45, 115, 51]))
theorem kept_eq (n : Nat) (s : List UInt8) (hs : s.length ≤ 1000000) : F22 n s = some (keptB s) := by
  rw [F22, pre_eq, bind_some', pre_eq, bind_some', suf_eq _ _ _ hs, bind_some', suf_eq _ _ _ hs, bind_some']
  unfold keptB
  cases preB s [120, 110, 45, 45] <;> cases preB s [115, 116, 104, 114, 101, 101, 45] <;> cases sufB s [45, 115, 51, 97, 108, 105, 97, 115] <;> rfl
def bucketT (s : List UInt8) : Int := if s.length < 3 then 1 else if 63 < s.length then 1 else if s.all okS = false then 2 else if (splitB 46 s).all labB = false then 3 else if addrB (splitB 46 s) = true then 4 else if keptB s = true then 5 else 0
theorem ev_Bucket (s : List UInt8) : Ev (fun k => F9 k s) (bucketT s) := by
  unfold bucketT
  by_cases h1 : s.length < 3
  · rw [if_pos h1]
    refine Ev.pure.congr fun k => ?_
    rw [F9, decide_eq_true (by omega), iteB_t]
  · rw [if_neg h1]
    by_cases h2 : 63 < s.length
    · rw [if_pos h2]
      refine Ev.pure.congr fun k => ?_
      rw [F9, decide_eq_false (by omega), iteB_f, decide_eq_true (by omega), iteB_t]
    · rw [if_neg h2]
      obtain ⟨N1, k1⟩ := ev_signs s (by omega)
      obtain ⟨N2, k2⟩ := ev_edges s (by omega)
      obtain ⟨N3, k3⟩ := ev_Address s (by omega)
      refine ⟨N1 + N2 + N3, fun n hn => ?_⟩
      have e1 : F20 n s = some (s.all okS) := k1 n (by omega)
      have e2 : F21 n s = some ((splitB 46 s).all labB) := k2 n (by omega)
      have e3 : F8 n s = some (addrB (splitB 46 s)) := k3 n (by omega)
      show F9 n s = _
      rw [F9, decide_eq_false (by omega), iteB_f, decide_eq_false (by omega), iteB_f, e1, bind_some', e2, bind_some', e3, bind_some', kept_eq _ _ (by omega), bind_some']
      cases s.all okS
      · rfl
      · cases (splitB 46 s).all labB
        · rfl
        · cases addrB (splitB 46 s)
          · cases keptB s <;> rfl
          · rfl
def nameT (s : List UInt8) : List UInt8 × List UInt8 × Bool := if bucketT (cutB 64 s).1 = 0 ∧ ((cutB 64 s).2.2 = true → bucketT (cutB 64 s).2.1 = 0) then ((cutB 64 s).1, (cutB 64 s).2.1, true) else ([], [], false)
theorem ev_nSplit (s : List UInt8) (hs : s.length ≤ 100000) : Ev (fun k => F11 k s) (nameT s) := by
  obtain ⟨N1, k1⟩ := ev_Bucket (cutB 64 s).1
  obtain ⟨N2, k2⟩ := ev_Bucket (cutB 64 s).2.1
  refine ⟨N1 + N2, fun n hn => ?_⟩
  have e1 : F9 n (cutB 64 s).1 = some (bucketT (cutB 64 s).1) := k1 n (by omega)
  have e2 : F9 n (cutB 64 s).2.1 = some (bucketT (cutB 64 s).2.1) := k2 n (by omega)
  show F11 n s = _
  rw [F11, Cut_eq n s 64 (by omega), bind_some', e1, bind_some', e2, bind_some']
  unfold nameT
  by_cases h1 : bucketT (cutB 64 s).1 = 0
  · rw [show (bucketT (cutB 64 s).1 != 0) = false by rw [h1]; rfl, iteB_f]
    by_cases h2 : (cutB 64 s).2.2 = true
    · rw [h2, iteB_t]
      by_cases h3 : bucketT (cutB 64 s).2.1 = 0
      · rw [show (bucketT (cutB 64 s).2.1 != 0) = false by rw [h3]; rfl, iteB_f, if_pos ⟨h1, fun _ => h3⟩]
      · rw [show (bucketT (cutB 64 s).2.1 != 0) = true by rw [bne_iff_ne]; exact h3, iteB_t, if_neg (fun h => h3 (h.2 rfl))]
    · rw [if_pos ⟨h1, fun h => absurd h h2⟩]
      rw [Bool.not_eq_true] at h2
      rw [h2, iteB_f]
  · rw [show (bucketT (cutB 64 s).1 != 0) = true by rw [bne_iff_ne]; exact h1, iteB_t, if_neg (fun h => h1 h.1)]
end Go.Proofs.YtdfghdppbfabfaaDoorX

/- Addresses: numbers up to 255 with dots between. -/
set_option linter.unusedVariables false
set_option linter.unusedSimpArgs false
namespace Go.Proofs.YtdfghdppbfabfaaDoorX
open Go

/-- A number up to 255, told. -/
def d3 (n : Nat) : List UInt8 := if n < 10 then [toB (48 + (n : Int))] else if n < 100 then [toB (48 + ((n / 10 : Nat) : Int)), toB (48 + ((n % 10 : Nat) : Int))] else [toB (48 + ((n / 100 : Nat) : Int)), toB (48 + ((n / 10 % 10 : Nat) : Int)), toB (48 + ((n % 10 : Nat) : Int))]
theorem dec_d3 (n : Nat) (h : n < 256) : decT (n : Int) = d3 n := by
  unfold decT decI d3
  rw [if_neg (by omega), show ((n : Int)).natAbs = n by omega]
  by_cases h1 : n < 10
  · rw [if_pos h1, dgR_lt h1]; rfl
  · rw [if_neg h1]
    by_cases h2 : n < 100
    · rw [if_pos h2, dgR_ge h1, dgR_lt (by omega)]; rfl
    · rw [if_neg h2, dgR_ge h1, dgR_ge (by omega), dgR_lt (by omega), Nat.div_div_eq_div_mul]; rfl
theorem d3_facts (n : Nat) (h : n < 256) : (d3 n).length ≤ 3 ∧ 1 ≤ (d3 n).length ∧ 46 ∉ d3 n ∧ readD (d3 n) = ((n : Int), true) ∧ (d3 n).all okS = true ∧ labB (d3 n) = true ∧ readD (48 :: d3 n) = ((n : Int), true) := by
  have : ∀ n : Fin 256, (d3 n.val).length ≤ 3 ∧ 1 ≤ (d3 n.val).length ∧ 46 ∉ d3 n.val ∧ readD (d3 n.val) = ((n.val : Int), true) ∧ (d3 n.val).all okS = true ∧ labB (d3 n.val) = true ∧ readD (48 :: d3 n.val) = ((n.val : Int), true) := by decide +kernel
  exact this ⟨n, h⟩
theorem num_d3 (n : Nat) (h : n < 256) : numB (d3 n) = true := by
  unfold numB
  rw [(d3_facts n h).2.2.2.1, dec_d3 n h]
  simp; omega
theorem num_zero (n : Nat) (h : n < 256) : numB (48 :: d3 n) = false := by
  unfold numB
  rw [(d3_facts n h).2.2.2.2.2.2, dec_d3 n h]
  have : (d3 n == 48 :: d3 n) = false := by
    rw [beq_eq_false_iff_ne]
    intro e
    have := congrArg List.length e
    simp at this
  rw [this]; simp
theorem split_app (c : UInt8) (b : List UInt8) : ∀ a : List UInt8, c ∉ a → splitB c (a ++ c :: b) = a :: splitB c b
  | [], _ => by rw [List.nil_append, splitB, if_pos rfl]
  | x :: a, h => by
    simp only [List.mem_cons, not_or] at h
    rw [List.cons_append, splitB, if_neg (fun e => h.1 e.symm), split_app c b a h.2]
theorem split_one (c : UInt8) : ∀ a : List UInt8, c ∉ a → splitB c a = [a]
  | [], _ => rfl
  | x :: a, h => by
    simp only [List.mem_cons, not_or] at h
    rw [splitB, if_neg (fun e => h.1 e.symm), split_one c a h.2]
end Go.Proofs.YtdfghdppbfabfaaDoorX

/- A bucket's name with a letter more. -/
set_option linter.unusedVariables false
set_option linter.unusedSimpArgs false
namespace Go.Proofs.YtdfghdppbfabfaaDoorX
open Go

theorem split_snoc {c x : UInt8} (h : x ≠ c) : ∀ s : List UInt8, ∃ ys y, splitB c s = ys ++ [y] ∧ splitB c (s ++ [x]) = ys ++ [y ++ [x]]
  | [] => ⟨[], [], rfl, by rw [List.nil_append, splitB, if_neg h]; rfl⟩
  | a :: l => by
    obtain ⟨ys, y, h1, h2⟩ := split_snoc h l
    by_cases e : a = c
    · exact ⟨[] :: ys, y, by rw [splitB, if_pos e, h1]; rfl, by rw [List.cons_append, splitB, if_pos e, h2]; rfl⟩
    · cases ys with
      | nil => exact ⟨[], a :: y, by rw [splitB, if_neg e, h1]; rfl, by rw [List.cons_append, splitB, if_neg e, h2]; rfl⟩
      | cons z zs => exact ⟨(a :: z) :: zs, y, by rw [splitB, if_neg e, h1]; rfl, by rw [List.cons_append, splitB, if_neg e, h2]; rfl⟩
theorem fine_of {s : List UInt8} (h : bucketT s = 0) : 3 ≤ s.length ∧ s.length ≤ 63 ∧ s.all okS = true ∧ (splitB 46 s).all labB = true ∧ addrB (splitB 46 s) = false ∧ keptB s = false := by
  unfold bucketT at h
  split at h
  · omega
  · split at h
    · omega
    · split at h
      · omega
      · split at h
        · omega
        · split at h
          · omega
          · split at h
            · omega
            · rename_i h1 h2 h3 h4 h5 h6
              refine ⟨by omega, by omega, by simpa using h3, by simpa using h4, by simpa using h5, by simpa using h6⟩
theorem decP_all : ∀ (l : List UInt8) (x : Int), (decP l x).2 = true → ∀ c ∈ l, kindOf (c.toNat : Int) = 1
  | [], _, _, c, hc => by simp at hc
  | a :: l, x, h, c, hc => by
    rw [decP] at h
    by_cases k : kindOf (a.toNat : Int) = 1
    · rw [if_pos k] at h
      rcases List.mem_cons.1 hc with rfl | hc
      · exact k
      · exact decP_all l _ h c hc
    · rw [if_neg k] at h; cases h
theorem num_snoc (p : List UInt8) : numB (p ++ [97]) = false := by
  have : (readD (p ++ [97])).2 = false := by
    unfold readD
    split
    · rfl
    · cases h : (decP (p ++ [97]) 0).2 with
      | false => rfl
      | true => have := decP_all _ _ h 97 (by simp); revert this; decide
  unfold numB; rw [this]; rfl
theorem last_eq {a b : List UInt8} {x y : UInt8} (h : a ++ [x] = b ++ [y]) : x = y := by
  have := congrArg List.getLast? h
  simpa using this
theorem pre_snoc {s q : List UInt8} {z : UInt8} (hz : z ≠ 97) (h : preB s (q ++ [z]) = false) : preB (s ++ [97]) (q ++ [z]) = false := by
  unfold preB at h ⊢
  by_cases hl : (q ++ [z]).length ≤ s.length
  · rw [decide_eq_true hl, Bool.true_and] at h
    rw [List.take_append_of_le_length hl, h, Bool.and_false]
  · by_cases hm : (q ++ [z]).length ≤ (s ++ [97]).length
    · have : ((s ++ [97]).take (q ++ [z]).length == q ++ [z]) = false := by
        rw [beq_eq_false_iff_ne, List.take_of_length_le (by rw [List.length_append] at hm ⊢; simp at hm hl ⊢; omega)]
        exact fun e => hz (last_eq e).symm
      rw [this, Bool.and_false]
    · rw [decide_eq_false hm, Bool.false_and]
theorem suf_snoc {s q : List UInt8} {z : UInt8} (hz : z ≠ 97) : sufB (s ++ [97]) (q ++ [z]) = false := by
  unfold sufB
  by_cases hm : (q ++ [z]).length ≤ (s ++ [97]).length
  · have : ((s ++ [97]).drop ((s ++ [97]).length - (q ++ [z]).length) == q ++ [z]) = false := by
      rw [beq_eq_false_iff_ne, List.drop_append_of_le_length (by simp)]
      exact fun e => hz (last_eq e).symm
    rw [this, Bool.and_false]
  · rw [decide_eq_false hm, Bool.false_and]
theorem kept_snoc {s : List UInt8} (h : keptB s = false) : keptB (s ++ [97]) = false := by
  unfold keptB at h ⊢
  simp only [Bool.or_eq_false_iff] at h ⊢
  exact ⟨pre_snoc (q := [120, 110, 45]) (z := 45) (by decide) h.1, pre_snoc (q := [115, 116, 104, 114, 101, 101]) (z := 45) (by decide) h.2.1,
    suf_snoc (q := [45, 115, 51, 97, 108, 105, 97]) (z := 115) (by decide), suf_snoc (q := [45, 45, 111, 108, 45, 115]) (z := 51) (by decide)⟩
theorem fine_more {s : List UInt8} (h : bucketT s = 0) : bucketT (s ++ [97]) = if s.length = 63 then 1 else 0 := by
  obtain ⟨h1, h2, h3, h4, h5, h6⟩ := fine_of h
  unfold bucketT
  rw [if_neg (by simp; omega)]
  by_cases hl : s.length = 63
  · rw [if_pos (by simp; omega), if_pos hl]
  · rw [if_neg (by simp; omega), if_neg hl]
    obtain ⟨ys, y, e1, e2⟩ := split_snoc (c := 46) (x := 97) (by decide) s
    have a1 : (s ++ [97]).all okS = true := by rw [List.all_append, h3]; decide
    have a2 : (splitB 46 (s ++ [97])).all labB = true := by
      rw [e1] at h4
      rw [e2]
      simp only [List.all_append, List.all_cons, List.all_nil, Bool.and_true, Bool.and_eq_true] at h4 ⊢
      refine ⟨h4.1, ?_⟩
      have hy := h4.2
      unfold labB at hy ⊢
      simp only [Bool.and_eq_true, Bool.not_eq_true', beq_eq_false_iff_ne] at hy ⊢
      obtain ⟨y1, y2, y3⟩ := hy
      cases y with
      | nil => exact absurd rfl y1
      | cons b y =>
        refine ⟨by simp, by simpa using y2, ?_⟩
        simp only [List.length_append, List.length_cons, List.length_nil, List.cons_append]
        rw [show y.length + 1 + (0 + 1) - 1 = (y.length + 1) from by omega]
        simp
        decide
    have a3 : addrB (splitB 46 (s ++ [97])) = false := by
      unfold addrB
      rw [e2, List.all_append, List.all_cons, num_snoc, Bool.false_and, Bool.and_false, Bool.and_false]
    rw [if_neg (by rw [a1]; simp), if_neg (by rw [a2]; simp), if_neg (by rw [a3]; simp), if_neg (by rw [kept_snoc h6]; simp)]
theorem minus_more {s : List UInt8} : bucketT (s ++ [45]) ≠ 0 := by
  intro h
  obtain ⟨h1, h2, h3, h4, h5, h6⟩ := fine_of h
  obtain ⟨ys, y, e1, e2⟩ := split_snoc (c := 46) (x := 45) (by decide) s
  rw [e2] at h4
  simp only [List.all_append, List.all_cons, List.all_nil, Bool.and_true, Bool.and_eq_true] at h4
  have := h4.2
  unfold labB at this
  simp only [Bool.and_eq_true] at this
  have z := this.2.2
  have e : (y ++ [45]).getD ((y ++ [45]).length - 1) 0 = (45 : UInt8) := by simp
  rw [e] at z
  revert z; decide
theorem great_more {s : List UInt8} : bucketT (65 :: s) ≠ 0 := by
  intro h
  obtain ⟨h1, h2, h3, h4, h5, h6⟩ := fine_of h
  rw [List.all_cons] at h3
  have : okS 65 = false := by decide
  rw [this] at h3; cases h3
def lowC (c : UInt8) : Int := if kindOf (c.toNat : Int) = 4 then (c.toNat : Int) + 32 else (c.toNat : Int)
theorem low_ok (c : UInt8) (h : okS c = true) : kindOf (c.toNat : Int) ≠ 4 := by
  intro e
  unfold okS smallB at h
  rw [e] at h
  have : ∀ c : UInt8, kindOf (c.toNat : Int) = 4 → (c.toNat : Int) ≠ 46 ∧ (c.toNat : Int) ≠ 45 := by
    intro c k
    unfold kindOf at k
    split at k
    · cases k
    · split at k
      · cases k
      · split at k
        · cases k
        · split at k <;> omega
  have := this c e
  simp at h
  omega
end Go.Proofs.YtdfghdppbfabfaaDoorX

/- Characters: plain words and laws (what is put is next). -/
set_option linter.unusedVariables false
set_option linter.unusedSimpArgs false
namespace Go.Proofs.YtdfghdppbfabfaaDoorX
open Go

def Bytes (l : List Int) : Prop := ∀ x ∈ l, 0 ≤ x ∧ x ≤ 255
theorem Bytes.nil : Bytes [] := by intro x hx; cases hx
theorem Bytes.cons {a : Int} {r : List Int} (h : 0 ≤ a ∧ a ≤ 255) (hr : Bytes r) : Bytes (a :: r) := by
  intro x hx
  rcases List.mem_cons.1 hx with rfl | hx
  · exact h
  · exact hr x hx
theorem Bytes.head {a : Int} {r : List Int} (h : Bytes (a :: r)) : 0 ≤ a ∧ a ≤ 255 := h a (by simp)
theorem Bytes.tail {a : Int} {r : List Int} (h : Bytes (a :: r)) : Bytes r := fun x hx => h x (by simp [hx])
theorem Bytes.drop {l : List Int} (h : Bytes l) (n : Nat) : Bytes (l.drop n) := fun x hx => h x (List.mem_of_mem_drop hx)
theorem Bytes.append {l r : List Int} (h : Bytes l) (h' : Bytes r) : Bytes (l ++ r) := fun x hx => by
  rcases List.mem_append.1 hx with hx | hx
  · exact h x hx
  · exact h' x hx
def utfSize (c : Int) : Int := if c < 128 then 1 else if c < 2048 then 2 else if c < 65536 then 3 else 4
def rightU (c : Int) : Prop := 0 ≤ c ∧ c ≤ 1114111 ∧ (c < 55296 ∨ 57343 < c)
instance (c : Int) : Decidable (rightU c) := by unfold rightU; exact inferInstance
/-- A character's bytes. -/
def putU (c : Int) : List Int :=
  if ¬ rightU c then [] else if c < 128 then [c] else if c < 2048 then [192 + c / 64, 128 + c % 64]
  else if c < 65536 then [224 + c / 4096, 128 + c / 64 % 64, 128 + c % 64]
  else [240 + c / 262144, 128 + c / 4096 % 64, 128 + c / 64 % 64, 128 + c % 64]
def lenU (a : Int) : Nat := if a < 128 then 1 else if a < 192 then 0 else if a < 224 then 2 else if a < 240 then 3 else if a < 248 then 4 else 0
def leadU (n : Nat) : Int := if n = 1 then 0 else if n = 2 then 192 else if n = 3 then 224 else 240
def finU (n : Nat) (c : Int) : Int × Int := if rightU c ∧ utfSize c = (n : Int) then (c, (n : Int)) else (0, 0)
def contU (n : Nat) : Int → List Int → Nat → Int × Int
  | c, _, 0 => finU n c
  | c, b :: r, m + 1 => if 128 ≤ b ∧ b ≤ 191 then contU n (c * 64 + b % 64) r m else (0, 0)
  | _, [], _ + 1 => (0, 0)
/-- The character that bytes begin with, and how many bytes it has. -/
def nextU : List Int → Int × Int
  | [] => (0, 0)
  | a :: r => if lenU a = 0 ∨ lenU a > (a :: r).length then (0, 0) else contU (lenU a) (a - leadU (lenU a)) r (lenU a - 1)

theorem putU_1 {c : Int} (h : rightU c) (h1 : c < 128) : putU c = [c] := by unfold putU; rw [if_neg (fun e => e h), if_pos h1]
theorem putU_2 {c : Int} (h : rightU c) (h0 : 128 ≤ c) (h1 : c < 2048) : putU c = [192 + c / 64, 128 + c % 64] := by unfold putU; rw [if_neg (fun e => e h), if_neg (by omega), if_pos h1]
theorem putU_3 {c : Int} (h : rightU c) (h0 : 2048 ≤ c) (h1 : c < 65536) : putU c = [224 + c / 4096, 128 + c / 64 % 64, 128 + c % 64] := by unfold putU; rw [if_neg (fun e => e h), if_neg (by omega), if_neg (by omega), if_pos h1]
theorem putU_4 {c : Int} (h : rightU c) (h0 : 65536 ≤ c) : putU c = [240 + c / 262144, 128 + c / 4096 % 64, 128 + c / 64 % 64, 128 + c % 64] := by unfold putU; rw [if_neg (fun e => e h), if_neg (by omega), if_neg (by omega), if_neg (by omega)]
theorem putU_no {c : Int} (h : ¬ rightU c) : putU c = [] := by unfold putU; rw [if_pos h]
theorem size_1 {c : Int} (h : c < 128) : utfSize c = 1 := by unfold utfSize; rw [if_pos h]
theorem size_2 {c : Int} (h0 : 128 ≤ c) (h : c < 2048) : utfSize c = 2 := by unfold utfSize; rw [if_neg (by omega), if_pos h]
theorem size_3 {c : Int} (h0 : 2048 ≤ c) (h : c < 65536) : utfSize c = 3 := by unfold utfSize; rw [if_neg (by omega), if_neg (by omega), if_pos h]
theorem size_4 {c : Int} (h0 : 65536 ≤ c) : utfSize c = 4 := by unfold utfSize; rw [if_neg (by omega), if_neg (by omega), if_neg (by omega)]
theorem len_1 {a : Int} (h : a < 128) : lenU a = 1 := by unfold lenU; rw [if_pos h]
theorem len_2 {a : Int} (h0 : 192 ≤ a) (h : a < 224) : lenU a = 2 := by unfold lenU; rw [if_neg (by omega), if_neg (by omega), if_pos h]
theorem len_3 {a : Int} (h0 : 224 ≤ a) (h : a < 240) : lenU a = 3 := by unfold lenU; rw [if_neg (by omega), if_neg (by omega), if_neg (by omega), if_pos h]
theorem len_4 {a : Int} (h0 : 240 ≤ a) (h : a < 248) : lenU a = 4 := by unfold lenU; rw [if_neg (by omega), if_neg (by omega), if_neg (by omega), if_neg (by omega), if_pos h]
theorem len_0 {a : Int} (h : (128 ≤ a ∧ a < 192) ∨ 248 ≤ a) : lenU a = 0 := by
  unfold lenU
  rcases h with h | h
  · rw [if_neg (by omega), if_pos (by omega)]
  · rw [if_neg (by omega), if_neg (by omega), if_neg (by omega), if_neg (by omega), if_neg (by omega)]
theorem contU_step {n m : Nat} {c b : Int} {r : List Int} (h : 128 ≤ b ∧ b ≤ 191) : contU n c (b :: r) (m + 1) = contU n (c * 64 + b % 64) r m := by rw [contU, if_pos h]
theorem contU_no {n m : Nat} {c b : Int} {r : List Int} (h : ¬ (128 ≤ b ∧ b ≤ 191)) : contU n c (b :: r) (m + 1) = (0, 0) := by rw [contU, if_neg h]
theorem contU_fin {n : Nat} {c : Int} {r : List Int} : contU n c r 0 = finU n c := by cases r <;> rw [contU]

/-- What is put is next, whatever stands behind it. -/
theorem next_put {c : Int} (h : rightU c) (rest : List Int) : nextU (putU c ++ rest) = (c, ((putU c).length : Int)) := by
  obtain ⟨h0, h1, h2⟩ := id h
  rcases (show c < 128 ∨ (128 ≤ c ∧ c < 2048) ∨ (2048 ≤ c ∧ c < 65536) ∨ 65536 ≤ c by omega) with a | ⟨a, b⟩ | ⟨a, b⟩ | a
  · rw [putU_1 h a]
    show nextU (c :: rest) = (c, 1)
    rw [nextU, len_1 a, if_neg (by simp), contU_fin, finU]
    rw [show c - leadU 1 = c by unfold leadU; rw [if_pos rfl]; omega, if_pos ⟨h, size_1 a⟩]
    rfl
  · rw [putU_2 h a b]
    show nextU ((192 + c / 64) :: (128 + c % 64) :: rest) = (c, 2)
    rw [nextU, len_2 (by omega) (by omega), if_neg (by simp)]
    rw [contU_step (by omega), contU_fin, finU, show (192 + c / 64 - leadU 2) * 64 + (128 + c % 64) % 64 = c by unfold leadU; rw [if_neg (by omega), if_pos rfl]; omega, if_pos ⟨h, size_2 a b⟩]
    rfl
  · rw [putU_3 h a b]
    show nextU ((224 + c / 4096) :: (128 + c / 64 % 64) :: (128 + c % 64) :: rest) = (c, 3)
    rw [nextU, len_3 (by omega) (by omega), if_neg (by simp)]
    rw [contU_step (by omega), contU_step (by omega), contU_fin, finU, show ((224 + c / 4096 - leadU 3) * 64 + (128 + c / 64 % 64) % 64) * 64 + (128 + c % 64) % 64 = c by unfold leadU; rw [if_neg (by omega), if_neg (by omega), if_pos rfl]; omega, if_pos ⟨h, size_3 a b⟩]
    rfl
  · rw [putU_4 h a]
    show nextU ((240 + c / 262144) :: (128 + c / 4096 % 64) :: (128 + c / 64 % 64) :: (128 + c % 64) :: rest) = (c, 4)
    rw [nextU, len_4 (by omega) (by omega), if_neg (by simp)]
    rw [contU_step (by omega), contU_step (by omega), contU_step (by omega), contU_fin, finU, show (((240 + c / 262144 - leadU 4) * 64 + (128 + c / 4096 % 64) % 64) * 64 + (128 + c / 64 % 64) % 64) * 64 + (128 + c % 64) % 64 = c by unfold leadU; rw [if_neg (by omega), if_neg (by omega), if_neg (by omega)]; omega, if_pos ⟨h, size_4 a⟩]
    rfl
theorem finU_some {n : Nat} {c x k : Int} (h : finU n c = (x, k)) (hk : k ≠ 0) : x = c ∧ k = n ∧ rightU c ∧ utfSize c = n := by
  unfold finU at h
  by_cases h1 : rightU c ∧ utfSize c = (n : Int)
  · rw [if_pos h1] at h
    simp only [Prod.mk.injEq] at h
    exact ⟨h.1.symm, h.2.symm, h1.1, h1.2⟩
  · rw [if_neg h1] at h
    simp only [Prod.mk.injEq] at h
    exact absurd h.2.symm hk
/-- What is next has been put. -/
theorem put_next : ∀ (l : List Int) (c k : Int), Bytes l → nextU l = (c, k) → k ≠ 0 → rightU c ∧ k = ((putU c).length : Int) ∧ ∃ rest, l = putU c ++ rest
  | [], c, k, hb, h, hk => by rw [nextU] at h; simp only [Prod.mk.injEq] at h; exact absurd h.2.symm hk
  | a :: r, c, k, hb, h, hk => by
    have ha := hb.head
    rw [nextU] at h
    by_cases h0 : lenU a = 0 ∨ lenU a > (a :: r).length
    · rw [if_pos h0] at h; simp only [Prod.mk.injEq] at h; exact absurd h.2.symm hk
    rw [if_neg h0] at h
    have z : ∀ (P : Prop), ((0 : Int), (0 : Int)) = (c, k) → P := fun P e => by simp only [Prod.mk.injEq] at e; exact absurd e.2.symm hk
    rcases (show a < 128 ∨ (192 ≤ a ∧ a < 224) ∨ (224 ≤ a ∧ a < 240) ∨ (240 ≤ a ∧ a < 248) ∨ ((128 ≤ a ∧ a < 192) ∨ 248 ≤ a) by omega) with e | ⟨e1, e2⟩ | ⟨e1, e2⟩ | ⟨e1, e2⟩ | e
    · rw [len_1 e, contU_fin] at h
      obtain ⟨rfl, rfl, hr, hs⟩ := finU_some h hk
      have el : a - leadU 1 = a := by unfold leadU; rw [if_pos rfl]; omega
      rw [el] at hr ⊢
      exact ⟨hr, by rw [putU_1 hr e]; rfl, r, by rw [putU_1 hr e]; rfl⟩
    · rw [len_2 e1 e2] at h h0
      match r, h, h0, hb with
      | [], h, h0, hb => exact absurd (show (2 : Nat) > 1 by omega) (fun q => h0 (.inr q))
      | b :: r, h, h0, hb =>
        have hbb := hb.tail.head
        by_cases hc : 128 ≤ b ∧ b ≤ 191
        · rw [contU_step hc, contU_fin] at h
          obtain ⟨rfl, rfl, hr, hs⟩ := finU_some h hk
          have el : (a - leadU 2) * 64 + b % 64 = (a - 192) * 64 + (b - 128) := by unfold leadU; rw [if_neg (by omega), if_pos rfl]; omega
          rw [el] at hr hs ⊢
          have hlo : 128 ≤ (a - 192) * 64 + (b - 128) := by
            rcases Int.lt_or_le ((a - 192) * 64 + (b - 128)) 128 with q | q
            · rw [size_1 q] at hs; omega
            · exact q
          have hp := putU_2 hr hlo (by omega)
          rw [hp]
          exact ⟨hr, rfl, r, by show _ = _ :: _ :: r; congr 1; omega; congr 1; omega⟩
        · rw [contU_no hc] at h; exact z _ h
    · rw [len_3 e1 e2] at h h0
      match r, h, h0, hb with
      | [], h, h0, hb => exact absurd (show (3 : Nat) > 1 by omega) (fun q => h0 (.inr q))
      | [b], h, h0, hb => exact absurd (show (3 : Nat) > 2 by omega) (fun q => h0 (.inr q))
      | b :: d :: r, h, h0, hb =>
        have hbb := hb.tail.head
        have hdd := hb.tail.tail.head
        by_cases hc : 128 ≤ b ∧ b ≤ 191
        · rw [contU_step hc] at h
          by_cases hd : 128 ≤ d ∧ d ≤ 191
          · rw [contU_step hd, contU_fin] at h
            obtain ⟨rfl, rfl, hr, hs⟩ := finU_some h hk
            have el : ((a - leadU 3) * 64 + b % 64) * 64 + d % 64 = (a - 224) * 4096 + (b - 128) * 64 + (d - 128) := by unfold leadU; rw [if_neg (by omega), if_neg (by omega), if_pos rfl]; omega
            rw [el] at hr hs ⊢
            have hlo : 2048 ≤ (a - 224) * 4096 + (b - 128) * 64 + (d - 128) := by
              rcases Int.lt_or_le ((a - 224) * 4096 + (b - 128) * 64 + (d - 128)) 2048 with q | q
              · rcases Int.lt_or_le ((a - 224) * 4096 + (b - 128) * 64 + (d - 128)) 128 with q1 | q1
                · rw [size_1 q1] at hs; omega
                · rw [size_2 q1 q] at hs; omega
              · exact q
            have hp := putU_3 hr hlo (by omega)
            rw [hp]
            exact ⟨hr, rfl, r, by show _ = _ :: _ :: _ :: r; congr 1; omega; congr 1; omega; congr 1; omega⟩
          · rw [contU_no hd] at h; exact z _ h
        · rw [contU_no hc] at h; exact z _ h
    · rw [len_4 e1 e2] at h h0
      match r, h, h0, hb with
      | [], h, h0, hb => exact absurd (show (4 : Nat) > 1 by omega) (fun q => h0 (.inr q))
      | [b], h, h0, hb => exact absurd (show (4 : Nat) > 2 by omega) (fun q => h0 (.inr q))
      | [b, d], h, h0, hb => exact absurd (show (4 : Nat) > 3 by omega) (fun q => h0 (.inr q))
      | b :: d :: f :: r, h, h0, hb =>
        have hbb := hb.tail.head
        have hdd := hb.tail.tail.head
        have hff := hb.tail.tail.tail.head
        by_cases hc : 128 ≤ b ∧ b ≤ 191
        · rw [contU_step hc] at h
          by_cases hd : 128 ≤ d ∧ d ≤ 191
          · rw [contU_step hd] at h
            by_cases hf : 128 ≤ f ∧ f ≤ 191
            · rw [contU_step hf, contU_fin] at h
              obtain ⟨rfl, rfl, hr, hs⟩ := finU_some h hk
              have el : (((a - leadU 4) * 64 + b % 64) * 64 + d % 64) * 64 + f % 64 = (a - 240) * 262144 + (b - 128) * 4096 + (d - 128) * 64 + (f - 128) := by unfold leadU; rw [if_neg (by omega), if_neg (by omega), if_neg (by omega)]; omega
              rw [el] at hr hs ⊢
              generalize hv : (a - 240) * 262144 + (b - 128) * 4096 + (d - 128) * 64 + (f - 128) = v at hr hs ⊢
              have hlo : 65536 ≤ v := by
                rcases Int.lt_or_le v 65536 with q | q
                · rcases Int.lt_or_le v 2048 with q2 | q2
                  · rcases Int.lt_or_le v 128 with q1 | q1
                    · rw [size_1 q1] at hs; omega
                    · rw [size_2 q1 q2] at hs; omega
                  · rw [size_3 q2 q] at hs; omega
                · exact q
              have hp := putU_4 hr hlo
              rw [hp]
              exact ⟨hr, rfl, r, by show _ = _ :: _ :: _ :: _ :: r; congr 1; omega; congr 1; omega; congr 1; omega; congr 1; omega⟩
            · rw [contU_no hf] at h; exact z _ h
          · rw [contU_no hd] at h; exact z _ h
        · rw [contU_no hc] at h; exact z _ h
    · exact absurd (len_0 e) (fun q => h0 (.inl q))
theorem putU_bytes (c : Int) : Bytes (putU c) := by
  by_cases h : rightU c
  · obtain ⟨h0, h1, h2⟩ := id h
    rcases (show c < 128 ∨ (128 ≤ c ∧ c < 2048) ∨ (2048 ≤ c ∧ c < 65536) ∨ 65536 ≤ c by omega) with a | ⟨a, b⟩ | ⟨a, b⟩ | a
    · rw [putU_1 h a]; exact Bytes.cons (by omega) Bytes.nil
    · rw [putU_2 h a b]; exact Bytes.cons (by omega) (Bytes.cons (by omega) Bytes.nil)
    · rw [putU_3 h a b]; exact Bytes.cons (by omega) (Bytes.cons (by omega) (Bytes.cons (by omega) Bytes.nil))
    · rw [putU_4 h a]; exact Bytes.cons (by omega) (Bytes.cons (by omega) (Bytes.cons (by omega) (Bytes.cons (by omega) Bytes.nil)))
  · rw [putU_no h]; exact Bytes.nil
theorem putU_len {c : Int} (h : rightU c) : ((putU c).length : Int) = utfSize c := by
  obtain ⟨h0, h1, h2⟩ := id h
  rcases (show c < 128 ∨ (128 ≤ c ∧ c < 2048) ∨ (2048 ≤ c ∧ c < 65536) ∨ 65536 ≤ c by omega) with a | ⟨a, b⟩ | ⟨a, b⟩ | a
  · rw [putU_1 h a, size_1 a]; rfl
  · rw [putU_2 h a b, size_2 a b]; rfl
  · rw [putU_3 h a b, size_3 a b]; rfl
  · rw [putU_4 h a, size_4 a]; rfl
theorem putU_bd (c : Int) : (putU c).length ≤ 4 := by
  by_cases h : rightU c
  · have := putU_len h
    unfold utfSize at this
    split at this
    · omega
    · split at this
      · omega
      · split at this <;> omega
  · rw [putU_no h]; simp
theorem next_zero (l : List Int) (h : (nextU l).2 = 0) : nextU l = (0, 0) := by
  have key : ∀ (n : Nat) (m : Nat) (c : Int) (r : List Int), n ≠ 0 → (contU n c r m).2 = 0 → contU n c r m = (0, 0) := by
    intro n m
    induction m with
    | zero =>
      intro c r hn h
      rw [contU_fin] at h ⊢
      unfold finU at h ⊢
      by_cases hc : rightU c ∧ utfSize c = (n : Int)
      · rw [if_pos hc] at h; simp only at h; omega
      · rw [if_neg hc]
    | succ m ih =>
      intro c r hn h
      cases r with
      | nil => rw [contU]
      | cons b r =>
        by_cases hb : 128 ≤ b ∧ b ≤ 191
        · rw [contU_step hb] at h ⊢; exact ih _ _ hn h
        · rw [contU_no hb]
  cases l with
  | nil => rw [nextU]
  | cons a r =>
    rw [nextU] at h ⊢
    by_cases h0 : lenU a = 0 ∨ lenU a > (a :: r).length
    · rw [if_pos h0]
    · rw [if_neg h0] at h ⊢
      exact key _ _ _ _ (fun e => h0 (.inl e)) h
theorem put_next' (l : List Int) (hb : Bytes l) (h : (nextU l).2 ≠ 0) : rightU (nextU l).1 ∧ (nextU l).2 = ((putU (nextU l).1).length : Int) ∧ ∃ rest, l = putU (nextU l).1 ++ rest := put_next l (nextU l).1 (nextU l).2 hb rfl h
def leadR (a : Int) : Int := if a ≥ 240 then 240 else if a ≥ 224 then 224 else if a ≥ 192 then 192 else 0
/-- A text's characters, U+FFFD for each byte that begins none. -/
def charsU (l : List Int) : List Int := match l with
  | [] => []
  | a :: r => if (nextU (a :: r)).2 = 0 then 65533 :: charsU r else (nextU (a :: r)).1 :: charsU (r.drop ((nextU (a :: r)).2.toNat - 1))
  termination_by l.length
  decreasing_by all_goals (simp only [List.length_cons, List.length_drop]; omega)
/-- Is each of its bytes a part of a character? -/
def wellU (l : List Int) : Prop := match l with
  | [] => True
  | a :: r => (nextU (a :: r)).2 ≠ 0 ∧ wellU (r.drop ((nextU (a :: r)).2.toNat - 1))
  termination_by l.length
  decreasing_by all_goals (simp only [List.length_cons, List.length_drop]; omega)
def flatU (cs : List Int) : List Int := cs.flatMap putU
theorem chars_nil : charsU [] = [] := by rw [charsU]
theorem chars_bad {a : Int} {r : List Int} (h : (nextU (a :: r)).2 = 0) : charsU (a :: r) = 65533 :: charsU r := by rw [charsU, if_pos h]
theorem chars_good {a : Int} {r : List Int} (h : (nextU (a :: r)).2 ≠ 0) : charsU (a :: r) = (nextU (a :: r)).1 :: charsU (r.drop ((nextU (a :: r)).2.toNat - 1)) := by rw [charsU, if_neg h]
theorem well_nil : wellU [] := by rw [wellU]; trivial
theorem well_cons {a : Int} {r : List Int} : wellU (a :: r) ↔ (nextU (a :: r)).2 ≠ 0 ∧ wellU (r.drop ((nextU (a :: r)).2.toNat - 1)) := by rw [wellU]
theorem right_fffd : rightU 65533 := by decide
theorem next_pos {a : Int} {r : List Int} (hb : Bytes (a :: r)) (h : (nextU (a :: r)).2 ≠ 0) : 1 ≤ (nextU (a :: r)).2 ∧ (nextU (a :: r)).2 ≤ ((a :: r).length : Int) := by
  obtain ⟨h1, h2, rest, h3⟩ := put_next' (a :: r) hb h
  generalize (nextU (a :: r)).1 = c at h1 h2 h3
  have := congrArg List.length h3
  rw [List.length_append] at this
  omega
theorem drop_pos {a : Int} {r : List Int} {k : Int} (h : 1 ≤ k) : (a :: r).drop k.toNat = r.drop (k.toNat - 1) := by
  obtain ⟨n, hn⟩ : ∃ n, k.toNat = n + 1 := ⟨k.toNat - 1, by omega⟩
  rw [hn]; rfl
theorem good_split {a : Int} {r : List Int} (hb : Bytes (a :: r)) (h : (nextU (a :: r)).2 ≠ 0) : a :: r = putU (nextU (a :: r)).1 ++ r.drop ((nextU (a :: r)).2.toNat - 1) := by
  have hp := next_pos hb h
  obtain ⟨h1, h2, rest, h3⟩ := put_next' (a :: r) hb h
  rw [← drop_pos (a := a) hp.1]
  generalize (nextU (a :: r)).2 = k at h2 hp ⊢
  generalize (nextU (a :: r)).1 = c at h1 h2 h3 ⊢
  rw [h3]
  have : k.toNat = (putU c).length := by omega
  rw [this, List.drop_left]
theorem chars_right : ∀ (n : Nat) (l : List Int), l.length ≤ n → Bytes l → ∀ c ∈ charsU l, rightU c
  | n, [], hn, hb => by rw [chars_nil]; intro c hc; cases hc
  | 0, a :: r, hn, hb => by simp at hn
  | n + 1, a :: r, hn, hb => by
    by_cases h : (nextU (a :: r)).2 = 0
    · rw [chars_bad h]
      intro c hc
      rcases List.mem_cons.1 hc with rfl | hc
      · exact right_fffd
      · exact chars_right n r (by simp at hn; omega) hb.tail c hc
    · rw [chars_good h]
      intro c hc
      rcases List.mem_cons.1 hc with rfl | hc
      · exact (put_next' (a :: r) hb h).1
      · exact chars_right n _ (by simp at hn ⊢; omega) (hb.tail.drop _) c hc
theorem chars_len : ∀ (n : Nat) (l : List Int), l.length ≤ n → (charsU l).length ≤ l.length
  | n, [], hn => by rw [chars_nil]; simp
  | 0, a :: r, hn => by simp at hn
  | n + 1, a :: r, hn => by
    by_cases h : (nextU (a :: r)).2 = 0
    · rw [chars_bad h]
      have := chars_len n r (by simp at hn; omega)
      simp; omega
    · rw [chars_good h]
      have := chars_len n (r.drop ((nextU (a :: r)).2.toNat - 1)) (by simp at hn ⊢; omega)
      simp at this ⊢; omega
theorem putU_ne {c : Int} (h : rightU c) : ∃ a r, putU c = a :: r := by
  cases hp : putU c with
  | nil =>
    have := putU_len h
    rw [hp] at this
    unfold utfSize at this
    simp at this
    split at this
    · omega
    · split at this
      · omega
      · split at this <;> omega
  | cons a r => exact ⟨a, r, rfl⟩
/-- Characters that are put, one behind the other, are those characters. -/
theorem chars_flat : ∀ (cs : List Int), (∀ c ∈ cs, rightU c) → charsU (flatU cs) = cs ∧ wellU (flatU cs)
  | [], _ => ⟨chars_nil, well_nil⟩
  | c :: cs, h => by
    have hc := h c List.mem_cons_self
    obtain ⟨h1, h2⟩ := chars_flat cs (fun x hx => h x (List.mem_cons_of_mem _ hx))
    have hn := next_put hc (flatU cs)
    obtain ⟨a, r, hp⟩ := putU_ne hc
    have e : flatU (c :: cs) = a :: (r ++ flatU cs) := by show putU c ++ flatU cs = _; rw [hp]; rfl
    rw [hp] at hn
    have hn' : nextU (a :: (r ++ flatU cs)) = (c, ((a :: r).length : Int)) := hn
    have hd : (r ++ flatU cs).drop (((a :: r).length : Int).toNat - 1) = flatU cs := by
      rw [Int.toNat_natCast, List.length_cons, Nat.add_sub_cancel, List.drop_left]
    rw [e]
    have hne : (nextU (a :: (r ++ flatU cs))).2 ≠ 0 := by rw [hn']; simp; omega
    constructor
    · rw [chars_good hne, hn']
      simp only
      rw [hd, h1]
    · rw [well_cons, hn']
      simp only
      rw [hd]
      exact ⟨by simp; omega, h2⟩
theorem flat_of_well : ∀ (n : Nat) (l : List Int), l.length ≤ n → Bytes l → wellU l → flatU (charsU l) = l
  | n, [], hn, hb, hw => by rw [chars_nil]; rfl
  | 0, a :: r, hn, hb, hw => by simp at hn
  | n + 1, a :: r, hn, hb, hw => by
    obtain ⟨h, h2⟩ := well_cons.1 hw
    rw [chars_good h]
    show putU _ ++ flatU _ = _
    rw [flat_of_well n _ (by simp at hn ⊢; omega) (hb.tail.drop _) h2]
    exact (good_split hb h).symm
theorem well_iff {l : List Int} (hb : Bytes l) : wellU l ↔ flatU (charsU l) = l := by
  constructor
  · exact flat_of_well l.length l (Nat.le_refl _) hb
  · intro h
    have := (chars_flat (charsU l) (chars_right l.length l (Nat.le_refl _) hb)).2
    rwa [h] at this
theorem flatU_bytes (cs : List Int) : Bytes (flatU cs) := by
  intro x hx
  obtain ⟨c, _, hc⟩ := List.mem_flatMap.1 hx
  exact putU_bytes c x hc
theorem flatU_len (cs : List Int) : (flatU cs).length ≤ 4 * cs.length := by
  induction cs with
  | nil => simp [flatU]
  | cons c cs ih =>
    show (putU c ++ flatU cs).length ≤ _
    have := putU_bd c
    simp
    omega
/-- How many characters; below nought: it isn't right. -/
noncomputable def countU (n : Int) (l : List Int) : Int := open Classical in if wellU l then n + (charsU l).length else -1
theorem count_nil (n : Int) : countU n [] = n := by unfold countU; rw [if_pos well_nil, chars_nil]; simp
theorem count_bad {n : Int} {a : Int} {r : List Int} (h : (nextU (a :: r)).2 = 0) : countU n (a :: r) = -1 := by unfold countU; rw [if_neg (fun e => (well_cons.1 e).1 h)]
theorem count_good {n : Int} {a : Int} {r : List Int} (h : (nextU (a :: r)).2 ≠ 0) : countU n (a :: r) = countU (n + 1) (r.drop ((nextU (a :: r)).2.toNat - 1)) := by
  unfold countU
  by_cases hw : wellU (r.drop ((nextU (a :: r)).2.toNat - 1))
  · rw [if_pos hw, if_pos (well_cons.2 ⟨h, hw⟩), chars_good h]
    simp
    omega
  · rw [if_neg hw, if_neg (fun e => hw (well_cons.1 e).2)]
theorem count_ge {l : List Int} : countU 0 l ≥ 0 ↔ wellU l := by
  unfold countU
  by_cases h : wellU l
  · rw [if_pos h]; exact ⟨fun _ => h, fun _ => by omega⟩
  · rw [if_neg h]; exact ⟨fun e => by omega, fun e => absurd e h⟩
end Go.Proofs.YtdfghdppbfabfaaDoorX

/- Characters: what utf.Next, Count and Right answer, and the reference's Put, Next and Count. -/
set_option linter.unusedVariables false
set_option linter.unusedSimpArgs false
namespace Go.Proofs.YtdfghdppbfabfaaDoorX
open Go

def bt (s : List UInt8) (i : Nat) : Int := ((s.getD i 0).toNat : Int)
def ints (s : List UInt8) : List Int := s.map ofB
theorem ints_len (s : List UInt8) : (ints s).length = s.length := by simp [ints]
theorem ints_bytes (s : List UInt8) : Bytes (ints s) := by
  intro x hx
  unfold ints at hx
  obtain ⟨c, _, rfl⟩ := List.mem_map.1 hx
  exact u8_lt c
theorem ints_drop (s : List UInt8) (i : Nat) : ints (s.drop i) = (ints s).drop i := by simp [ints, List.map_drop]
theorem ints_take (s : List UInt8) (i : Nat) : ints (s.take i) = (ints s).take i := by simp [ints, List.map_take]
theorem bt_bd (s : List UInt8) (i : Nat) : 0 ≤ bt s i ∧ bt s i ≤ 255 := u8_lt _
theorem ints_get (s : List UInt8) (i : Nat) : (ints s).getD i 0 = bt s i := by
  unfold ints bt
  rw [List.getD_eq_getElem?_getD, List.getElem?_map, List.getD_eq_getElem?_getD]
  cases s[i]? <;> rfl
theorem drop_bt (s : List UInt8) (i : Nat) (h : i < s.length) : (ints s).drop i = bt s i :: (ints s).drop (i + 1) := by
  rw [drop_cons (ints s) i 0 (by rw [ints_len]; exact h), ints_get]
theorem right_eq (n : Nat) (c : Int) : F67 n c = some (decide (rightU c)) := by
  rw [F67]
  by_cases h0 : 0 ≤ c
  · rw [decide_eq_true h0, iteB_t]
    by_cases h1 : c ≤ 1114111
    · rw [decide_eq_true h1, iteB_t]
      by_cases h2 : c < 55296
      · rw [decide_eq_true h2, iteB_t, decide_eq_true (show rightU c from ⟨h0, h1, .inl h2⟩)]
      · rw [decide_eq_false h2, iteB_f]
        congr 1
        rw [decide_eq_decide]; unfold rightU; omega
    · rw [decide_eq_false h1, iteB_f, decide_eq_false (fun e : rightU c => h1 e.2.1)]
  · rw [decide_eq_false h0, iteB_f, decide_eq_false (fun e : rightU c => h0 e.1)]
theorem size_eq (n : Nat) (c : Int) : F68 n c = some (utfSize c) := by
  rw [F68]
  rcases (show c < 128 ∨ (128 ≤ c ∧ c < 2048) ∨ (2048 ≤ c ∧ c < 65536) ∨ 65536 ≤ c by omega) with a | ⟨a, b⟩ | ⟨a, b⟩ | a
  · rw [size_1 a, decide_eq_false (by omega), iteB_f, F68_J1, decide_eq_false (by omega), iteB_f, F68_J2, decide_eq_false (by omega), iteB_f]; rfl
  · rw [size_2 a b, decide_eq_true (by omega), iteB_t, F68_J1, decide_eq_false (by omega), iteB_f, F68_J2, decide_eq_false (by omega), iteB_f]; rfl
  · rw [size_3 a b, decide_eq_true (by omega), iteB_t, F68_J1, decide_eq_true (by omega), iteB_t, F68_J2, decide_eq_false (by omega), iteB_f]; rfl
  · rw [size_4 a, decide_eq_true (by omega), iteB_t, F68_J1, decide_eq_true (by omega), iteB_t, F68_J2, decide_eq_true (by omega), iteB_t]; rfl
theorem length_eq (n : Nat) (a : Int) : F64 n a = some (lenU a : Int) := by
  rw [F64]
  unfold lenU
  by_cases h1 : a < 128
  · rw [decide_eq_true h1, if_pos h1]; rfl
  · rw [decide_eq_false h1, if_neg h1, iteB_f]
    by_cases h2 : a < 192
    · rw [decide_eq_true h2, if_pos h2]; rfl
    · rw [decide_eq_false h2, if_neg h2, iteB_f]
      by_cases h3 : a < 224
      · rw [decide_eq_true h3, if_pos h3]; rfl
      · rw [decide_eq_false h3, if_neg h3, iteB_f]
        by_cases h4 : a < 240
        · rw [decide_eq_true h4, if_pos h4]; rfl
        · rw [decide_eq_false h4, if_neg h4, iteB_f]
          by_cases h5 : a < 248
          · rw [decide_eq_true h5, if_pos h5]; rfl
          · rw [decide_eq_false h5, if_neg h5, iteB_f]; rfl
theorem lead_eq (k n : Nat) (h0 : 1 ≤ n) (h1 : n ≤ 4) : F66 k (n : Int) = some (leadU n) := by
  rw [F66]
  rcases (show n = 1 ∨ n = 2 ∨ n = 3 ∨ n = 4 by omega) with rfl | rfl | rfl | rfl <;> decide +kernel
theorem off_fin : ∀ a : Fin 256, lenU (a.val : Int) ≠ 0 → IntKind.wrap .i32 (bAndNot .i32 (a.val : Int) (leadU (lenU (a.val : Int)))) = (a.val : Int) - leadU (lenU (a.val : Int)) := by decide +kernel
theorem lead_off {a : Int} (h0 : 0 ≤ a) (h1 : a ≤ 255) (h : lenU a ≠ 0) : IntKind.wrap .i32 (bAndNot .i32 a (leadU (lenU a))) = a - leadU (lenU a) := by
  obtain ⟨m, rfl⟩ := Int.eq_ofNat_of_zero_le h0
  exact off_fin ⟨m, by omega⟩ h
theorem goes_fin : ∀ b : Fin 256, (IntKind.wrap .u8 (bAndNot .u8 (b.val : Int) 63) == (128 : Int)) = decide (128 ≤ (b.val : Int) ∧ (b.val : Int) ≤ 191) := by decide +kernel
theorem goes_eq (k : Nat) {b : Int} (h0 : 0 ≤ b) (h1 : b ≤ 255) : F65 k b = some (decide (128 ≤ b ∧ b ≤ 191)) := by
  obtain ⟨m, rfl⟩ := Int.eq_ofNat_of_zero_le h0
  rw [F65]
  exact congrArg some (goes_fin ⟨m, by omega⟩)
theorem acc_step {c b : Int} {m : Nat} (h0 : 0 ≤ c) (hb : 0 ≤ b) (hc : c * 64 ^ (m + 1) + 64 ^ (m + 1) ≤ 2097152) : c * 64 + 64 ≤ 2097152 ∧ (c * 64 + b % 64) * 64 ^ m + 64 ^ m ≤ 2097152 := by
  have hp : (0 : Int) < 64 ^ m := Int.pow_pos (by omega)
  have hpe : (64 : Int) ^ (m + 1) = 64 ^ m * 64 := Int.pow_succ ..
  rw [hpe] at hc
  generalize (64 : Int) ^ m = P at hc hp
  clear hpe
  have e1 : c * (P * 64) = c * 64 * P := by rw [Int.mul_comm P 64, Int.mul_assoc]
  rw [e1] at hc
  have h1 : (c * 64 + 64) * 1 ≤ (c * 64 + 64) * P := Int.mul_le_mul_of_nonneg_left (by omega) (by omega)
  have h2 : (c * 64 + 64) * P = c * 64 * P + 64 * P := Int.add_mul ..
  have e5 : (c * 64 + b % 64) * P ≤ (c * 64 + 63) * P := Int.mul_le_mul_of_nonneg_right (by omega) (by omega)
  have e6 : (c * 64 + 63) * P = c * 64 * P + 63 * P := Int.add_mul ..
  rw [h2] at h1
  rw [e6] at e5
  generalize c * 64 * P = X at *
  generalize (c * 64 + b % 64) * P = Y at *
  exact ⟨by omega, by omega⟩
theorem acc_eq {c b : Int} (h0 : 0 ≤ c) (hb : 0 ≤ b) (hb1 : b ≤ 255) (hc : c * 64 + 64 ≤ 2097152) : IntKind.wrap .i32 (bOr .i32 (IntKind.wrap .i32 (bShl .i32 c 6)) (IntKind.wrap .i32 (IntKind.wrap .u8 (bAnd .u8 b (63 : Int))))) = c * 64 + b % 64 := by
  have e1 : bAnd .u8 b 63 = b % 64 := bAnd_low .u8 6 b hb (by show b < 256; omega) (by decide) 63 (by decide)
  have e2 : bShl .i32 c 6 = c * 64 := by
    unfold bShl
    rw [show (2 : Int) ^ min 6 (IntKind.bits .i32) = 64 by decide]
  rw [e1, e2, wu8 (by omega), w32 (n := b % 64) (by omega), w32 (n := c * 64) (by omega)]
  rw [bOr_add .i32 6 (c * 64) (b % 64) (by omega) (by show c * 64 < 4294967296; omega) (by show c * 64 % 64 = 0; omega) (by omega) (by show b % 64 < 64; omega) (by decide), w32 (by omega)]

/-! ### Next -/
theorem ev_Next_loop (s : List UInt8) (n : Nat) (hn : n ≤ 4) (hns : n ≤ s.length) : ∀ (m i : Nat) (c : Int), i + m = n → 0 ≤ c → c * 64 ^ m + 64 ^ m ≤ 2097152 →
    Ev (fun k => F60_L1 k s (n : Int) c (i : Int)) (contU n c ((ints s).drop i) m) := by
  intro m
  induction m with
  | zero =>
    intro i c hi h0 hc
    rw [contU_fin]
    unfold finU
    by_cases hr : rightU c
    · by_cases hz : utfSize c = (n : Int)
      · rw [if_pos (show rightU c ∧ utfSize c = (n : Int) from ⟨hr, hz⟩)]
        refine Ev.step (Ev.pure.congr fun k => ?_)
        rw [F60_L1, decide_eq_false (by omega), iteB_f, right_eq, bind_some', decide_eq_true hr]
        show iteB false _ _ = _
        rw [iteB_f, size_eq, bind_some', show (utfSize c != (n : Int)) = false by rw [hz]; simp, iteB_f]
      · rw [if_neg (show ¬ (rightU c ∧ utfSize c = (n : Int)) from fun e => hz e.2)]
        refine Ev.step (Ev.pure.congr fun k => ?_)
        rw [F60_L1, decide_eq_false (by omega), iteB_f, right_eq, bind_some', decide_eq_true hr]
        show iteB false _ _ = _
        rw [iteB_f, size_eq, bind_some', show (utfSize c != (n : Int)) = true by rw [bne_iff_ne]; exact hz, iteB_t]
    · rw [if_neg (show ¬ (rightU c ∧ utfSize c = (n : Int)) from fun e => hr e.1)]
      refine Ev.step (Ev.pure.congr fun k => ?_)
      rw [F60_L1, decide_eq_false (by omega), iteB_f, right_eq, bind_some', decide_eq_false hr]
      rfl
  | succ m ih =>
    intro i c hi h0 hc
    rw [drop_bt s i (by omega)]
    have hb := bt_bd s i
    have hbe : ((s.getD i 0).toNat : Int) = bt s i := rfl
    have hw : IntKind.wrap .i64 ((i : Int) + 1) = ((i + 1 : Nat) : Int) := by rw [w64 (by omega)]; omega
    have hg := fun k => goes_eq k hb.1 hb.2
    generalize bt s i = b at *
    by_cases hcn : 128 ≤ b ∧ b ≤ 191
    · obtain ⟨k1, k2⟩ := acc_step h0 hb.1 hc
      rw [contU_step hcn]
      refine Ev.step ((ih (i + 1) (c * 64 + b % 64) (by omega) (by omega) k2).congr fun k => ?_)
      rw [F60_L1, decide_eq_true (by omega), iteB_t, grd_t _ (by omega), toNat_nat, hbe, hg, bind_some', decide_eq_true hcn]
      show iteB false _ _ = _
      rw [iteB_f, grd_t _ (by omega), acc_eq h0 hb.1 hb.2 k1, hw]
    · rw [contU_no hcn]
      refine Ev.step (Ev.pure.congr fun k => ?_)
      rw [F60_L1, decide_eq_true (by omega), iteB_t, grd_t _ (by omega), toNat_nat, hbe, hg, bind_some', decide_eq_false hcn]
      rfl
theorem lenU_le (a : Int) : lenU a ≤ 4 := by
  unfold lenU
  repeat' split
  all_goals omega
theorem ev_Next (s : List UInt8) : Ev (fun k => F60 k s) (nextU (ints s)) := by
  by_cases h0 : s.length = 0
  · obtain rfl := List.eq_nil_of_length_eq_zero h0
    refine Ev.pure.congr fun k => ?_
    rw [F60]; rfl
  · have hd := drop_bt s 0 (by omega)
    rw [List.drop_zero] at hd
    have hb := bt_bd s 0
    have hbe : ((s.getD 0 0).toNat : Int) = bt s 0 := rfl
    have hne : (s == []) = false := by rw [beq_eq_false_iff_ne]; rintro rfl; exact h0 rfl
    have z0 : ((0 : Int)).toNat = 0 := rfl
    rw [hd]
    have hlen : (bt s 0 :: (ints s).drop 1).length = s.length := by simp [ints_len]; omega
    show Ev _ (nextU (bt s 0 :: (ints s).drop 1))
    rw [nextU, hlen]
    have h4 := lenU_le (bt s 0)
    generalize hB : bt s 0 = b at *
    by_cases hz : lenU b = 0
    · rw [if_pos (.inl hz)]
      refine Ev.pure.congr fun k => ?_
      rw [F60, hne, iteB_f, grd_t _ (by omega), z0, hbe, length_eq, bind_some', hz]; rfl
    · by_cases hg : lenU b > s.length
      · rw [if_pos (.inr hg)]
        refine Ev.pure.congr fun k => ?_
        rw [F60, hne, iteB_f, grd_t _ (by omega), z0, hbe, length_eq, bind_some', show (((lenU b : Nat) : Int) == 0) = false by rw [beq_eq_false_iff_ne]; omega, iteB_f, decide_eq_true (by omega), iteB_t]
      · rw [if_neg (by omega)]
        have hlead : 0 ≤ b - leadU (lenU b) ∧ (b - leadU (lenU b)) * 64 ^ (lenU b - 1) + 64 ^ (lenU b - 1) ≤ 2097152 := by
          rcases (show b < 128 ∨ (192 ≤ b ∧ b < 224) ∨ (224 ≤ b ∧ b < 240) ∨ (240 ≤ b ∧ b < 248) ∨ ((128 ≤ b ∧ b < 192) ∨ 248 ≤ b) by omega) with e | ⟨e1, e2⟩ | ⟨e1, e2⟩ | ⟨e1, e2⟩ | e
          · rw [len_1 e, show leadU 1 = 0 from rfl]; simp; omega
          · rw [len_2 e1 e2, show leadU 2 = 192 from rfl]; simp; omega
          · rw [len_3 e1 e2, show leadU 3 = 224 from rfl]; simp; omega
          · rw [len_4 e1 e2, show leadU 4 = 240 from rfl]; simp; omega
          · exact absurd (len_0 e) hz
        have e := ev_Next_loop s (lenU b) h4 (by omega) (lenU b - 1) 1 (b - leadU (lenU b)) (by omega) hlead.1 hlead.2
        refine e.congr fun k => ?_
        rw [F60, hne, iteB_f, grd_t _ (by omega), z0, hbe, length_eq, bind_some', show (((lenU b : Nat) : Int) == 0) = false by rw [beq_eq_false_iff_ne]; omega, iteB_f, decide_eq_false (by omega), iteB_f, grd_t _ (by omega), lead_eq k (lenU b) (by omega) (by omega), bind_some', w32 (n := b) (by omega), lead_off hb.1 hb.2 hz]
        rfl

/-! ### The reference's Put and Next -/
theorem rPut_eq (n : Nat) (c : Int) (hc0 : -2147483648 ≤ c) (hc1 : c ≤ 2147483647) : F52 n [] c = some (putU c) := by
  have hw : IntKind.wrap .i64 c = c := w64 (by omega)
  have l0 : ([] : List Int).length = 0 := rfl
  rw [F52, hw, l0, grd_t _ (by omega)]
  by_cases h0 : c < 0
  · rw [decide_eq_true h0, iteB_t, putU_no (fun e => by have := e.1; omega)]
  · rw [decide_eq_false h0, iteB_f]
    by_cases h1 : 1114111 < c
    · rw [decide_eq_true h1, iteB_t, putU_no (fun e => by have := e.2.1; omega)]
    · rw [decide_eq_false h1, iteB_f]
      have d64 : IntKind.wrap .i64 (Int.tdiv c 64) = c / 64 := by rw [Int.tdiv_eq_ediv_of_nonneg (by omega), w64 (by omega)]
      have d4 : IntKind.wrap .i64 (Int.tdiv c 4096) = c / 4096 := by rw [Int.tdiv_eq_ediv_of_nonneg (by omega), w64 (by omega)]
      have d2 : IntKind.wrap .i64 (Int.tdiv c 262144) = c / 262144 := by rw [Int.tdiv_eq_ediv_of_nonneg (by omega), w64 (by omega)]
      have m64 : Int.tmod c 64 = c % 64 := Int.tmod_eq_emod_of_nonneg (by omega)
      have m1 : Int.tmod (c / 64) 64 = c / 64 % 64 := Int.tmod_eq_emod_of_nonneg (by omega)
      have m2 : Int.tmod (c / 4096) 64 = c / 4096 % 64 := Int.tmod_eq_emod_of_nonneg (by omega)
      by_cases hs : 55296 ≤ c ∧ c ≤ 57343
      · rw [decide_eq_true hs.1, iteB_t, decide_eq_true hs.2, iteB_t, putU_no (fun e => by have := e.2.2; omega)]
      · have hr : rightU c := ⟨by omega, by omega, by omega⟩
        rcases (show c < 128 ∨ (128 ≤ c ∧ c < 2048) ∨ (2048 ≤ c ∧ c < 65536) ∨ 65536 ≤ c by omega) with a | ⟨a, b⟩ | ⟨a, b⟩ | a
        · rw [putU_1 hr a, decide_eq_false (by omega), iteB_f, decide_eq_true a, iteB_t, grd_t _ (by omega), wu8 (by omega), List.nil_append]
        · rw [putU_2 hr a b, decide_eq_false (by omega), iteB_f, decide_eq_false (by omega), iteB_f, decide_eq_true b, iteB_t, grd_t _ (by omega), d64, m64, w64 (n := 192 + c / 64) (by omega), w64 (n := 128 + c % 64) (by omega), wu8 (n := 192 + c / 64) (by omega), wu8 (n := 128 + c % 64) (by omega), List.nil_append]
        · have tail : grd (0 + 3 ≤ 549755813888) (some (([] : List Int) ++ [IntKind.wrap .u8 (IntKind.wrap .i64 (224 + c / 4096)), IntKind.wrap .u8 (IntKind.wrap .i64 (128 + c / 64 % 64)), IntKind.wrap .u8 (IntKind.wrap .i64 (128 + c % 64))])) = some [224 + c / 4096, 128 + c / 64 % 64, 128 + c % 64] := by
            rw [grd_t _ (by omega), w64 (n := 224 + c / 4096) (by omega), w64 (n := 128 + c / 64 % 64) (by omega), w64 (n := 128 + c % 64) (by omega), wu8 (n := 224 + c / 4096) (by omega), wu8 (n := 128 + c / 64 % 64) (by omega), wu8 (n := 128 + c % 64) (by omega), List.nil_append]
          rw [putU_3 hr a b]
          by_cases h2 : 55296 ≤ c
          · rw [decide_eq_true h2, iteB_t, decide_eq_false (by omega), iteB_f, decide_eq_false (by omega), iteB_f, decide_eq_false (by omega), iteB_f, decide_eq_true b, iteB_t, d4, d64, m1, m64, tail]
          · rw [decide_eq_false h2, iteB_f, decide_eq_false (by omega), iteB_f, decide_eq_false (by omega), iteB_f, decide_eq_true b, iteB_t, d4, d64, m1, m64, tail]
        · rw [putU_4 hr a, decide_eq_true (by omega), iteB_t, decide_eq_false (by omega), iteB_f, decide_eq_false (by omega), iteB_f, decide_eq_false (by omega), iteB_f, decide_eq_false (by omega), iteB_f, grd_t _ (by omega), d2, d4, d64, m2, m1, m64, w64 (n := 240 + c / 262144) (by omega), w64 (n := 128 + c / 4096 % 64) (by omega), w64 (n := 128 + c / 64 % 64) (by omega), w64 (n := 128 + c % 64) (by omega), wu8 (n := 240 + c / 262144) (by omega), wu8 (n := 128 + c / 4096 % 64) (by omega), wu8 (n := 128 + c / 64 % 64) (by omega), wu8 (n := 128 + c % 64) (by omega), List.nil_append]
end Go.Proofs.YtdfghdppbfabfaaDoorX

/- Characters: the reference's Next, and Count and Right of both. -/
set_option linter.unusedVariables false
set_option linter.unusedSimpArgs false
namespace Go.Proofs.YtdfghdppbfabfaaDoorX
open Go

/-- What the first j bytes tell, if they are a character's. -/
def vR (s : List UInt8) : Nat → Int
  | 0 => 0
  | 1 => bt s 0 - leadR (bt s 0)
  | j + 2 => vR s (j + 1) * 64 + (bt s (j + 1) + 128) % 256
theorem vR_bd (s : List UInt8) : (0 ≤ vR s 1 ∧ vR s 1 ≤ 255) ∧ (0 ≤ vR s 2 ∧ vR s 2 ≤ 16575) ∧ (0 ≤ vR s 3 ∧ vR s 3 ≤ 1061055) ∧ (0 ≤ vR s 4 ∧ vR s 4 ≤ 67907775) := by
  have h1 : 0 ≤ vR s 1 ∧ vR s 1 ≤ 255 := by
    have := bt_bd s 0
    show 0 ≤ bt s 0 - leadR (bt s 0) ∧ bt s 0 - leadR (bt s 0) ≤ 255
    unfold leadR
    split
    · omega
    · split
      · omega
      · split <;> omega
  have h2 : 0 ≤ vR s 2 ∧ vR s 2 ≤ 16575 := by
    show 0 ≤ vR s 1 * 64 + (bt s 1 + 128) % 256 ∧ vR s 1 * 64 + (bt s 1 + 128) % 256 ≤ 16575
    omega
  have h3 : 0 ≤ vR s 3 ∧ vR s 3 ≤ 1061055 := by
    show 0 ≤ vR s 2 * 64 + (bt s 2 + 128) % 256 ∧ vR s 2 * 64 + (bt s 2 + 128) % 256 ≤ 1061055
    omega
  have h4 : 0 ≤ vR s 4 ∧ vR s 4 ≤ 67907775 := by
    show 0 ≤ vR s 3 * 64 + (bt s 3 + 128) % 256 ∧ vR s 3 * 64 + (bt s 3 + 128) % 256 ≤ 67907775
    omega
  exact ⟨h1, h2, h3, h4⟩
theorem vR_bds (s : List UInt8) (j : Nat) (h : j ≤ 4) : 0 ≤ vR s j ∧ vR s j ≤ 67907775 := by
  obtain ⟨h1, h2, h3, h4⟩ := vR_bd s
  rcases (show j = 0 ∨ j = 1 ∨ j = 2 ∨ j = 3 ∨ j = 4 by omega) with rfl | rfl | rfl | rfl | rfl
  · exact ⟨Int.le_refl _, by show (0 : Int) ≤ _; omega⟩
  · omega
  · omega
  · omega
  · omega
theorem ofB_toB {x : Int} (h : 0 ≤ x ∧ x ≤ 255) : ofB (toB x) = x := by
  unfold ofB toB
  rw [UInt8.toNat_ofNat']
  omega
theorem map_toB_eq {l : List Int} (hl : Bytes l) (t : List UInt8) : (l.map toB == t) = decide (l = ints t) := by
  rw [Bool.eq_iff_iff, beq_iff_eq, decide_eq_true_eq]
  constructor
  · rintro rfl
    unfold ints
    rw [List.map_map]
    conv => lhs; rw [← List.map_id l]
    exact List.map_congr_left fun x hx => (ofB_toB (hl x hx)).symm
  · rintro rfl
    unfold ints
    rw [List.map_map]
    conv => rhs; rw [← List.map_id t]
    refine List.map_congr_left fun x _ => ?_
    show UInt8.ofNat ((x.toNat : Int)).toNat = x
    rw [toNat_nat]; simp
theorem rNext_test (s : List UInt8) (hs : s.length ≤ 1000000000) (j : Nat) (hj0 : 1 ≤ j) (hj : j ≤ 4) (hjs : j ≤ s.length) (r : Int × Int)
    (yes : putU (vR s j) = (ints s).take j → r = (vR s j, (j : Int))) (no : ¬ putU (vR s j) = (ints s).take j → Ev (fun k => F42_L1 k s (vR s j) ((j + 1 : Nat) : Int)) r) :
    Ev (fun k => F42_J2 k s (j : Int) (vR s j)) r := by
  have hb := vR_bds s j hj
  have hw : IntKind.wrap .i32 (vR s j) = vR s j := w32 (by omega)
  have hwj : IntKind.wrap .i64 ((j : Int) + 1) = ((j + 1 : Nat) : Int) := by rw [w64 (by omega)]; omega
  by_cases hm : vR s j ≤ 1114111
  · have eb : ((putU (vR s j)).map toB == s.take j) = decide (putU (vR s j) = (ints s).take j) := by rw [map_toB_eq (putU_bytes _), ints_take]
    by_cases he : putU (vR s j) = (ints s).take j
    · rw [yes he]
      refine Ev.pure.congr fun k => ?_
      rw [F42_J2, decide_eq_true hm, iteB_t, hw, rPut_eq _ _ (by omega) (by omega), bind_some', grd_t _ (by omega), toNat_nat, eb, decide_eq_true he, iteB_t]
    · refine (no he).congr fun k => ?_
      rw [F42_J2, decide_eq_true hm, iteB_t, hw, rPut_eq _ _ (by omega) (by omega), bind_some', grd_t _ (by omega), toNat_nat, eb, decide_eq_false he, iteB_f, hwj]
  · have he : ¬ putU (vR s j) = (ints s).take j := fun e => by
      have : ¬ rightU (vR s j) := fun q => by have := q.2.1; omega
      rw [putU_no this] at e
      have hl : ((ints s).take j).length = j := by rw [List.length_take, ints_len]; omega
      rw [← e] at hl
      simp at hl
      omega
    refine (no he).congr fun k => ?_
    rw [F42_J2, decide_eq_false hm, iteB_f, hwj]
theorem rNext_round (s : List UInt8) (hs : s.length ≤ 1000000000) (j : Nat) (hj0 : 1 ≤ j) (hj : j ≤ 4) (hjs : j ≤ s.length) (r : Int × Int)
    (h : Ev (fun k => F42_J2 k s (j : Int) (vR s j)) r) : Ev (fun k => F42_L1 k s (vR s (j - 1)) (j : Int)) r := by
  obtain ⟨i, rfl⟩ : ∃ i, j = i + 1 := ⟨j - 1, by omega⟩
  have hw : IntKind.wrap .i64 (((i + 1 : Nat) : Int) - 1) = (i : Int) := by rw [w64 (by omega)]; omega
  have hb := bt_bd s i
  have hbe : ((s.getD i 0).toNat : Int) = bt s i := rfl
  have head : ∀ k, F42_L1 (k + 1) s (vR s (i + 1 - 1)) ((i + 1 : Nat) : Int) = iteB (((i + 1 : Nat) : Int) == (1 : Int)) (iteB (decide ((240 : Int) ≤ bt s i)) (F42_J2 k s ((i + 1 : Nat) : Int) (IntKind.wrap .i64 (bt s i - 240))) (iteB (decide ((224 : Int) ≤ bt s i)) (F42_J2 k s ((i + 1 : Nat) : Int) (IntKind.wrap .i64 (bt s i - 224))) (iteB (decide ((192 : Int) ≤ bt s i)) (F42_J2 k s ((i + 1 : Nat) : Int) (IntKind.wrap .i64 (bt s i - 192))) (F42_J2 k s ((i + 1 : Nat) : Int) (bt s i))))) (F42_J2 k s ((i + 1 : Nat) : Int) (IntKind.wrap .i64 (IntKind.wrap .i64 (vR s (i + 1 - 1) * 64) + (IntKind.wrap .i64 (bt s i + 128)).tmod 256))) := by
    intro k
    rw [F42_L1, decide_eq_true (by omega), iteB_t, decide_eq_true (by omega), iteB_t, hw, grd_t _ (by omega), toNat_nat, hbe, w64 (n := bt s i) (by omega)]
  refine Ev.step ?_
  cases i with
  | zero =>
    have hv : vR s 1 = bt s 0 - leadR (bt s 0) := rfl
    have h2 : Ev (fun k => F42_J2 k s ((0 + 1 : Nat) : Int) (bt s 0 - leadR (bt s 0))) r := by rw [← hv]; exact h
    have one : (((0 + 1 : Nat) : Int) == (1 : Int)) = true := rfl
    generalize bt s 0 = a at hb h2 head
    unfold leadR at h2
    by_cases h240 : a ≥ 240
    · rw [if_pos h240] at h2
      exact h2.congr fun k => by rw [head, one, iteB_t, decide_eq_true (by omega), iteB_t, w64 (n := a - 240) (by omega)]
    · rw [if_neg h240] at h2
      by_cases h224 : a ≥ 224
      · rw [if_pos h224] at h2
        exact h2.congr fun k => by rw [head, one, iteB_t, decide_eq_false (by omega), iteB_f, decide_eq_true (by omega), iteB_t, w64 (n := a - 224) (by omega)]
      · rw [if_neg h224] at h2
        by_cases h192 : a ≥ 192
        · rw [if_pos h192] at h2
          exact h2.congr fun k => by rw [head, one, iteB_t, decide_eq_false (by omega), iteB_f, decide_eq_false (by omega), iteB_f, decide_eq_true (by omega), iteB_t, w64 (n := a - 192) (by omega)]
        · rw [if_neg h192, Int.sub_zero] at h2
          exact h2.congr fun k => by rw [head, one, iteB_t, decide_eq_false (by omega), iteB_f, decide_eq_false (by omega), iteB_f, decide_eq_false (by omega), iteB_f]
  | succ i =>
    have hv := vR_bds s (i + 1) (by omega)
    have hm : Int.tmod (IntKind.wrap .i64 (bt s (i + 1) + 128)) 256 = (bt s (i + 1) + 128) % 256 := by rw [w64 (by omega), Int.tmod_eq_emod_of_nonneg (by omega)]
    refine h.congr fun k => ?_
    rw [head, show (((i + 1 + 1 : Nat) : Int) == (1 : Int)) = false by rw [beq_eq_false_iff_ne]; omega, iteB_f, hm, show i + 1 + 1 - 1 = i + 1 from rfl, w64 (n := vR s (i + 1) * 64) (by omega), w64 (by omega)]
    rfl
theorem rNext_end (s : List UInt8) (n : Int) (j : Nat) (h : j = 5 ∨ j > s.length) : Ev (fun k => F42_L1 k s n (j : Int)) (0, 0) := by
  refine Ev.step (Ev.pure.congr fun k => ?_)
  rw [F42_L1]
  by_cases h4 : (j : Int) ≤ 4
  · rw [decide_eq_true h4, iteB_t, decide_eq_false (by omega), iteB_f]
  · rw [decide_eq_false h4, iteB_f]
theorem vR_char (s : List UInt8) (c : Int) (rest : List Int) (h : rightU c) (hs : ints s = putU c ++ rest) : vR s (putU c).length = c := by
  have hb : ∀ i : Nat, bt s i = (putU c ++ rest).getD i 0 := fun i => by rw [← ints_get, hs]
  obtain ⟨h0, h1, h2⟩ := id h
  have b0 := hb 0
  have b1 := hb 1
  have b2 := hb 2
  have b3 := hb 3
  rcases (show c < 128 ∨ (128 ≤ c ∧ c < 2048) ∨ (2048 ≤ c ∧ c < 65536) ∨ 65536 ≤ c by omega) with a | ⟨a, b⟩ | ⟨a, b⟩ | a
  · rw [putU_1 h a] at b0 ⊢
    have e0 : bt s 0 = c := b0
    show bt s 0 - leadR (bt s 0) = c
    rw [e0]; unfold leadR
    rw [if_neg (by omega), if_neg (by omega), if_neg (by omega)]; omega
  · rw [putU_2 h a b] at b0 b1 ⊢
    have e0 : bt s 0 = 192 + c / 64 := b0
    have e1 : bt s 1 = 128 + c % 64 := b1
    show (bt s 0 - leadR (bt s 0)) * 64 + (bt s 1 + 128) % 256 = c
    rw [e0, e1]; unfold leadR
    rw [if_neg (by omega), if_neg (by omega), if_pos (by omega)]; omega
  · rw [putU_3 h a b] at b0 b1 b2 ⊢
    have e0 : bt s 0 = 224 + c / 4096 := b0
    have e1 : bt s 1 = 128 + c / 64 % 64 := b1
    have e2 : bt s 2 = 128 + c % 64 := b2
    show ((bt s 0 - leadR (bt s 0)) * 64 + (bt s 1 + 128) % 256) * 64 + (bt s 2 + 128) % 256 = c
    rw [e0, e1, e2]; unfold leadR
    rw [if_neg (by omega), if_pos (by omega)]; omega
  · rw [putU_4 h a] at b0 b1 b2 b3 ⊢
    have e0 : bt s 0 = 240 + c / 262144 := b0
    have e1 : bt s 1 = 128 + c / 4096 % 64 := b1
    have e2 : bt s 2 = 128 + c / 64 % 64 := b2
    have e3 : bt s 3 = 128 + c % 64 := b3
    show (((bt s 0 - leadR (bt s 0)) * 64 + (bt s 1 + 128) % 256) * 64 + (bt s 2 + 128) % 256) * 64 + (bt s 3 + 128) % 256 = c
    rw [e0, e1, e2, e3]; unfold leadR
    rw [if_pos (by omega)]; omega
theorem ev_rNext (s : List UInt8) (hs : s.length ≤ 1000000000) : Ev (fun k => F42 k s) (nextU (ints s)) := by
  have key : ∀ (d j : Nat), j + d = 5 → 1 ≤ j → ((nextU (ints s)).2 = 0 ∨ (j : Int) ≤ (nextU (ints s)).2) → Ev (fun k => F42_L1 k s (vR s (j - 1)) (j : Int)) (nextU (ints s)) := by
    intro d
    induction d with
    | zero =>
      intro j hj h1 hk
      have hz : (nextU (ints s)).2 = 0 := by
        rcases hk with hk | hk
        · exact hk
        · exfalso
          obtain ⟨_, h2, _⟩ := put_next' (ints s) (ints_bytes s) (show (nextU (ints s)).2 ≠ 0 by omega)
          have := putU_bd (nextU (ints s)).1
          omega
      rw [next_zero _ hz]
      exact rNext_end s _ j (.inl (by omega))
    | succ d ih =>
      intro j hj h1 hk
      by_cases hjs : j ≤ s.length
      · refine rNext_round s hs j h1 (by omega) hjs _ (rNext_test s hs j h1 (by omega) hjs _ (fun he => ?_) (fun he => ?_))
        · have hr : rightU (vR s j) := by
            rcases Classical.em (rightU (vR s j)) with q | q
            · exact q
            · exfalso
              rw [putU_no q] at he
              have hl : ((ints s).take j).length = j := by rw [List.length_take, ints_len]; omega
              rw [← he] at hl; simp at hl; omega
          have hnx := next_put hr ((ints s).drop j)
          rw [he, List.take_append_drop, List.length_take, ints_len] at hnx
          rw [hnx]; congr 1; omega
        · have := ih (j + 1) (by omega) (by omega) (by
            rcases hk with hk | hk
            · exact .inl hk
            · right
              rcases Classical.em ((nextU (ints s)).2 = (j : Int)) with q | q
              · exfalso
                obtain ⟨h1, h2, rest, h3⟩ := put_next' (ints s) (ints_bytes s) (show (nextU (ints s)).2 ≠ 0 by omega)
                generalize (nextU (ints s)).1 = c at h1 h2 h3
                have hv := vR_char s _ rest h1 h3
                have hjl : (putU c).length = j := by omega
                rw [hjl] at hv
                refine he ?_
                rw [hv, h3, ← hjl, List.take_left]
              · omega)
          exact this
      · have hz : (nextU (ints s)).2 = 0 := by
          rcases hk with hk | hk
          · exact hk
          · exfalso
            obtain ⟨_, h2, rest, h3⟩ := put_next' (ints s) (ints_bytes s) (show (nextU (ints s)).2 ≠ 0 by omega)
            have hlen := ints_len s
            rw [h3, List.length_append] at hlen
            omega
        rw [next_zero _ hz]
        exact rNext_end s _ j (.inr (by omega))
  have hk0 : (nextU (ints s)).2 = 0 ∨ ((1 : Nat) : Int) ≤ (nextU (ints s)).2 := by
    rcases Classical.em ((nextU (ints s)).2 = 0) with q | q
    · exact .inl q
    · right
      obtain ⟨hr, h2, _⟩ := put_next' (ints s) (ints_bytes s) q
      omega
  exact (key 4 1 (by omega) (by omega) hk0).congr fun k => rfl
theorem ints_cons (s : List UInt8) (h : s.length ≠ 0) : ∃ a r, ints s = a :: r := by
  cases hb : ints s with
  | nil => have := ints_len s; rw [hb] at this; simp at this; omega
  | cons a r => exact ⟨a, r, rfl⟩
theorem ev_Count_loop : ∀ (d : Nat) (s : List UInt8) (n : Int), s.length ≤ d → s.length ≤ 1000000000 → 0 ≤ n → n + s.length ≤ 1000000000 →
    Ev (fun k => F51_L1 k s n) (countU n (ints s)) ∧ Ev (fun k => F31_L1 k s n) (countU n (ints s)) := by
  intro d
  have zero : ∀ (s : List UInt8) (n : Int), s.length = 0 → Ev (fun k => F51_L1 k s n) (countU n (ints s)) ∧ Ev (fun k => F31_L1 k s n) (countU n (ints s)) := by
    intro s n hz
    obtain rfl := List.eq_nil_of_length_eq_zero hz
    rw [show ints [] = [] from rfl, count_nil]
    exact ⟨Ev.step (Ev.pure.congr fun k => by rw [F51_L1]; rfl), Ev.step (Ev.pure.congr fun k => by rw [F31_L1]; rfl)⟩
  induction d with
  | zero => intro s n hd hs h0 hn; exact zero s n (by omega)
  | succ d ih =>
    intro s n hd hs h0 hn
    by_cases hz : s.length = 0
    · exact zero s n hz
    · obtain ⟨a, r, hl⟩ := ints_cons s hz
      have hb := ints_bytes s
      have hlen := ints_len s
      obtain ⟨N1, e1⟩ := ev_Next s
      obtain ⟨N2, e2⟩ := ev_rNext s hs
      have hne : (s == []) = false := by rw [beq_eq_false_iff_ne]; rintro rfl; exact hz rfl
      have hlt : decide ((0 : Int) < (s.length : Int)) = true := decide_eq_true (by omega)
      rw [hl] at hb hlen e1 e2 ⊢
      by_cases h : (nextU (a :: r)).2 = 0
      · rw [count_bad h]
        have hzb : ((nextU (a :: r)).2 == (0 : Int)) = true := by rw [h]; rfl
        refine ⟨Ev.step ⟨N1, fun n' hn' => ?_⟩, Ev.step ⟨N2, fun n' hn' => ?_⟩⟩
        · have q := e1 n' hn'
          dsimp only at q
          show F51_L1 (n' + 1) s n = _
          rw [F51_L1, hne, Bool.not_false, iteB_t, q, bind_some', hzb, iteB_t]
        · have q := e2 n' hn'
          dsimp only at q
          show F31_L1 (n' + 1) s n = _
          rw [F31_L1, hlt, iteB_t, q, bind_some', hzb, iteB_t]
      · have hp := next_pos hb h
        rw [count_good h]
        have hzb : ((nextU (a :: r)).2 == (0 : Int)) = false := by rw [beq_eq_false_iff_ne]; exact h
        have hdr : ints (s.drop (nextU (a :: r)).2.toNat) = r.drop ((nextU (a :: r)).2.toNat - 1) := by rw [ints_drop, hl, drop_pos hp.1]
        have hw : IntKind.wrap .i64 (n + 1) = n + 1 := w64 (by omega)
        obtain ⟨⟨M1, i1⟩, ⟨M2, i2⟩⟩ := ih (s.drop (nextU (a :: r)).2.toNat) (n + 1) (by rw [List.length_drop]; omega) (by rw [List.length_drop]; omega) (by omega) (by rw [List.length_drop]; omega)
        rw [hdr] at i1 i2
        have q1 : (nextU (a :: r)).2 ≤ (s.length : Int) := by rw [← hlen]; exact hp.2
        refine ⟨Ev.step ⟨N1 + M1, fun n' hn' => ?_⟩, Ev.step ⟨N2 + M2, fun n' hn' => ?_⟩⟩
        · have q := e1 n' (by omega)
          have q' := i1 n' (by omega)
          dsimp only at q q'
          show F51_L1 (n' + 1) s n = _
          rw [F51_L1, hne, Bool.not_false, iteB_t, q, bind_some', hzb, iteB_f, grd_t _ (by omega), hw, q']
        · have q := e2 n' (by omega)
          have q' := i2 n' (by omega)
          dsimp only at q q'
          show F31_L1 (n' + 1) s n = _
          rw [F31_L1, hlt, iteB_t, q, bind_some', hzb, iteB_f, grd_t _ (by omega), hw, q']
theorem ev_Count (s : List UInt8) (hs : s.length ≤ 1000000000) : Ev (fun k => F51 k s) (countU 0 (ints s)) := ((ev_Count_loop s.length s 0 (Nat.le_refl _) hs (by omega) (by omega)).1).congr fun k => rfl
theorem ev_rCount (s : List UInt8) (hs : s.length ≤ 1000000000) : Ev (fun k => F31 k s) (countU 0 (ints s)) := ((ev_Count_loop s.length s 0 (Nat.le_refl _) hs (by omega) (by omega)).2).congr fun k => rfl
theorem ev_Right (s : List UInt8) (hs : s.length ≤ 1000000000) : Ev (fun k => F41 k s) (decide ((0 : Int) ≤ countU 0 (ints s))) :=
  (Ev.bind (g := fun _ v => some (decide ((0 : Int) ≤ v))) (ev_Count s hs) Ev.pure).congr fun k => rfl
end Go.Proofs.YtdfghdppbfabfaaDoorX

/- Names: what the reference answers, and the law NameTells' parts. -/
set_option linter.unusedVariables false
set_option linter.unusedSimpArgs false
namespace Go.Proofs.YtdfghdppbfabfaaDoorX
open Go

/-! ### small functions of the reference -/
theorem kind_fin : ∀ c : Fin 256, F40 0 (c.val : Int) = some (kindOf (c.val : Int)) := by decide +kernel
theorem rKind_eq (n : Nat) (c : UInt8) : F40 n (c.toNat : Int) = some (kindOf (c.toNat : Int)) := kind_fin ⟨c.toNat, c.toNat_lt⟩
theorem rSmall_eq (n : Nat) (c : UInt8) : F26 n (c.toNat : Int) = some (smallB (c.toNat : Int)) := by
  rw [F26, rKind_eq, bind_some']
  unfold smallB
  have : kindOf (c.toNat : Int) = 0 ∨ kindOf (c.toNat : Int) = 1 ∨ kindOf (c.toNat : Int) = 2 ∨ kindOf (c.toNat : Int) = 3 ∨ kindOf (c.toNat : Int) = 4 := by
    unfold kindOf
    repeat' split
    all_goals omega
  rcases this with h | h | h | h | h <;> rw [h] <;> rfl
theorem rBegins_eq (n : Nat) (s p : List UInt8) : F27 n s p = some (preB s p) := by
  rw [F27]
  unfold preB
  by_cases h : p.length ≤ s.length
  · rw [decide_eq_true (by omega), iteB_t, grd_t _ (by omega), decide_eq_true h, toNat_nat, Bool.true_and]
  · rw [decide_eq_false (by omega), iteB_f, decide_eq_false h, Bool.false_and]
theorem rEnds_eq (n : Nat) (s p : List UInt8) (hs : s.length ≤ 1000000) : F28 n s p = some (sufB s p) := by
  rw [F28]
  unfold sufB
  by_cases h : p.length ≤ s.length
  · rw [decide_eq_true (by omega), iteB_t, w64 (by omega), grd_t _ (by omega), decide_eq_true h, show ((s.length : Int) - (p.length : Int)).toNat = s.length - p.length by omega, Bool.true_and]
  · rw [decide_eq_false (by omega), iteB_f, decide_eq_false h, Bool.false_and]
theorem take_drop1 (s : List UInt8) (i : Nat) (h : i < s.length) : (s.take (i + 1)).drop i = [s.getD i 0] := by
  rw [List.drop_take, Nat.add_sub_cancel_left, drop_cons s i 0 h]; rfl

/-! ### parts -/
def glueB (pre : List (List UInt8)) (cur : List UInt8) : List (List UInt8) → List (List UInt8)
  | [] => pre ++ [cur]
  | y :: ys => pre ++ (cur ++ y) :: ys
theorem ev_parts_l (c : UInt8) (s : List UInt8) (hs : s.length ≤ 100000) : ∀ (d i : Nat) (pre : List (List UInt8)) (cur : List UInt8), i + d = s.length → pre.length ≤ i → cur.length ≤ i →
    Ev (fun k => F25_L1 k s (c.toNat : Int) (i : Int) (pre ++ [cur])) (glueB pre cur (splitB c (s.drop i))) := by
  intro d
  induction d with
  | zero =>
    intro i pre cur hi hp hc
    rw [List.drop_of_length_le (by omega), splitB, glueB, List.append_nil]
    refine Ev.step (Ev.pure.congr fun k => ?_)
    rw [F25_L1, decide_eq_false (by omega), iteB_f]
  | succ d ih =>
    intro i pre cur hi hp hc
    have w1 : IntKind.wrap .i64 ((i : Int) + 1) = ((i + 1 : Nat) : Int) := by rw [w64 (by omega)]; omega
    have hl : (pre ++ [cur]).length = pre.length + 1 := by simp
    have w2 : IntKind.wrap .i64 (((pre ++ [cur]).length : Int) - 1) = (pre.length : Int) := by rw [hl, w64 (by omega)]; omega
    have hg : (pre ++ [cur]).getD pre.length default = cur := by simp [List.getD_eq_getElem?_getD]
    have ht := take_drop1 s i (by omega)
    rw [drop_cons s i 0 (by omega)]
    have hb : (((s.getD i 0).toNat : Int) == (c.toNat : Int)) = (s.getD i 0 == c) := u8_beq _ _
    obtain ⟨y, ys, hy⟩ : ∃ y ys, splitB c (s.drop (i + 1)) = y :: ys := by
      cases h : splitB c (s.drop (i + 1)) with
      | nil => exact absurd h (split_ne c _)
      | cons y ys => exact ⟨y, ys, rfl⟩
    by_cases h : s.getD i 0 = c
    · have e := ih (i + 1) (pre ++ [cur]) [] (by omega) (by simp; omega) (by simp)
      rw [hy] at e
      rw [splitB, if_pos h, hy]
      have e2 : glueB pre cur ([] :: y :: ys) = glueB (pre ++ [cur]) [] (y :: ys) := by simp [glueB]
      rw [e2]
      refine Ev.step (e.congr fun k => ?_)
      rw [F25_L1, decide_eq_true (by omega), iteB_t, grd_t _ (by omega), toNat_nat, hb, show (s.getD i 0 == c) = true by rw [beq_iff_eq]; exact h, iteB_t, grd_t _ (by rw [hl]; omega), w1]
    · have e := ih (i + 1) pre (cur ++ [s.getD i 0]) (by omega) (by omega) (by simp; omega)
      rw [hy] at e
      rw [splitB, if_neg h, hy]
      have e2 : glueB pre cur ((s.getD i 0 :: y) :: ys) = glueB pre (cur ++ [s.getD i 0]) (y :: ys) := by simp [glueB]
      rw [e2]
      refine Ev.step (e.congr fun k => ?_)
      rw [F25_L1, decide_eq_true (by omega), iteB_t, grd_t _ (by omega), toNat_nat, hb, show (s.getD i 0 == c) = false by rw [beq_eq_false_iff_ne]; exact h, iteB_f, w2, w1]
      have q1 : ((i + 1 : Nat) : Int).toNat = i + 1 := rfl
      rw [q1, toNat_nat, hg, ht, grd_t _ (by omega), grd_t _ (by omega), grd_t _ (by omega), grd_t _ (by simp; omega), grd_t _ (by omega), grd_t _ (by omega)]
      rw [show (pre ++ [cur]).set pre.length (cur ++ [s.getD i 0]) = pre ++ [cur ++ [s.getD i 0]] by rw [List.set_append_right _ _ (Nat.le_refl _), Nat.sub_self]; rfl]
theorem ev_parts (c : UInt8) (k0 : Int) (hk : (c.toNat : Int) = k0) (s : List UInt8) (hs : s.length ≤ 100000) : Ev (fun k => F25 k s k0) (splitB c s) := by
  have e := ev_parts_l c s hs s.length 0 [] [] (by omega) (by simp) (by simp)
  rw [List.drop_zero] at e
  have h : glueB [] [] (splitB c s) = splitB c s := by
    cases h : splitB c s with
    | nil => exact absurd h (split_ne c _)
    | cons y ys => rfl
  rw [h] at e
  subst hk
  exact e.congr fun k => rfl

/-! ### numbers -/
theorem rDig_fin : ∀ r : Fin 10, ((([48, 49, 50, 51, 52, 53, 54, 55, 56, 57, 97, 98, 99, 100, 101, 102] : List UInt8).take (r.val + 1)).drop r.val) = [toB (48 + (r.val : Int))] := by decide +kernel
theorem rDig_eq (n r : Nat) (h : r < 10) : F44 n (r : Int) = some [toB (48 + (r : Int))] := by
  have w1 : IntKind.wrap .i64 ((r : Int) + 1) = ((r + 1 : Nat) : Int) := by rw [w64 (by omega)]; omega
  rw [F44, w1, grd_t _ (by omega), toNat_nat, toNat_nat]
  exact congrArg some (rDig_fin ⟨r, h⟩)
theorem rDec_lt (k n : Nat) (h : n < 10) : F33 (k + 1) (n : Int) = some [toB (48 + (n : Int))] := by
  rw [F33, decide_eq_true (by omega), iteB_t, decide_eq_true (by omega), iteB_t, rDig_eq k n h, bind_some']
theorem rDec_ge (k n : Nat) (l : List UInt8) (h : 10 ≤ n) (hn : n < 1000000) (hl : l.length ≤ 100) (e : F33 k ((n / 10 : Nat) : Int) = some l) : F33 (k + 1) (n : Int) = some (l ++ [toB (48 + ((n % 10 : Nat) : Int))]) := by
  have h1 : IntKind.wrap .i64 ((n : Int).tdiv 10) = ((n / 10 : Nat) : Int) := by rw [Int.tdiv_eq_ediv_of_nonneg (by omega), w64 (by omega)]; omega
  have h2 : ((n : Int).tmod 10) = ((n % 10 : Nat) : Int) := by rw [Int.tmod_eq_emod_of_nonneg (by omega)]; omega
  rw [F33, decide_eq_true (by omega), iteB_t, decide_eq_false (by omega), iteB_f, decide_eq_false (by omega), iteB_f, h1, e, bind_some', h2, rDig_eq k (n % 10) (by omega), bind_some', grd_t _ (by simp; omega)]
theorem rDec_eq (k n : Nat) (h : n < 256) : F33 (k + 3) (n : Int) = some (d3 n) := by
  unfold d3
  by_cases h1 : n < 10
  · rw [if_pos h1]; exact rDec_lt (k + 2) n h1
  · rw [if_neg h1]
    by_cases h2 : n < 100
    · rw [if_pos h2]
      exact rDec_ge (k + 2) n _ (by omega) (by omega) (by simp) (rDec_lt (k + 1) (n / 10) (by omega))
    · rw [if_neg h2]
      have e1 := rDec_ge (k + 1) (n / 10) _ (by omega) (by omega) (by simp) (rDec_lt k (n / 10 / 10) (by omega))
      have e2 := rDec_ge (k + 2) n _ (by omega) (by omega) (by simp) e1
      rw [e2, Nat.div_div_eq_div_mul]; rfl
theorem ev_rdec_l (l : List UInt8) (hl : l.length ≤ 18) : ∀ (d i : Nat) (x : Int), i + d = l.length → 0 ≤ x ∧ x < (10 : Int) ^ i → Ev (fun k => F32_L1 k l x (i : Int)) (decP (l.drop i) x) := by
  intro d
  induction d with
  | zero =>
    intro i x hi hx
    rw [List.drop_of_length_le (by omega)]
    refine Ev.step (Ev.pure.congr fun k => ?_)
    rw [F32_L1, decide_eq_false (by omega), iteB_f]; rfl
  | succ d ih =>
    intro i x hi hx
    rw [drop_cons l i 0 (by omega), decP]
    obtain ⟨p1, p2, p3⟩ := pow10 i (by omega)
    have hb := u8_lt (l.getD i 0)
    have w1 : IntKind.wrap .i64 ((i : Int) + 1) = ((i + 1 : Nat) : Int) := by rw [w64 (by omega)]; omega
    generalize hc : l.getD i 0 = c at *
    by_cases hk : kindOf (c.toNat : Int) = 1
    · rw [if_pos hk]
      have hk' := kind_one hk
      have e := ih (i + 1) (x * 10 + ((c.toNat : Int) - 48)) (by omega) (by rw [p3]; omega)
      refine Ev.step (e.congr fun k => ?_)
      have hv : F43 k (c.toNat : Int) = some ((c.toNat : Int) - 48) := by
        rw [F43, rKind_eq, bind_some', hk]
        show iteB true _ _ = _
        rw [iteB_t, wu8 (by omega), w64 (by omega)]
      rw [F32_L1, decide_eq_true (by omega), iteB_t, grd_t _ (by omega), toNat_nat, hc, rKind_eq, bind_some', hk]
      show iteB false _ _ = _
      rw [iteB_f, grd_t _ (by omega), hv, bind_some', w64 (n := x * 10) (by omega), w64 (n := x * 10 + _) (by omega), w1]
    · rw [if_neg hk]
      refine Ev.step (Ev.pure.congr fun k => ?_)
      rw [F32_L1, decide_eq_true (by omega), iteB_t, grd_t _ (by omega), toNat_nat, hc, rKind_eq, bind_some', show (kindOf (c.toNat : Int) != 1) = true by rw [bne_iff_ne]; exact hk, iteB_t]
theorem ev_rReadDecimal (l : List UInt8) : Ev (fun k => F32 k l) (readD l) := by
  unfold readD
  cases l with
  | nil => rw [if_pos (Or.inl rfl)]; exact Ev.pure.congr fun k => rfl
  | cons a l =>
    have hz : (((a :: l).length : Int) == 0) = false := by rw [beq_eq_false_iff_ne, List.length_cons]; omega
    by_cases h : 18 < (a :: l).length
    · rw [if_pos (Or.inr h)]
      refine Ev.pure.congr fun k => ?_
      rw [F32, hz, iteB_f, decide_eq_true (by omega), iteB_t]
    · rw [if_neg (by simp only [reduceCtorEq, false_or]; exact h)]
      have e := ev_rdec_l (a :: l) (by omega) (a :: l).length 0 0 (by omega) (by decide)
      refine e.congr fun k => ?_
      rw [F32, hz, iteB_f, decide_eq_false (by omega), iteB_f]; rfl

/-! ### addresses -/
theorem num_len {p : List UInt8} (h : numB p = true) : p.length ≤ 3 := by
  unfold numB at h
  simp only [Bool.and_eq_true, Bool.not_eq_true', decide_eq_false_iff_not, beq_iff_eq] at h
  obtain ⟨h1, h2, h3⟩ := h
  have hb := readD_bd p
  obtain ⟨m, hm⟩ := Int.eq_ofNat_of_zero_le hb.1
  rw [hm] at h2 h3
  rw [← h3, dec_d3 m (by omega)]
  exact (d3_facts m (by omega)).1
theorem split_sum (c : UInt8) : ∀ s : List UInt8, ((splitB c s).map List.length).sum + (splitB c s).length = s.length + 1
  | [] => by simp [splitB]
  | x :: l => by
    have ih := split_sum c l
    rw [splitB]
    split
    · simp; omega
    · split
      · rename_i e; exact absurd e (split_ne c l)
      · rename_i y ys e
        rw [e] at ih
        simp at ih ⊢; omega
theorem addr_len {s : List UInt8} (h : addrB (splitB 46 s) = true) : s.length ≤ 15 := by
  have hs := split_sum 46 s
  unfold addrB at h
  simp only [Bool.and_eq_true, beq_iff_eq, List.all_eq_true] at h
  obtain ⟨h1, h2⟩ := h
  match hL : splitB 46 s, h1 with
  | [a, b, c, d], _ =>
    rw [hL] at h2 hs
    have := num_len (h2 a (by simp))
    have := num_len (h2 b (by simp))
    have := num_len (h2 c (by simp))
    have := num_len (h2 d (by simp))
    simp at hs
    omega
/-- One of its four numbers: what the reference asks of it. -/
theorem num_way (n : Nat) (p : List UInt8) (rest : Option Bool) (e1 : F32 (n + 3) p = some (readD p)) :
    ((F32 (n + 3) p).bind fun v5 => iteB (!v5.2) (some false) (iteB (decide ((255 : Int) < v5.1)) (some false) ((F33 (n + 3) v5.1).bind fun v8 => iteB (!(v8 == p)) (some false) rest))) = iteB (numB p) rest (some false) := by
  rw [e1, bind_some']
  have hb := readD_bd p
  unfold numB
  cases (readD p).2 with
  | false => rfl
  | true =>
    by_cases h : (255 : Int) < (readD p).1
    · rw [decide_eq_true h]; rfl
    · rw [decide_eq_false h]
      obtain ⟨m, hm⟩ := Int.eq_ofNat_of_zero_le hb.1
      rw [hm] at h ⊢
      show (F33 (n + 3) (m : Int)).bind _ = _
      rw [rDec_eq n m (by omega), bind_some', dec_d3 m (by omega)]
      cases (d3 m == p) <;> rfl
theorem ev_rAddress (s : List UInt8) (hs : s.length ≤ 100000) : Ev (fun k => F17 k s) (addrB (splitB 46 s)) := by
  by_cases hl : 15 < s.length
  · have : addrB (splitB 46 s) = false := by
      cases h : addrB (splitB 46 s) with
      | false => rfl
      | true => have := addr_len h; omega
    rw [this]
    refine Ev.pure.congr fun k => ?_
    rw [F17, decide_eq_true (by omega), iteB_t]
  · obtain ⟨N0, k0⟩ := ev_parts 46 46 rfl s hs
    by_cases h4 : (splitB 46 s).length = 4
    · match hL : splitB 46 s, h4 with
      | [p0, p1, p2, p3], _ =>
        obtain ⟨N1, k1⟩ := ev_rReadDecimal p0
        obtain ⟨N2, k2⟩ := ev_rReadDecimal p1
        obtain ⟨N3, k3⟩ := ev_rReadDecimal p2
        obtain ⟨N4, k4⟩ := ev_rReadDecimal p3
        refine ⟨N0 + N1 + N2 + N3 + N4 + 3, fun n hn => ?_⟩
        obtain ⟨m, rfl⟩ : ∃ m, n = m + 3 := ⟨n - 3, by omega⟩
        have e0 : F25 (m + 3) s 46 = some [p0, p1, p2, p3] := by rw [← hL]; exact k0 (m + 3) (by omega)
        have e1 : F32 (m + 3) p0 = some (readD p0) := k1 (m + 3) (by omega)
        have e2 : F32 (m + 3) p1 = some (readD p1) := k2 (m + 3) (by omega)
        have e3 : F32 (m + 3) p2 = some (readD p2) := k3 (m + 3) (by omega)
        have e4 : F32 (m + 3) p3 = some (readD p3) := k4 (m + 3) (by omega)
        have g0 : ([p0, p1, p2, p3] : List (List UInt8)).getD (0 : Int).toNat default = p0 := rfl
        have g1 : ([p0, p1, p2, p3] : List (List UInt8)).getD (1 : Int).toNat default = p1 := rfl
        have g2 : ([p0, p1, p2, p3] : List (List UInt8)).getD (2 : Int).toNat default = p2 := rfl
        have g3 : ([p0, p1, p2, p3] : List (List UInt8)).getD (3 : Int).toNat default = p3 := rfl
        have l0 : (0 : Int) < (([p0, p1, p2, p3] : List (List UInt8)).length : Int) := by simp
        have l1 : (1 : Int) < (([p0, p1, p2, p3] : List (List UInt8)).length : Int) := by simp
        have l2 : (2 : Int) < (([p0, p1, p2, p3] : List (List UInt8)).length : Int) := by simp
        have l3 : (3 : Int) < (([p0, p1, p2, p3] : List (List UInt8)).length : Int) := by simp
        have l4 : ((([p0, p1, p2, p3] : List (List UInt8)).length : Int) != 4) = false := rfl
        show F17 (m + 3) s = _
        rw [F17, decide_eq_false (by omega), iteB_f, e0, bind_some', l4, iteB_f]
        simp only [grd_t _ l0, grd_t _ l1, grd_t _ l2, grd_t _ l3, g0, g1, g2, g3]
        rw [num_way m p0 _ e1, num_way m p1 _ e2, num_way m p2 _ e3, num_way m p3 _ e4]
        unfold addrB
        simp only [List.all_cons, List.all_nil, Bool.and_true]
        cases numB p0 <;> cases numB p1 <;> cases numB p2 <;> cases numB p3 <;> rfl
    · have : addrB (splitB 46 s) = false := by unfold addrB; rw [show ((splitB 46 s).length == 4) = false by rw [beq_eq_false_iff_ne]; exact h4, Bool.false_and]
      rw [this]
      refine ⟨N0, fun n hn => ?_⟩
      have e0 : F25 n s 46 = some (splitB 46 s) := k0 n hn
      show F17 n s = _
      rw [F17, decide_eq_false (by omega), iteB_f, e0, bind_some', show (((splitB 46 s).length : Int) != 4) = true by rw [bne_iff_ne]; omega, iteB_t]

/-! ### a bucket's labels -/
def badB (a b : UInt8) : Bool := (a == 46 && b == 46) || ((a == 46 && b == 45) || (a == 45 && b == 46))
def noBad : List UInt8 → Bool
  | a :: b :: l => !badB a b && noBad (b :: l)
  | _ => true
def smB (c : UInt8) : Bool := smallB (c.toNat : Int)
def lastB (l : List UInt8) : UInt8 := l.getD (l.length - 1) 0
theorem lastB_cons (a b : UInt8) (l : List UInt8) : lastB (a :: b :: l) = lastB (b :: l) := rfl
theorem sm_dot : smB 46 = false := by decide
theorem sm_min : smB 45 = false := by decide
theorem okS_cases {c : UInt8} (h : okS c = true) : smB c = true ∨ c = 46 ∨ c = 45 := by
  unfold okS at h
  rw [Bool.or_eq_true, Bool.or_eq_true] at h
  rcases h with h | h | h
  · exact .inl h
  · right; left
    have := u8_lit c 46 (by omega)
    rw [show ((46 : Nat) : Int) = 46 from rfl, h] at this
    exact beq_iff_eq.1 this.symm
  · right; right
    have := u8_lit c 45 (by omega)
    rw [show ((45 : Nat) : Int) = 45 from rfl, h] at this
    exact beq_iff_eq.1 this.symm
theorem bad_dotL {a : UInt8} (h : okS a = true) (ha : a ≠ 46) : badB a 46 = !smB a := by
  rcases okS_cases h with h | h | h
  · rw [h]
    have : a ≠ 45 := by rintro rfl; rw [sm_min] at h; cases h
    simp [badB, ha, this]
  · exact absurd h ha
  · subst h; decide
theorem bad_dotR {c : UInt8} (h : okS c = true) : badB 46 c = !smB c := by
  rcases okS_cases h with h | h | h
  · rw [h]
    have h1 : c ≠ 45 := by rintro rfl; rw [sm_min] at h; cases h
    have h2 : c ≠ 46 := by rintro rfl; rw [sm_dot] at h; cases h
    simp [badB, h1, h2]
  · subst h; decide
  · subst h; decide
theorem bad_none {a b : UInt8} (ha : a ≠ 46) (hb : b ≠ 46) : badB a b = false := by simp [badB, ha, hb]
theorem lab_cons (a : UInt8) (y : List UInt8) : labB (a :: y) = (smB a && smB (lastB (a :: y))) := rfl
theorem labels : ∀ (n : Nat) (l : List UInt8), l.length ≤ n → l.all okS = true → ∀ (a : UInt8) (r : List UInt8), l = a :: r → a ≠ 46 →
    ∃ y ys, splitB 46 l = (a :: y) :: ys ∧ (smB (lastB (a :: y)) && ys.all labB) = (smB (lastB l) && noBad l)
  | 0, l, hn, ho, a, r, e, ha => by subst e; simp at hn
  | n + 1, l, hn, ho, a, r, e, ha => by
    subst e
    rw [List.all_cons, Bool.and_eq_true] at ho
    cases r with
    | nil => exact ⟨[], [], by rw [splitB, if_neg ha]; rfl, by simp [noBad]⟩
    | cons b r =>
      have ho2 := ho.2
      rw [List.all_cons, Bool.and_eq_true] at ho2
      by_cases hb : b = 46
      · subst hb
        have hsp : splitB 46 (46 :: r) = [] :: splitB 46 r := by rw [splitB, if_pos rfl]
        refine ⟨[], splitB 46 r, by rw [splitB, if_neg ha, hsp], ?_⟩
        rw [lastB_cons]
        have hba := bad_dotL ho.1 ha
        cases r with
        | nil =>
          have : (splitB 46 ([] : List UInt8)).all labB = false := rfl
          rw [this, Bool.and_false]
          show false = (smB 46 && _)
          rw [sm_dot]; rfl
        | cons c r =>
          rw [lastB_cons]
          have ho3 := ho2.2
          rw [List.all_cons, Bool.and_eq_true] at ho3
          have hbc := bad_dotR ho3.1
          rw [show noBad (a :: 46 :: c :: r) = (!badB a 46 && (!badB 46 c && noBad (c :: r))) from rfl, hba, hbc, Bool.not_not, Bool.not_not]
          show (smB a && _) = _
          by_cases hc : c = 46
          · subst hc
            rw [show splitB 46 (46 :: r) = [] :: splitB 46 r by rw [splitB, if_pos rfl], List.all_cons, show labB [] = false from rfl, Bool.false_and, Bool.and_false, sm_dot, Bool.false_and, Bool.and_false, Bool.and_false]
          · obtain ⟨y, ys, e1, e2⟩ := labels n (c :: r) (by simp at hn ⊢; omega) (by rw [List.all_cons, ho3.1, ho3.2]; rfl) c r rfl hc
            rw [e1, List.all_cons, lab_cons, Bool.and_assoc, e2]
            cases smB a <;> cases smB c <;> cases smB (lastB (c :: r)) <;> rfl
      · obtain ⟨y, ys, e1, e2⟩ := labels n (b :: r) (by simp at hn ⊢; omega) (by rw [List.all_cons, ho2.1, ho2.2]; rfl) b r rfl hb
        refine ⟨b :: y, ys, by rw [splitB, if_neg ha, e1], ?_⟩
        rw [lastB_cons, e2, lastB_cons, show noBad (a :: b :: r) = (!badB a b && noBad (b :: r)) from rfl, bad_none ha hb]; rfl
theorem labels_eq (s : List UInt8) (hs : s ≠ []) (ho : s.all okS = true) : (splitB 46 s).all labB = (smB (s.getD 0 0) && (smB (lastB s) && noBad s)) := by
  cases s with
  | nil => exact absurd rfl hs
  | cons a r =>
    by_cases ha : a = 46
    · subst ha
      rw [splitB, if_pos rfl, List.all_cons, show labB [] = false from rfl, Bool.false_and]
      show false = (smB 46 && _)
      rw [sm_dot]; rfl
    · obtain ⟨y, ys, e1, e2⟩ := labels _ (a :: r) (Nat.le_refl _) ho a r rfl ha
      rw [e1, List.all_cons, lab_cons, Bool.and_assoc, e2]; rfl

/-! ### the reference's Bucket -/
def endB (s : List UInt8) : Int := if addrB (splitB 46 s) = true then 4 else if keptB s = true then 5 else 0
theorem two_eq (s : List UInt8) (i : Nat) (h0 : 1 ≤ i) (h : i < s.length) : (s.take (i + 1)).drop (i - 1) = [s.getD (i - 1) 0, s.getD i 0] := by
  obtain ⟨j, rfl⟩ : ∃ j, i = j + 1 := ⟨i - 1, by omega⟩
  rw [List.drop_take, show j + 1 + 1 - (j + 1 - 1) = 2 by omega, show j + 1 - 1 = j by omega, drop_cons s j 0 (by omega), drop_cons s (j + 1) 0 h]; rfl
theorem ev_rB2 (s : List UInt8) (hs : s.length ≤ 63) : ∀ (d i : Nat), i + d = s.length → 1 ≤ i → Ev (fun k => F14_L2 k s (i : Int)) (if noBad (s.drop (i - 1)) = true then endB s else 3) := by
  intro d
  induction d with
  | zero =>
    intro i hi h1
    obtain ⟨N1, k1⟩ := ev_rAddress s (by omega)
    have hn : noBad (s.drop (i - 1)) = true := by
      have : (s.drop (i - 1)).length ≤ 1 := by rw [List.length_drop]; omega
      match s.drop (i - 1), this with
      | [], _ => rfl
      | [a], _ => rfl
    rw [if_pos hn]
    refine Ev.step ⟨N1, fun n hn => ?_⟩
    have e1 : F17 n s = some (addrB (splitB 46 s)) := k1 n hn
    show F14_L2 (n + 1) s (i : Int) = _
    rw [F14_L2, decide_eq_false (by omega), iteB_f, e1, bind_some', rBegins_eq, bind_some', rBegins_eq, bind_some', rEnds_eq _ _ _ (by omega), bind_some', rEnds_eq _ _ _ (by omega), bind_some']
    unfold endB keptB
    cases addrB (splitB 46 s)
    · cases preB s [120, 110, 45, 45]
      · cases preB s [115, 116, 104, 114, 101, 101, 45]
        · cases sufB s [45, 115, 51, 97, 108, 105, 97, 115]
          · cases sufB s [45, 45, 111, 108, 45, 115, 51] <;> rfl
          · rfl
        · rfl
      · rfl
    · rfl
  | succ d ih =>
    intro i hi h1
    have w1 : IntKind.wrap .i64 ((i : Int) + 1) = ((i + 1 : Nat) : Int) := by rw [w64 (by omega)]; omega
    have w2 : IntKind.wrap .i64 ((i : Int) - 1) = ((i - 1 : Nat) : Int) := by rw [w64 (by omega)]; omega
    have e := ih (i + 1) (by omega) (by omega)
    have ht := two_eq s i h1 (by omega)
    have hd : s.drop (i - 1) = s.getD (i - 1) 0 :: s.getD i 0 :: s.drop (i + 1) := by
      rw [drop_cons s (i - 1) 0 (by omega), show i - 1 + 1 = i by omega, drop_cons s i 0 (by omega)]
    have hd' : s.drop (i + 1 - 1) = s.getD i 0 :: s.drop (i + 1) := by rw [show i + 1 - 1 = i by omega, drop_cons s i 0 (by omega)]
    rw [hd'] at e
    rw [hd, show noBad (s.getD (i - 1) 0 :: s.getD i 0 :: s.drop (i + 1)) = (!badB (s.getD (i - 1) 0) (s.getD i 0) && noBad (s.getD i 0 :: s.drop (i + 1))) from rfl]
    generalize s.getD (i - 1) 0 = a at *
    generalize s.getD i 0 = b at *
    have head : ∀ k, F14_L2 (k + 1) s (i : Int) = iteB ([a, b] == ([46, 46] : List UInt8)) (some (3 : Int)) (iteB ([a, b] == ([46, 45] : List UInt8)) (some (3 : Int)) (iteB ([a, b] == ([45, 46] : List UInt8)) (some (3 : Int)) (F14_L2 k s ((i + 1 : Nat) : Int)))) := by
      intro k
      rw [F14_L2, decide_eq_true (by omega), iteB_t, w1, w2, grd_t _ (by omega), toNat_nat, toNat_nat, ht]
    have two : ∀ x y : UInt8, ([a, b] == ([x, y] : List UInt8)) = (a == x && b == y) := by
      intro x y
      rw [Bool.eq_iff_iff, beq_iff_eq, Bool.and_eq_true, beq_iff_eq, beq_iff_eq]
      simp
    by_cases hb : badB a b = true
    · rw [hb, if_neg (by simp)]
      refine Ev.step (Ev.pure.congr fun k => ?_)
      rw [head, two, two, two]
      unfold badB at hb
      rw [Bool.or_eq_true, Bool.or_eq_true] at hb
      rcases hb with hb | hb | hb
      · rw [hb]; rfl
      · rw [hb]; cases (a == 46 && b == 46) <;> rfl
      · rw [hb]; cases (a == 46 && b == 46) <;> cases (a == 46 && b == 45) <;> rfl
    · rw [Bool.not_eq_true] at hb
      rw [hb, Bool.not_false, Bool.true_and]
      refine Ev.step (e.congr fun k => ?_)
      unfold badB at hb
      rw [Bool.or_eq_false_iff, Bool.or_eq_false_iff] at hb
      rw [head, two, two, two, hb.1, hb.2.1, hb.2.2]; rfl
theorem ev_rB1 (s : List UInt8) (hs0 : 3 ≤ s.length) (hs : s.length ≤ 63) : ∀ (d i : Nat), i + d = s.length → Ev (fun k => F14_L1 k s (i : Int)) (if (s.drop i).all okS = true then (if (smB (s.getD 0 0) && (smB (lastB s) && noBad s)) = true then endB s else 3) else 2) := by
  intro d
  induction d with
  | zero =>
    intro i hi
    obtain ⟨N1, k1⟩ := ev_rB2 s hs (s.length - 1) 1 (by omega) (by omega)
    rw [List.drop_of_length_le (show s.length ≤ i by omega), if_pos (by rfl)]
    refine Ev.step ⟨N1, fun n hn => ?_⟩
    have e1 : F14_L2 n s (1 : Int) = some (if noBad (s.drop (1 - 1)) = true then endB s else 3) := k1 n hn
    have w2 : IntKind.wrap .i64 ((s.length : Int) - 1) = ((s.length - 1 : Nat) : Int) := by rw [w64 (by omega)]; omega
    show F14_L1 (n + 1) s (i : Int) = _
    rw [F14_L1, decide_eq_false (by omega), iteB_f, grd_t _ (by omega), rSmall_eq, bind_some', w2, grd_t _ (by omega), toNat_nat, rSmall_eq, bind_some', e1]
    show iteB (!smB (s.getD 0 0)) _ (iteB (!smB (lastB s)) _ _) = _
    rw [show 1 - 1 = 0 from rfl, List.drop_zero]
    cases smB (s.getD 0 0) <;> cases smB (lastB s) <;> rfl
  | succ d ih =>
    intro i hi
    have w1 : IntKind.wrap .i64 ((i : Int) + 1) = ((i + 1 : Nat) : Int) := by rw [w64 (by omega)]; omega
    have e := ih (i + 1) (by omega)
    rw [drop_cons s i 0 (by omega), List.all_cons]
    generalize hc : s.getD i 0 = c at *
    unfold okS
    by_cases h1 : smallB (c.toNat : Int) = true
    · rw [h1, Bool.true_or, Bool.true_and]
      refine Ev.step (e.congr fun k => ?_)
      rw [F14_L1, decide_eq_true (by omega), iteB_t, grd_t _ (by omega), toNat_nat, hc, rSmall_eq, bind_some', h1, w1]; rfl
    · rw [Bool.not_eq_true] at h1
      rw [h1, Bool.false_or]
      by_cases h2 : (c.toNat : Int) = 46
      · rw [show ((c.toNat : Int) == 46) = true by rw [beq_iff_eq]; exact h2, Bool.true_or, Bool.true_and]
        refine Ev.step (e.congr fun k => ?_)
        rw [F14_L1, decide_eq_true (by omega), iteB_t, grd_t _ (by omega), toNat_nat, hc, rSmall_eq, bind_some', h1, w1]
        show iteB true _ _ = _
        rw [iteB_t, grd_t _ (by omega), show ((c.toNat : Int) != 46) = false by rw [h2]; rfl, iteB_f]
      · rw [show ((c.toNat : Int) == 46) = false by rw [beq_eq_false_iff_ne]; exact h2, Bool.false_or]
        by_cases h3 : (c.toNat : Int) = 45
        · rw [show ((c.toNat : Int) == 45) = true by rw [beq_iff_eq]; exact h3, Bool.true_and]
          refine Ev.step (e.congr fun k => ?_)
          rw [F14_L1, decide_eq_true (by omega), iteB_t, grd_t _ (by omega), toNat_nat, hc, rSmall_eq, bind_some', h1, w1]
          show iteB true _ _ = _
          rw [iteB_t, grd_t _ (by omega), show ((c.toNat : Int) != 46) = true by rw [bne_iff_ne]; exact h2, iteB_t, grd_t _ (by omega), show ((c.toNat : Int) != 45) = false by rw [h3]; rfl, iteB_f]
        · rw [show ((c.toNat : Int) == 45) = false by rw [beq_eq_false_iff_ne]; exact h3, Bool.false_and, if_neg (by simp)]
          refine Ev.step (Ev.pure.congr fun k => ?_)
          rw [F14_L1, decide_eq_true (by omega), iteB_t, grd_t _ (by omega), toNat_nat, hc, rSmall_eq, bind_some', h1]
          show iteB true _ _ = _
          rw [iteB_t, grd_t _ (by omega), show ((c.toNat : Int) != 46) = true by rw [bne_iff_ne]; exact h2, iteB_t, grd_t _ (by omega), show ((c.toNat : Int) != 45) = true by rw [bne_iff_ne]; exact h3, iteB_t]
theorem ev_rBucket (s : List UInt8) : Ev (fun k => F14 k s) (bucketT s) := by
  unfold bucketT
  by_cases h1 : s.length < 3
  · rw [if_pos h1]
    refine Ev.pure.congr fun k => ?_
    rw [F14, decide_eq_true (by omega), iteB_t]
  · rw [if_neg h1]
    by_cases h2 : 63 < s.length
    · rw [if_pos h2]
      refine Ev.pure.congr fun k => ?_
      rw [F14, decide_eq_false (by omega), iteB_f, decide_eq_true (by omega), iteB_t]
    · rw [if_neg h2]
      have e := ev_rB1 s (by omega) (by omega) s.length 0 (by omega)
      rw [List.drop_zero] at e
      have hres : (if s.all okS = true then (if (smB (s.getD 0 0) && (smB (lastB s) && noBad s)) = true then endB s else 3) else 2) = (if s.all okS = false then (2 : Int) else if (splitB 46 s).all labB = false then 3 else if addrB (splitB 46 s) = true then 4 else if keptB s = true then 5 else 0) := by
        by_cases ho : s.all okS = true
        · rw [if_pos ho, ← labels_eq s (by intro e; rw [e] at h1; simp at h1) ho]
          by_cases hl : (splitB 46 s).all labB = true
          · rw [if_pos hl, if_neg (by rw [ho]; simp), if_neg (by rw [hl]; simp)]; rfl
          · rw [if_neg hl, if_neg (by rw [ho]; simp), if_pos (by simpa using hl)]
        · rw [if_neg ho, if_pos (by simpa using ho)]
      rw [hres] at e
      refine e.congr fun k => ?_
      rw [F14, decide_eq_false (by omega), iteB_f, decide_eq_false (by omega), iteB_f]; rfl
end Go.Proofs.YtdfghdppbfabfaaDoorX

/- The law NameTells. -/
set_option linter.unusedVariables false
set_option linter.unusedSimpArgs false
namespace Go.Proofs.YtdfghdppbfabfaaDoorX
open Go

/-! ### the reference's Split -/
theorem fine_at (s : List UInt8) (h : bucketT s = 0) : 64 ∉ s := by
  intro hm
  have := (fine_of h).2.2.1
  rw [List.all_eq_true] at this
  have := this 64 hm
  revert this; decide
def splT : List (List UInt8) → List UInt8 × List UInt8 × Bool
  | [a] => if bucketT a = 0 then (a, [], true) else ([], [], false)
  | [a, b] => if bucketT a = 0 ∧ bucketT b = 0 then (a, b, true) else ([], [], false)
  | _ => ([], [], false)
theorem ev_rS (L : List (List UInt8)) (hL : L ≠ []) (hl : L.length ≤ 1000) : Ev (fun k => F13_L1 k L (0 : Int)) (splT L) := by
  have w0 : IntKind.wrap .i64 ((0 : Int) + 1) = 1 := by decide
  have w1 : IntKind.wrap .i64 ((1 : Int) + 1) = 2 := by decide
  have z0 : ((0 : Int)).toNat = 0 := rfl
  have z1 : ((1 : Int)).toNat = 1 := rfl
  match L, hL, hl with
  | [a], _, _ =>
    obtain ⟨N1, k1⟩ := ev_rBucket a
    refine ⟨N1 + 2, fun n hn => ?_⟩
    obtain ⟨m, rfl⟩ : ∃ m, n = m + 1 + 1 := ⟨n - 2, by omega⟩
    have e1 : F14 (m + 1) a = some (bucketT a) := k1 _ (by omega)
    show F13_L1 (m + 1 + 1) [a] 0 = some (if bucketT a = 0 then (a, [], true) else ([], [], false))
    rw [F13_L1, decide_eq_true (by simp), iteB_t, decide_eq_false (by omega), iteB_f, grd_t _ (by simp), z0, show ([a] : List (List UInt8)).getD 0 default = a from rfl, e1, bind_some', w0]
    by_cases h : bucketT a = 0
    · rw [if_pos h, show (bucketT a != 0) = false by rw [h]; rfl, iteB_f, F13_L1, decide_eq_false (by simp), iteB_f]; rfl
    · rw [if_neg h, show (bucketT a != 0) = true by rw [bne_iff_ne]; exact h, iteB_t]
  | [a, b], _, _ =>
    obtain ⟨N1, k1⟩ := ev_rBucket a
    obtain ⟨N2, k2⟩ := ev_rBucket b
    refine ⟨N1 + N2 + 3, fun n hn => ?_⟩
    obtain ⟨m, rfl⟩ : ∃ m, n = m + 1 + 1 + 1 := ⟨n - 3, by omega⟩
    have e1 : F14 (m + 1 + 1) a = some (bucketT a) := k1 _ (by omega)
    have e2 : F14 (m + 1) b = some (bucketT b) := k2 _ (by omega)
    show F13_L1 (m + 1 + 1 + 1) [a, b] 0 = some (if bucketT a = 0 ∧ bucketT b = 0 then (a, b, true) else ([], [], false))
    rw [F13_L1, decide_eq_true (by simp), iteB_t, decide_eq_false (by omega), iteB_f, grd_t _ (by simp), z0, show ([a, b] : List (List UInt8)).getD 0 default = a from rfl, e1, bind_some', w0]
    by_cases h : bucketT a = 0
    · rw [show (bucketT a != 0) = false by rw [h]; rfl, iteB_f, F13_L1, decide_eq_true (by simp), iteB_t, decide_eq_false (by omega), iteB_f, grd_t _ (by simp), z1, show ([a, b] : List (List UInt8)).getD 1 default = b from rfl, e2, bind_some', w1]
      by_cases h2 : bucketT b = 0
      · rw [if_pos ⟨h, h2⟩, show (bucketT b != 0) = false by rw [h2]; rfl, iteB_f, F13_L1, decide_eq_false (by simp), iteB_f]; rfl
      · rw [if_neg (fun e => h2 e.2), show (bucketT b != 0) = true by rw [bne_iff_ne]; exact h2, iteB_t]
    · rw [if_neg (fun e => h e.1), show (bucketT a != 0) = true by rw [bne_iff_ne]; exact h, iteB_t]
  | a :: b :: c :: L, _, hl =>
    obtain ⟨N1, k1⟩ := ev_rBucket a
    obtain ⟨N2, k2⟩ := ev_rBucket b
    refine ⟨N1 + N2 + 3, fun n hn => ?_⟩
    obtain ⟨m, rfl⟩ : ∃ m, n = m + 1 + 1 + 1 := ⟨n - 3, by omega⟩
    have e1 : F14 (m + 1 + 1) a = some (bucketT a) := k1 _ (by omega)
    have e2 : F14 (m + 1) b = some (bucketT b) := k2 _ (by omega)
    have q0 : (0 : Int) < ((a :: b :: c :: L).length : Int) := by simp only [List.length_cons]; omega
    have q1 : (1 : Int) < ((a :: b :: c :: L).length : Int) := by simp only [List.length_cons]; omega
    have q2 : (2 : Int) < ((a :: b :: c :: L).length : Int) := by simp only [List.length_cons]; omega
    show F13_L1 (m + 1 + 1 + 1) (a :: b :: c :: L) 0 = some ([], [], false)
    rw [F13_L1, decide_eq_true q0, iteB_t, decide_eq_false (by omega), iteB_f, grd_t _ ⟨by omega, q0⟩, z0, show (a :: b :: c :: L).getD 0 default = a from rfl, e1, bind_some', w0]
    by_cases h : bucketT a = 0
    · rw [show (bucketT a != 0) = false by rw [h]; rfl, iteB_f, F13_L1, decide_eq_true q1, iteB_t, decide_eq_false (by omega), iteB_f, grd_t _ ⟨by omega, q1⟩, z1, show (a :: b :: c :: L).getD 1 default = b from rfl, e2, bind_some', w1]
      by_cases h2 : bucketT b = 0
      · rw [show (bucketT b != 0) = false by rw [h2]; rfl, iteB_f, F13_L1, decide_eq_true q2, iteB_t, decide_eq_true (by omega), iteB_t]
      · rw [show (bucketT b != 0) = true by rw [bne_iff_ne]; exact h2, iteB_t]
    · rw [show (bucketT a != 0) = true by rw [bne_iff_ne]; exact h, iteB_t]
theorem bucket_long {s : List UInt8} (h : 63 < s.length) : bucketT s ≠ 0 := by
  intro e; have := (fine_of e).2.1; omega
theorem ev_rSplit (s : List UInt8) (hs : s.length ≤ 100000) : Ev (fun k => F13 k s) (nameT s) := by
  have hcut : ∀ m : Nat, m < s.length → Lib.indexByte s 64 = (m : Int) → s = s.take m ++ 64 :: s.drop (m + 1) → cutB 64 s = (s.take m, s.drop (m + 1), true) := by
    intro m h1 h2 h4
    have hm : (64 : UInt8) ∈ s := by rw [h4]; simp
    unfold cutB
    rw [if_pos hm, h2, toNat_nat]
  by_cases hl : 200 < s.length
  · have : nameT s = ([], [], false) := by
      unfold nameT
      refine if_neg fun e => ?_
      rcases idx_cases 64 s with ⟨h1, h2, h3, h4⟩ | ⟨m, h1, h2, h3, h4, h5, h6⟩
      · rw [cut_none 64 s h2] at e; exact bucket_long (s := s) (by omega) e.1
      · rw [hcut m h1 h2 h4] at e
        have e1 := (fine_of e.1).2.1
        have e2 := (fine_of (e.2 rfl)).2.1
        rw [List.length_take] at e1
        rw [List.length_drop] at e2
        omega
    rw [this]
    refine Ev.pure.congr fun k => ?_
    rw [F13, decide_eq_true (by omega), iteB_t]
  · obtain ⟨N0, k0⟩ := ev_parts 64 64 rfl s hs
    have hc := split_count 64 s
    obtain ⟨N1, k1⟩ := ev_rS (splitB 64 s) (split_ne 64 s) (by omega)
    have hres : splT (splitB 64 s) = nameT s := by
      unfold nameT
      rcases idx_cases 64 s with ⟨h1, h2, h3, h4⟩ | ⟨m, h1, h2, h3, h4, h5, h6⟩
      · rw [h4, cut_none 64 s h2]
        by_cases h : bucketT s = 0
        · rw [if_pos ⟨h, fun e => by cases e⟩]; exact if_pos h
        · rw [if_neg (fun e => h e.1)]; exact if_neg h
      · rw [hcut m h1 h2 h4, h6]
        rcases idx_cases 64 (s.drop (m + 1)) with ⟨g1, g2, g3, g4⟩ | ⟨m', g1, g2, g3, g4, g5, g6⟩
        · rw [g4]
          by_cases h : bucketT (s.take m) = 0 ∧ bucketT (s.drop (m + 1)) = 0
          · rw [if_pos ⟨h.1, fun _ => h.2⟩]; exact if_pos h
          · rw [if_neg (fun e => h ⟨e.1, e.2 rfl⟩)]; exact if_neg h
        · have hm : (64 : UInt8) ∈ s.drop (m + 1) := by rw [g4]; simp
          rw [if_neg (fun e => fine_at _ (e.2 rfl) hm), g6]
          cases hq : splitB 64 ((s.drop (m + 1)).drop (m' + 1)) with
          | nil => exact absurd hq (split_ne 64 _)
          | cons y ys => rfl
    rw [hres] at k1
    refine ⟨N0 + N1, fun n hn => ?_⟩
    have e0 : F25 n s 64 = some (splitB 64 s) := k0 n (by omega)
    have e1 : F13_L1 n (splitB 64 s) 0 = some (nameT s) := k1 n (by omega)
    show F13 n s = _
    rw [F13, decide_eq_false (by omega), iteB_f, e0, bind_some', e1]

/-! ### objects -/
def signB (c : UInt8) : Bool := !(decide ((c.toNat : Int) < 32)) && !((c.toNat : Int) == 127)
def dotB (p : List UInt8) : Bool := p == [46] || p == [46, 46]
noncomputable def wellB (s : List UInt8) : Bool := decide ((0 : Int) ≤ countU 0 (ints s))
noncomputable def objT (s : List UInt8) : Int := if s.length < 1 then 1 else if 64 < s.length then 1 else if (s.all signB && wellB s) = false then 2 else if ((s.getD 0 0).toNat : Int) = 47 then 3 else if (splitB 47 s).any dotB = true then 3 else 0
theorem ev_plain_l (s : List UInt8) (hs : s.length ≤ 100000) : ∀ (d i : Nat), i + d = s.length → Ev (fun k => F29_L1 k s (i : Int)) ((s.drop i).all signB && wellB s) := by
  intro d
  induction d with
  | zero =>
    intro i hi
    rw [List.drop_of_length_le (by omega)]
    obtain ⟨N1, k1⟩ := ev_Right s (by omega)
    refine Ev.step ⟨N1, fun n hn => ?_⟩
    have e1 : F41 n s = some (wellB s) := k1 n hn
    show F29_L1 (n + 1) s (i : Int) = _
    rw [F29_L1, decide_eq_false (by omega), iteB_f, e1]; rfl
  | succ d ih =>
    intro i hi
    have w1 : IntKind.wrap .i64 ((i : Int) + 1) = ((i + 1 : Nat) : Int) := by rw [w64 (by omega)]; omega
    have e := ih (i + 1) (by omega)
    rw [drop_cons s i 0 (by omega), List.all_cons]
    generalize hc : s.getD i 0 = c at *
    unfold signB
    by_cases h1 : (c.toNat : Int) < 32
    · rw [decide_eq_true h1]
      refine Ev.step (Ev.pure.congr fun k => ?_)
      rw [F29_L1, decide_eq_true (by omega), iteB_t, grd_t _ (by omega), toNat_nat, hc, decide_eq_true h1, iteB_t]; rfl
    · rw [decide_eq_false h1]
      by_cases h2 : ((c.toNat : Int) == 127) = true
      · rw [h2]
        refine Ev.step (Ev.pure.congr fun k => ?_)
        rw [F29_L1, decide_eq_true (by omega), iteB_t, grd_t _ (by omega), toNat_nat, hc, decide_eq_false h1, iteB_f, grd_t _ (by omega), h2, iteB_t]; rfl
      · rw [Bool.not_eq_true] at h2
        rw [h2]
        refine Ev.step (e.congr fun k => ?_)
        rw [F29_L1, decide_eq_true (by omega), iteB_t, grd_t _ (by omega), toNat_nat, hc, decide_eq_false h1, iteB_f, grd_t _ (by omega), h2, iteB_f, w1]
theorem ev_dots_l (L : List (List UInt8)) (hl : L.length ≤ 1000000) : ∀ (d i : Nat), i + d = L.length → Ev (fun k => F30_L1 k L (i : Int)) ((L.drop i).any dotB) := by
  intro d
  induction d with
  | zero =>
    intro i hi
    rw [List.drop_of_length_le (by omega)]
    refine Ev.step (Ev.pure.congr fun k => ?_)
    rw [F30_L1, decide_eq_false (by omega), iteB_f]; rfl
  | succ d ih =>
    intro i hi
    have w1 : IntKind.wrap .i64 ((i : Int) + 1) = ((i + 1 : Nat) : Int) := by rw [w64 (by omega)]; omega
    rw [drop_cons L i default (by omega), List.any_cons]
    refine Ev.step ?_
    obtain ⟨N1, k1⟩ := ih (i + 1) (by omega)
    refine ⟨N1, fun n hn => ?_⟩
    have e1 : F30_L1 n L ((i + 1 : Nat) : Int) = some ((L.drop (i + 1)).any dotB) := k1 n hn
    show F30_L1 (n + 1) L (i : Int) = _
    rw [F30_L1, decide_eq_true (by omega), iteB_t, grd_t _ (by omega), toNat_nat, w1, e1]
    unfold dotB
    cases (L.getD i default == [46]) <;> cases (L.getD i default == [46, 46]) <;> rfl
theorem ev_Object (s : List UInt8) : Ev (fun k => F15 k s) (objT s) := by
  unfold objT
  by_cases h1 : s.length < 1
  · rw [if_pos h1]
    obtain rfl := List.eq_nil_of_length_eq_zero (show s.length = 0 by omega)
    exact Ev.pure.congr fun k => rfl
  · rw [if_neg h1]
    have hne : (s == []) = false := by rw [beq_eq_false_iff_ne]; rintro rfl; exact h1 (by simp)
    by_cases h2 : 64 < s.length
    · rw [if_pos h2]
      refine Ev.pure.congr fun k => ?_
      rw [F15, hne, iteB_f, decide_eq_true (by omega), iteB_t]
    · rw [if_neg h2]
      have hc := split_count 47 s
      obtain ⟨N1, k1⟩ := ev_plain_l s (by omega) s.length 0 (by omega)
      obtain ⟨N2, k2⟩ := ev_Split 47 s (by omega)
      obtain ⟨N3, k3⟩ := ev_dots_l (splitB 47 s) (by omega) (splitB 47 s).length 0 (by omega)
      refine ⟨N1 + N2 + N3, fun n hn => ?_⟩
      have e1 : F29 n s = some (s.all signB && wellB s) := k1 n (by omega)
      have e2 : F18 n s [47] = some (splitB 47 s) := k2 n (by omega)
      have e3 : F30_L1 n (splitB 47 s) 0 = some ((splitB 47 s).any dotB) := k3 n (by omega)
      have e4 : F30 n s = some ((splitB 47 s).any dotB) := by rw [F30, e2, bind_some', e3]
      show F15 n s = _
      rw [F15, hne, iteB_f, decide_eq_false (by omega), iteB_f, e1, bind_some', grd_t _ (by omega), e4, bind_some']
      cases s.all signB && wellB s
      · rfl
      · rw [if_neg (by simp)]
        show iteB false _ _ = _
        rw [iteB_f]
        by_cases h3 : ((s.getD 0 0).toNat : Int) = 47
        · rw [if_pos h3]
          show iteB (((s.getD 0 0).toNat : Int) == 47) _ _ = _
          rw [show (((s.getD 0 0).toNat : Int) == 47) = true by rw [beq_iff_eq]; exact h3, iteB_t]
        · rw [if_neg h3]
          show iteB (((s.getD 0 0).toNat : Int) == 47) _ _ = _
          rw [show (((s.getD 0 0).toNat : Int) == 47) = false by rw [beq_eq_false_iff_ne]; exact h3, iteB_f]
          cases (splitB 47 s).any dotB <;> rfl
theorem ev_rO2 (L : List (List UInt8)) (hl : L.length ≤ 1000000) : ∀ (d i : Nat), i + d = L.length → Ev (fun k => F16_L2 k L (i : Int)) (if (L.drop i).any dotB = true then 3 else 0) := by
  intro d
  induction d with
  | zero =>
    intro i hi
    rw [List.drop_of_length_le (by omega)]
    refine Ev.step (Ev.pure.congr fun k => ?_)
    rw [F16_L2, decide_eq_false (by omega), iteB_f]; rfl
  | succ d ih =>
    intro i hi
    have w1 : IntKind.wrap .i64 ((i : Int) + 1) = ((i + 1 : Nat) : Int) := by rw [w64 (by omega)]; omega
    rw [drop_cons L i default (by omega), List.any_cons]
    obtain ⟨N1, k1⟩ := ih (i + 1) (by omega)
    refine Ev.step ⟨N1, fun n hn => ?_⟩
    have e1 : F16_L2 n L ((i + 1 : Nat) : Int) = some (if (L.drop (i + 1)).any dotB = true then 3 else 0) := k1 n hn
    show F16_L2 (n + 1) L (i : Int) = _
    rw [F16_L2, decide_eq_true (by omega), iteB_t, grd_t _ (by omega), toNat_nat, w1, e1, grd_t _ (by omega)]
    unfold dotB
    cases (L.getD i default == [46])
    · cases (L.getD i default == [46, 46])
      · rfl
      · rfl
    · rfl
theorem ev_rO1 (s : List UInt8) (h0 : 1 ≤ s.length) (hs : s.length ≤ 64) : ∀ (d i : Nat), i + d = s.length → Ev (fun k => F16_L1 k s (i : Int)) (if (s.drop i).all signB = false then 2 else if ((s.getD 0 0).toNat : Int) = 47 then 3 else if (splitB 47 s).any dotB = true then 3 else 0) := by
  intro d
  induction d with
  | zero =>
    intro i hi
    rw [List.drop_of_length_le (by omega), if_neg (by simp)]
    have hc := split_count 47 s
    obtain ⟨N1, k1⟩ := ev_parts 47 47 rfl s (by omega)
    obtain ⟨N2, k2⟩ := ev_rO2 (splitB 47 s) (by omega) (splitB 47 s).length 0 (by omega)
    refine Ev.step ⟨N1 + N2, fun n hn => ?_⟩
    have e1 : F25 n s 47 = some (splitB 47 s) := k1 n (by omega)
    have e2 : F16_L2 n (splitB 47 s) 0 = some (if (splitB 47 s).any dotB = true then 3 else 0) := k2 n (by omega)
    show F16_L1 (n + 1) s (i : Int) = _
    rw [F16_L1, decide_eq_false (by omega), iteB_f, e1, bind_some', grd_t _ (by omega), e2]
    show iteB (((s.getD 0 0).toNat : Int) == 47) _ _ = _
    by_cases h3 : ((s.getD 0 0).toNat : Int) = 47
    · rw [if_pos h3, show (((s.getD 0 0).toNat : Int) == 47) = true by rw [beq_iff_eq]; exact h3, iteB_t]
    · rw [if_neg h3, show (((s.getD 0 0).toNat : Int) == 47) = false by rw [beq_eq_false_iff_ne]; exact h3, iteB_f]
  | succ d ih =>
    intro i hi
    have w1 : IntKind.wrap .i64 ((i : Int) + 1) = ((i + 1 : Nat) : Int) := by rw [w64 (by omega)]; omega
    have e := ih (i + 1) (by omega)
    rw [drop_cons s i 0 (by omega), List.all_cons]
    generalize hc : s.getD i 0 = c at *
    by_cases h1 : (c.toNat : Int) < 32
    · have hb : signB c = false := by unfold signB; rw [decide_eq_true h1]; rfl
      rw [hb, Bool.false_and, if_pos rfl]
      refine Ev.step (Ev.pure.congr fun k => ?_)
      rw [F16_L1, decide_eq_true (by omega), iteB_t, grd_t _ (by omega), toNat_nat, hc, decide_eq_true h1, iteB_t]
    · by_cases h2 : ((c.toNat : Int) == 127) = true
      · have hb : signB c = false := by unfold signB; rw [decide_eq_false h1, h2]; rfl
        rw [hb, Bool.false_and, if_pos rfl]
        refine Ev.step (Ev.pure.congr fun k => ?_)
        rw [F16_L1, decide_eq_true (by omega), iteB_t, grd_t _ (by omega), toNat_nat, hc, decide_eq_false h1, iteB_f, grd_t _ (by omega), h2, iteB_t]
      · rw [Bool.not_eq_true] at h2
        have hb : signB c = true := by unfold signB; rw [decide_eq_false h1, h2]; rfl
        rw [hb, Bool.true_and]
        refine Ev.step (e.congr fun k => ?_)
        rw [F16_L1, decide_eq_true (by omega), iteB_t, grd_t _ (by omega), toNat_nat, hc, decide_eq_false h1, iteB_f, grd_t _ (by omega), h2, iteB_f, w1]
theorem ev_rObject (s : List UInt8) : Ev (fun k => F16 k s) (objT s) := by
  unfold objT
  by_cases h1 : s.length < 1
  · rw [if_pos h1]
    refine Ev.pure.congr fun k => ?_
    rw [F16, decide_eq_true (by omega), iteB_t]
  · rw [if_neg h1]
    by_cases h2 : 64 < s.length
    · rw [if_pos h2]
      refine Ev.pure.congr fun k => ?_
      rw [F16, decide_eq_false (by omega), iteB_f, decide_eq_true (by omega), iteB_t]
    · rw [if_neg h2]
      obtain ⟨N1, k1⟩ := ev_rCount s (by omega)
      obtain ⟨N2, k2⟩ := ev_rO1 s (by omega) (by omega) s.length 0 (by omega)
      refine ⟨N1 + N2, fun n hn => ?_⟩
      have e1 : F31 n s = some (countU 0 (ints s)) := k1 n (by omega)
      have e2 : F16_L1 n s 0 = some (if s.all signB = false then 2 else if ((s.getD 0 0).toNat : Int) = 47 then 3 else if (splitB 47 s).any dotB = true then 3 else 0) := k2 n (by omega)
      show F16 n s = _
      rw [F16, decide_eq_false (by omega), iteB_f, decide_eq_false (by omega), iteB_f, e1, bind_some', e2]
      unfold wellB
      by_cases hw : (0 : Int) ≤ countU 0 (ints s)
      · rw [decide_eq_true hw, Bool.and_true, decide_eq_false (by omega), iteB_f]
      · rw [decide_eq_false hw, Bool.and_false, if_pos rfl, decide_eq_true (by omega), iteB_t]
theorem dots_edge : bucketT ([97, 46, 46, 98] : List UInt8) = 3 := by decide +kernel
theorem law_J (s : List UInt8) (hs : s.length ≤ 1000) : Ev (fun k => F6_J1 k s) true := by
  obtain ⟨N1, k1⟩ := ev_nSplit s (by omega)
  obtain ⟨N2, k2⟩ := ev_rSplit s (by omega)
  obtain ⟨N3, k3⟩ := ev_Bucket s
  obtain ⟨N4, k4⟩ := ev_rBucket s
  obtain ⟨N5, k5⟩ := ev_Object s
  obtain ⟨N6, k6⟩ := ev_rObject s
  obtain ⟨N7, k7⟩ := ev_Address s (by omega)
  obtain ⟨N8, k8⟩ := ev_rAddress s (by omega)
  obtain ⟨N9, k9⟩ := ev_Bucket ([97, 46, 46, 98] : List UInt8)
  refine ⟨N1 + N2 + N3 + N4 + N5 + N6 + N7 + N8 + N9, fun n hn => ?_⟩
  have e1 : F11 n s = some (nameT s) := k1 n (by omega)
  have e2 : F13 n s = some (nameT s) := k2 n (by omega)
  have e3 : F9 n s = some (bucketT s) := k3 n (by omega)
  have e4 : F14 n s = some (bucketT s) := k4 n (by omega)
  have e5 : F15 n s = some (objT s) := k5 n (by omega)
  have e6 : F16 n s = some (objT s) := k6 n (by omega)
  have e7 : F8 n s = some (addrB (splitB 46 s)) := k7 n (by omega)
  have e8 : F17 n s = some (addrB (splitB 46 s)) := k8 n (by omega)
  have e9 : F9 n ([97, 46, 46, 98] : List UInt8) = some 3 := by rw [← dots_edge]; exact k9 n (by omega)
  show F6_J1 n s = _
  rw [F6_J1, e1, bind_some', e2, bind_some', e3, bind_some', e4, bind_some', e5, e6, e7, e8, e9]
  simp only [bind_some', beq_self_eq_true, iteB_t]
theorem law_main (v0 : List UInt8) (h0 : okT9 v0) : ∃ n, F6 n v0 = some true := by
  by_cases h : (1000 : Int) < (v0.length : Int)
  · obtain ⟨N, hN⟩ := law_J (v0.take 1000) (by rw [List.length_take]; omega)
    refine ⟨N, ?_⟩
    rw [F6, decide_eq_true h, iteB_t, grd_t _ (by omega)]
    exact hN N (Nat.le_refl _)
  · obtain ⟨N, hN⟩ := law_J v0 (by omega)
    refine ⟨N, ?_⟩
    rw [F6, decide_eq_false h, iteB_f]
    exact hN N (Nat.le_refl _)
end Go.Proofs.YtdfghdppbfabfaaDoorX

set_option linter.unusedVariables false
namespace Go.Proofs.YtdfghdppbfabfaaDoorX
open Go Go.RowKit Go.Proofs
set_option maxRecDepth 100000
theorem shapedRow (xs : List T) (h : ShapesW Tryd.prog [9] xs) : FnC Tryd.prog 6 xs (tb true) := shapedNameTells law_main xs h
end Go.Proofs.YtdfghdppbfabfaaDoorX
namespace Go.Proofs.YtdfghdppbfabfaaDoor.nameTells
open Go.ChangeShapes Go.WideShapes Go.ChangeAt Go.RowKit
set_option linter.unusedVariables false
theorem own : ownKnob Tryd.prog.godebug = none := by kernel_rfl
set_option maxRecDepth 100000 in
theorem lifted (os : Os) (started : os.Started) (H : Type) (enc : TypeId × Value → H) :
    ReturnsInHanded {} Tryd.checked os 6 .any (fun w args => (Rows.nameTellsSpec.pre enc Tryd.prog Tryd.f6 [] false w args ∧ laidMetH Tryd.prog Rows.nameTellsRow.laid w) ∧ sizedMet enc Tryd.prog Tryd.f6 (OpenSpec.ofChange Rows.nameTellsSpec) false w args) (Rows.nameTellsSpec.post enc Tryd.prog Tryd.f6 false true false false) := by
  refine returnsInHanded_of_change_and (C := Tryd.checked) (X := fun w _ => laidMetH Tryd.prog Rows.nameTellsRow.laid w) (fun _ _ _ hh h => h.of_heap hh) own started (by kernel_rfl) Tryd.func6
    (ChangeSpec.witness_shaped (enc := enc) (C := Tryd.checked) (os := os) (X := fun w _ => laidMetH Tryd.prog Rows.nameTellsRow.laid w) false (World.laidAll Tryd.prog os Rows.nameTellsRow.laid) #[.string ByteArray.empty] 8 (World.laidAll_os _ _ _)
      (World.shaped_of_ZipB (by kernel_rfl) (by kernel_rfl)) (by kernel_rfl) (by kernel_rfl) (by kernel_rfl)
      (by rw [MakeChecks.laidMetH_plain _ _ _ (by kernel_rfl)]; exact laidMet_laidAll _ (by kernel_rfl) (by kernel_rfl))) ?_
  intro W base args ds gs before hval0 hW _ _ hL _
  exact YtdfghdppbfabfaaDoorX.row_contract (P := Tryd.prog) (fn := Tryd.f6) (s := Rows.nameTellsSpec) (ts := [9]) (tb := 4) (L := [9]) (by kernel_rfl) (by kernel_rfl) (by kernel_rfl) (by kernel_rfl) (by kernel_rfl) (by kernel_rfl) rfl
    (fun H ds h => by
      match ds, h with
      | [d0], _ => rfl) YtdfghdppbfabfaaDoorX.shapedRow W base args ds gs before hval0 hW
theorem over : Rows.nameTellsRow.holds Tryd.pinned (OpenSpec.ofChange Rows.nameTellsSpec) :=
  OpenClaim.holds_of_wide 6 Tryd.f6 rfl rfl rfl rfl rfl rfl rfl ⟨rfl, rfl, rfl, rfl, rfl⟩ rfl rfl rfl rfl rfl (by kernel_rfl) Tryd.func6 (by kernel_rfl)
    (of_decide_eq_true (by kernel_rfl)) (by unfold Func.isWrapper; first | (rw [if_pos (by decide +kernel)]; kernel_rfl) | (rw [if_neg (by decide +kernel)]; exact ⟨rfl, rfl⟩))
    (fun os started H enc _ => lifted os started H enc)
theorem proved : Rows.NameTellsCardSaid :=
  Claim7.holds_tied_plain_at .later [] [.data, .pinned] true (true, "7ec3118e6db71b0d7c646cd0fd907a77b45a7e87d06668d1fb80d0317d1d006b") false
    over (fun _ h => by cases h) (by kernel_rfl) (fun _ h => by cases h) nameTells_row_tie rfl ⟨rfl, rfl⟩ (by kernel_rfl) rfl
    (fun f fn hf hfn => by
      obtain rfl : f = 6 := Option.some.inj ((show Tryd.prog.funcNamed "shadowbox/shadowboxlaw27.NameTells" = some 6 by kernel_rfl).symm.trans hf) |>.symm
      obtain rfl : fn = Tryd.f6 := (Option.some.inj (Tryd.func6.symm.trans hfn)).symm
      exact ⟨by kernel_rfl, fun j t ht => by
        rw [Tryd.params6] at ht
        have hm : t ∈ [9] := by simpa using Array.mem_of_getElem? ht
        have hall : ([9].all fun u => !Tryd.prog.wantsStandIn u) = true := by kernel_rfl
        exact (show Tryd.prog.wantsStandIn t = false by simpa using List.all_eq_true.1 hall t hm)⟩)
    (by kernel_rfl)
#print axioms proved
end Go.Proofs.YtdfghdppbfabfaaDoor.nameTells
namespace Go.Proofs.YtdfghdppbfabfaaDoor
/-- The card, under a short name, for the claim. -/
theorem nameTells_holds : Rows.NameTellsCardSaid := nameTells.proved
end Go.Proofs.YtdfghdppbfabfaaDoor
