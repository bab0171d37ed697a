/- Part of the proof of HeaderTags: walks and plain words, merged. -/
import Derived.Test.YtbdkofondpalpaaDoorBHeaderTagsc
import Derived.Test.YtbdkofondpalpaaDoorBHeaderTagsb
import Derived.Handed
import Derived.Test.YtbdkofondpalpaaDoorRows
import Derived.Test.YtbdkofondpalpaaDoorCards
import Derived.Test.YtbdkofondpalpaaDoorTie
import Derived.Test.YtbdkofondpalpaaDoorChecked
import Derived.WalkKit
import Derived.ProofKit
import Derived.OpenShut
import Derived.Lay
import Derived.LaidMore
import Derived.LaidOnce
import Derived.SevenTiedAt
set_option linter.unusedVariables false
set_option linter.unusedSimpArgs false

set_option linter.unusedVariables false
set_option linter.unusedSimpArgs false
namespace Go.Proofs.YtbdkofondpalpaaDoorX
open Go Go.RowKit Go.Proofs
set_option maxRecDepth 100000
attribute [local go_sem ↓] stepsK_build stepsK_build0 stepsK_bs stepsK_bs0 appendS
attribute [local go_sem] String.reduceEq String.reduceNe reduceCtorEq Int.reduceEq Nat.reduceAdd Nat.reduceSub Nat.reduceMul Nat.reduceLT Nat.reduceLeDiff Nat.reduceEqDiff Nat.reduceBEq Int.reduceToNat Int.reduceLT Int.reduceLE Int.reduceGT Int.reduceGE Int.reduceAdd Int.reduceSub Int.reduceMul Int.reduceNeg Int.reduceBEq Int.reduceBNe Int.reducePow Int.reduceDiv Int.reduceMod Int.reduceTDiv Int.reduceTMod Int.reduceNatCast
/-! ### header.Words -/
def F25_S1 (v1 : List (List UInt8)) (x2 : Int) (x3 : List (List UInt8)) : St := ⟨[.junk, .junk, .junk, .rsl 0 1 0 x3.length, .junk, .junk, .junk, .sl 1 false (List.map eS v1), .imm (.int .i64 (v1.length : Int)), .imm (.int .i64 x2), .junk, .junk, .junk, .junk, .junk, .junk, .junk, .junk, .junk, .junk, .junk, .junk, .junk], [some (.buf 9 1 (List.map eS x3) 0)]⟩
def F25_L1 : Nat → (List (List UInt8)) → (Int) → (List (List UInt8)) → Option (List (List UInt8))
  | 0, _, _, _ => none
  | m1 + 1, v1, x2, x3 => iteB (decide (x2 < (v1.length : Int))) (grd (0 ≤ x2 ∧ x2 < (v1.length : Int)) ((F34 m1 (v1.getD x2.toNat default) ([32, 9] : List UInt8)).bind fun v6 => iteB (!(v6 == [])) (grd ((x3.length + 1) ≤ 549755813888) (F25_L1 m1 v1 (IntKind.wrap .i64 (x2 + (1 : Int))) (x3 ++ [v6]))) (F25_L1 m1 v1 (IntKind.wrap .i64 (x2 + (1 : Int))) x3))) (some x3)
def F25 (n : Nat) (a0 : List UInt8) : Option (List (List UInt8)) := (F48 n a0 ([44] : List UInt8)).bind fun v1 => F25_L1 n v1 (0 : Int) []
set_option maxHeartbeats 4000000 in
theorem F25_ok : ∀ (n : Nat) (a0 : List UInt8) (r : List (List UInt8)), F25 n a0 = some r → FnC Tryd.prog 25 [.imm (.string (bs a0))] (.sl 1 false (List.map eS r))
  | n, a0, r, h => by
    unfold F25 at h
    refine FnC.goX mixed Tryd.func25 (by kernel_rfl) rfl ?_
    simp only [Tryd.ntmps25, List.length_cons, List.length_nil, List.replicate, List.cons_append, List.nil_append, Nat.reduceAdd, Nat.reduceSub]
    refine runX_seq ?_
    refine runX_regionC fun C hC => ?_
    try simp -implicitDefEqProofs (maxSteps := 4000000) (disch := first | omega | decide | (simp only [go_sem]; omega)) only [go_sem, ↓reduceIte]
    repeat (with_reducible refine And.intro (by first | assumption | omega | (simp; done) | (simp; omega)) ?_)
    refine toEnd hC ?_
    refine endX_seq ?_
    refine runX_seq ?_
    refine runX_regionC fun C hC => ?_
    try simp -implicitDefEqProofs (maxSteps := 4000000) (disch := first | omega | decide | (simp only [go_sem]; omega)) only [go_sem, ↓reduceIte]
    repeat (with_reducible refine And.intro (by first | assumption | omega | (simp; done) | (simp; omega)) ?_)
    refine toEnd hC ?_
    refine endX_seq ?_
    refine runX_seq ?_
    refine runX_seq ?_
    refine runX_regionC fun C hC => ?_
    obtain ⟨v1, h1, h⟩ := bnd_some h
    try simp -implicitDefEqProofs (maxSteps := 4000000) (disch := first | omega | decide | (simp only [go_sem]; omega)) only [go_sem, ↓reduceIte]
    repeat (with_reducible refine And.intro (by first | assumption | omega | (simp; done) | (simp; omega)) ?_)
    refine callG_X (by first | rfl | (simp only [go_sem]; done) | (simp only [closedL, closedT, Bool.and_true]; exact closedL_map _ (fun _ => by first | rfl | (simp only [go_sem]; done)) _)) (F48_ok n a0 ([44] : List UInt8) _ h1) (by repeat (first | exact leL_refl _ | refine leL_cons (by first | exact leT_refl _ | exact leT_virt | exact leT_junk _ | exact leT_sl | exact leT_sln | exact leT_nil) ?_)) ?_
    try simp -implicitDefEqProofs (maxSteps := 4000000) (disch := first | omega | decide | (simp only [go_sem]; omega)) only [go_sem, ↓reduceIte]
    repeat (with_reducible refine And.intro (by first | assumption | omega | (simp; done) | (simp; omega)) ?_)
    refine toEnd hC ?_
    refine endX_seq ?_
    refine runX_block ?_
    refine runX_loop [3, 7, 8, 9] (fun m S => ∃ (x2 : Int) (x3 : List (List UInt8)), S = F25_S1 v1 x2 x3 ∧ m ≤ n ∧ F25_L1 m v1 x2 x3 = some r) n ⟨F25_S1 v1 (0 : Int) [], ?_, (0 : Int), [], rfl, Nat.le_refl _, h⟩ ?_
    · (try simp -implicitDefEqProofs (maxSteps := 4000000) (disch := first | omega | decide | (simp only [go_sem]; omega)) only [go_sem, ↓reduceIte])
      simp only [F25_S1]
      refine leS_trans (leS_pad _ _ 1) ?_
      simp only [List.replicate, List.cons_append, List.nil_append]
      refine leS_virt 0 9 1 rfl ?_ ?_ rfl
      · repeat (first | exact leL_refl _ | refine leL_cons (by first | exact leT_refl _ | exact leT_virt | exact leT_junk _ | exact leT_sl | exact leT_sln | exact leT_nil) ?_)
      · repeat (first | exact leOs_refl _ | refine leOs.cons (by first | exact leO.same _ | (refine leO.box (leT_agg (by repeat (first | exact leL_refl _ | refine leL_cons (by first | exact leT_refl _ | exact leT_virt | exact leT_junk _ | exact leT_sl | exact leT_sln | exact leT_nil) ?_))) rfl)) ?_)
    · clear h
      rintro m1 S ⟨x2, x3, rfl, hm1, h⟩
      cases m1 with
      | zero => first | cases (show (none : Option _) = some _ from h) | (rw [F25_L1] at h; cases h)
      | succ m1 =>
        rw [F25_L1] at h
        simp only [F25_S1]
        refine runX_seq ?_
        refine runX_regionC fun C hC => ?_
        try simp -implicitDefEqProofs (maxSteps := 4000000) (disch := first | omega | decide | (simp only [go_sem]; omega)) only [go_sem, ↓reduceIte]
        repeat (with_reducible refine And.intro (by first | assumption | omega | (simp; done) | (simp; omega)) ?_)
        refine toEnd hC ?_
        refine endX_seq ?_
        refine runX_seq ?_
        rcases iteB_some h with ⟨c4, h⟩ | ⟨c4, h⟩
        · refine runX_condT rfl c4 ?_
          refine runX_skip ?_
          refine endX_seq ?_
          refine runX_seq ?_
          refine runX_block ?_
          refine runX_seq ?_
          refine runX_regionC fun C hC => ?_
          obtain ⟨g5, h⟩ := grd_some h
          try simp -implicitDefEqProofs (maxSteps := 4000000) (disch := first | omega | decide | (simp only [go_sem]; omega)) only [go_sem, ↓reduceIte]
          repeat (with_reducible refine And.intro (by first | assumption | omega | (simp; done) | (simp; omega)) ?_)
          refine toEnd hC ?_
          refine endX_seq ?_
          refine runX_seq ?_
          refine runX_regionC fun C hC => ?_
          obtain ⟨v6, h6, h⟩ := bnd_some h
          try simp -implicitDefEqProofs (maxSteps := 4000000) (disch := first | omega | decide | (simp only [go_sem]; omega)) only [go_sem, ↓reduceIte]
          repeat (with_reducible refine And.intro (by first | assumption | omega | (simp; done) | (simp; omega)) ?_)
          refine callG_X (by first | rfl | (simp only [go_sem]; done) | (simp only [closedL, closedT, Bool.and_true]; exact closedL_map _ (fun _ => by first | rfl | (simp only [go_sem]; done)) _)) (F34_ok m1 (v1.getD x2.toNat default) ([32, 9] : List UInt8) _ h6) (by repeat (first | exact leL_refl _ | refine leL_cons (by first | exact leT_refl _ | exact leT_virt | exact leT_junk _ | exact leT_sl | exact leT_sln | exact leT_nil) ?_)) ?_
          try simp -implicitDefEqProofs (maxSteps := 4000000) (disch := first | omega | decide | (simp only [go_sem]; omega)) only [go_sem, ↓reduceIte]
          repeat (with_reducible refine And.intro (by first | assumption | omega | (simp; done) | (simp; omega)) ?_)
          refine toEnd hC ?_
          refine endX_seq ?_
          refine runX_seq ?_
          refine runX_regionC fun C hC => ?_
          try simp -implicitDefEqProofs (maxSteps := 4000000) (disch := first | omega | decide | (simp only [go_sem]; omega)) only [go_sem, ↓reduceIte]
          repeat (with_reducible refine And.intro (by first | assumption | omega | (simp; done) | (simp; omega)) ?_)
          refine toEnd hC ?_
          refine endX_seq ?_
          rcases iteB_some h with ⟨c7, h⟩ | ⟨c7, h⟩
          · refine runX_condT rfl c7 ?_
            refine runX_regionC fun C hC => ?_
            try simp -implicitDefEqProofs (maxSteps := 4000000) (disch := first | omega | decide | (simp only [go_sem]; omega)) only [go_sem, ↓reduceIte]
            repeat (with_reducible refine And.intro (by first | assumption | omega | (simp; done) | (simp; omega)) ?_)
            refine bs_go <| buildX_val ?_
            obtain ⟨g8, h⟩ := grd_some h
            try simp -implicitDefEqProofs (maxSteps := 4000000) (disch := first | omega | decide | (simp only [go_sem]; omega)) only [go_sem, ↓reduceIte]
            repeat (with_reducible refine And.intro (by first | assumption | omega | (simp; done) | (simp; omega)) ?_)
            refine toEnd hC ?_
            refine endX_blk ?_
            refine endX_seq ?_
            refine runX_regionC fun C hC => ?_
            try simp -implicitDefEqProofs (maxSteps := 4000000) (disch := first | omega | decide | (simp only [go_sem]; omega)) only [go_sem, ↓reduceIte]
            repeat (with_reducible refine And.intro (by first | assumption | omega | (simp; done) | (simp; omega)) ?_)
            refine toEnd hC ?_
            refine endX_q (roundQ_normal ⟨m1, by omega, F25_S1 v1 (IntKind.wrap .i64 (x2 + (1 : Int))) (x3 ++ [v6]), ?_, (IntKind.wrap .i64 (x2 + (1 : Int))), (x3 ++ [v6]), rfl, by omega, h⟩)
            simp only [F25_S1]
            (try simp -implicitDefEqProofs (maxSteps := 4000000) (disch := first | omega | decide | (simp only [go_sem]; omega)) only [go_sem, ↓reduceIte])
            first | exact leS_refl _ | (refine leS_le ?_ ?_ <;> first | exact leL_refl _ | exact leOs_refl _ | (repeat (first | exact leL_refl _ | refine leL_cons (by first | exact leT_refl _ | exact leT_virt | exact leT_junk _ | exact leT_sl | exact leT_sln | exact leT_nil) ?_)))
          · refine runX_condF rfl c7 ?_
            refine runX_skip ?_
            refine endX_blk ?_
            refine endX_seq ?_
            refine runX_regionC fun C hC => ?_
            try simp -implicitDefEqProofs (maxSteps := 4000000) (disch := first | omega | decide | (simp only [go_sem]; omega)) only [go_sem, ↓reduceIte]
            repeat (with_reducible refine And.intro (by first | assumption | omega | (simp; done) | (simp; omega)) ?_)
            refine toEnd hC ?_
            refine endX_q (roundQ_normal ⟨m1, by omega, F25_S1 v1 (IntKind.wrap .i64 (x2 + (1 : Int))) x3, ?_, (IntKind.wrap .i64 (x2 + (1 : Int))), x3, rfl, by omega, h⟩)
            simp only [F25_S1]
            (try simp -implicitDefEqProofs (maxSteps := 4000000) (disch := first | omega | decide | (simp only [go_sem]; omega)) only [go_sem, ↓reduceIte])
            first | exact leS_refl _ | (refine leS_le ?_ ?_ <;> first | exact leL_refl _ | exact leOs_refl _ | (repeat (first | exact leL_refl _ | refine leL_cons (by first | exact leT_refl _ | exact leT_virt | exact leT_junk _ | exact leT_sl | exact leT_sln | exact leT_nil) ?_)))
        · refine runX_condF rfl c4 ?_
          refine runX_exit ?_
          refine endX_seqE ?_
          refine endX_q (roundQ_exit ?_)
          refine endX_blkE ?_
          refine endX_seq ?_
          refine runX_seq ?_
          refine runX_regionC fun C hC => ?_
          try simp -implicitDefEqProofs (maxSteps := 4000000) (disch := first | omega | decide | (simp only [go_sem]; omega)) only [go_sem, ↓reduceIte]
          repeat (with_reducible refine And.intro (by first | assumption | omega | (simp; done) | (simp; omega)) ?_)
          refine toEnd hC ?_
          refine endX_seq ?_
          refine runX_ret ?_
          refine endX_q ?_
          obtain rfl := Option.some.inj h
          show RetW _ _ _ _ _
          simp only [RetW]
          (try simp -implicitDefEqProofs (maxSteps := 4000000) (disch := first | omega | decide | (simp only [go_sem]; omega)) only [go_sem, ↓reduceIte])
          (try simp (disch := omega) only [if_pos, Nat.sub_zero])
          exact leT_refl _
end Go.Proofs.YtbdkofondpalpaaDoorX

set_option linter.unusedVariables false
set_option linter.unusedSimpArgs false
namespace Go.Proofs.YtbdkofondpalpaaDoorX
open Go Go.RowKit Go.Proofs
set_option maxRecDepth 100000
attribute [local go_sem ↓] stepsK_build stepsK_build0 stepsK_bs stepsK_bs0 appendS
attribute [local go_sem] String.reduceEq String.reduceNe reduceCtorEq Int.reduceEq Nat.reduceAdd Nat.reduceSub Nat.reduceMul Nat.reduceLT Nat.reduceLeDiff Nat.reduceEqDiff Nat.reduceBEq Int.reduceToNat Int.reduceLT Int.reduceLE Int.reduceGT Int.reduceGE Int.reduceAdd Int.reduceSub Int.reduceMul Int.reduceNeg Int.reduceBEq Int.reduceBNe Int.reducePow Int.reduceDiv Int.reduceMod Int.reduceTDiv Int.reduceTMod Int.reduceNatCast
/-! ### shadowboxref30.Words -/
def F26_S1 (a0 : List UInt8) (x1 : List UInt8) (x2 : Int) (x3 : List (List UInt8)) : St := ⟨[.imm (.string (bs a0)), .junk, .junk, .rsl 0 1 0 x3.length, .imm (.string (bs x1)), .imm (.int .i64 x2), .junk, .junk, .junk, .junk, .junk, .junk, .junk, .junk, .junk, .junk, .junk, .junk, .junk, .junk, .junk, .junk, .junk, .junk, .junk, .junk, .junk, .junk, .junk, .junk, .junk, .junk, .junk, .junk, .junk, .junk, .junk, .junk], [some (.buf 9 1 (List.map eS x3) 0)]⟩
def F26_L1 : Nat → (List UInt8) → (List UInt8) → (Int) → (List (List UInt8)) → Option (List (List UInt8))
  | 0, _, _, _, _ => none
  | m1 + 1, a0, x1, x2, x3 => iteB (decide (x2 ≤ (a0.length : Int))) (iteB (decide (x2 < (a0.length : Int))) (grd (0 ≤ x2 ∧ x2 < (a0.length : Int)) (iteB (((a0.getD x2.toNat 0).toNat : Int) != (44 : Int)) (grd (0 ≤ x2 ∧ x2 ≤ (IntKind.wrap .i64 (x2 + (1 : Int))) ∧ (IntKind.wrap .i64 (x2 + (1 : Int))) ≤ (a0.length : Int)) (grd (x1.length + ((a0.take (IntKind.wrap .i64 (x2 + (1 : Int))).toNat).drop x2.toNat).length ≤ 9223372036854775807) (F26_L1 m1 a0 (x1 ++ ((a0.take (IntKind.wrap .i64 (x2 + (1 : Int))).toNat).drop x2.toNat)) (IntKind.wrap .i64 (x2 + (1 : Int))) x3))) ((F40 m1 x1).bind fun v10 => iteB (!(v10 == [])) ((F40 m1 x1).bind fun v12 => grd ((x3.length + 1) ≤ 549755813888) (F26_L1 m1 a0 [] (IntKind.wrap .i64 (x2 + (1 : Int))) (x3 ++ [v12]))) (F26_L1 m1 a0 [] (IntKind.wrap .i64 (x2 + (1 : Int))) x3)))) ((F40 m1 x1).bind fun v14 => iteB (!(v14 == [])) ((F40 m1 x1).bind fun v16 => grd ((x3.length + 1) ≤ 549755813888) (F26_L1 m1 a0 [] (IntKind.wrap .i64 (x2 + (1 : Int))) (x3 ++ [v16]))) (F26_L1 m1 a0 [] (IntKind.wrap .i64 (x2 + (1 : Int))) x3))) (some x3)
def F26 (n : Nat) (a0 : List UInt8) : Option (List (List UInt8)) := F26_L1 n a0 [] (0 : Int) []
set_option maxHeartbeats 4000000 in
theorem F26_ok : ∀ (n : Nat) (a0 : List UInt8) (r : List (List UInt8)), F26 n a0 = some r → FnC Tryd.prog 26 [.imm (.string (bs a0))] (.sl 1 false (List.map eS r))
  | n, a0, r, h => by
    unfold F26 at h
    refine FnC.goX mixed Tryd.func26 (by kernel_rfl) rfl ?_
    simp only [Tryd.ntmps26, List.length_cons, List.length_nil, List.replicate, List.cons_append, List.nil_append, Nat.reduceAdd, Nat.reduceSub]
    refine runX_seq ?_
    refine runX_regionC fun C hC => ?_
    try simp -implicitDefEqProofs (maxSteps := 4000000) (disch := first | omega | decide | (simp only [go_sem]; omega)) only [go_sem, ↓reduceIte]
    repeat (with_reducible refine And.intro (by first | assumption | omega | (simp; done) | (simp; omega)) ?_)
    refine toEnd hC ?_
    refine endX_seq ?_
    refine runX_seq ?_
    refine runX_regionC fun C hC => ?_
    try simp -implicitDefEqProofs (maxSteps := 4000000) (disch := first | omega | decide | (simp only [go_sem]; omega)) only [go_sem, ↓reduceIte]
    repeat (with_reducible refine And.intro (by first | assumption | omega | (simp; done) | (simp; omega)) ?_)
    refine toEnd hC ?_
    refine endX_seq ?_
    refine runX_seq ?_
    refine runX_regionC fun C hC => ?_
    try simp -implicitDefEqProofs (maxSteps := 4000000) (disch := first | omega | decide | (simp only [go_sem]; omega)) only [go_sem, ↓reduceIte]
    repeat (with_reducible refine And.intro (by first | assumption | omega | (simp; done) | (simp; omega)) ?_)
    refine toEnd hC ?_
    refine endX_seq ?_
    refine runX_seq ?_
    refine runX_seq ?_
    refine runX_regionC fun C hC => ?_
    try simp -implicitDefEqProofs (maxSteps := 4000000) (disch := first | omega | decide | (simp only [go_sem]; omega)) only [go_sem, ↓reduceIte]
    repeat (with_reducible refine And.intro (by first | assumption | omega | (simp; done) | (simp; omega)) ?_)
    refine toEnd hC ?_
    refine endX_seq ?_
    refine runX_block ?_
    refine runX_loop [0, 3, 4, 5] (fun m S => ∃ (x1 : List UInt8) (x2 : Int) (x3 : List (List UInt8)), S = F26_S1 a0 x1 x2 x3 ∧ m ≤ n ∧ F26_L1 m a0 x1 x2 x3 = some r) n ⟨F26_S1 a0 [] (0 : Int) [], ?_, [], (0 : Int), [], rfl, Nat.le_refl _, h⟩ ?_
    · (try simp -implicitDefEqProofs (maxSteps := 4000000) (disch := first | omega | decide | (simp only [go_sem]; omega)) only [go_sem, ↓reduceIte])
      simp only [F26_S1]
      refine leS_trans (leS_pad _ _ 1) ?_
      simp only [List.replicate, List.cons_append, List.nil_append]
      refine leS_virt 0 9 1 rfl ?_ ?_ rfl
      · repeat (first | exact leL_refl _ | refine leL_cons (by first | exact leT_refl _ | exact leT_virt | exact leT_junk _ | exact leT_sl | exact leT_sln | exact leT_nil) ?_)
      · repeat (first | exact leOs_refl _ | refine leOs.cons (by first | exact leO.same _ | (refine leO.box (leT_agg (by repeat (first | exact leL_refl _ | refine leL_cons (by first | exact leT_refl _ | exact leT_virt | exact leT_junk _ | exact leT_sl | exact leT_sln | exact leT_nil) ?_))) rfl)) ?_)
    · clear h
      rintro m1 S ⟨x1, x2, x3, rfl, hm1, h⟩
      cases m1 with
      | zero => first | cases (show (none : Option _) = some _ from h) | (rw [F26_L1] at h; cases h)
      | succ m1 =>
        rw [F26_L1] at h
        simp only [F26_S1]
        refine runX_seq ?_
        refine runX_seq ?_
        refine runX_regionC fun C hC => ?_
        try simp -implicitDefEqProofs (maxSteps := 4000000) (disch := first | omega | decide | (simp only [go_sem]; omega)) only [go_sem, ↓reduceIte]
        repeat (with_reducible refine And.intro (by first | assumption | omega | (simp; done) | (simp; omega)) ?_)
        refine toEnd hC ?_
        refine endX_seq ?_
        rcases iteB_some h with ⟨c4, h⟩ | ⟨c4, h⟩
        · refine runX_condT rfl c4 ?_
          refine runX_skip ?_
          refine endX_seq ?_
          refine runX_seq ?_
          refine runX_block ?_
          refine runX_seq ?_
          refine runX_seq ?_
          refine runX_regionC fun C hC => ?_
          try simp -implicitDefEqProofs (maxSteps := 4000000) (disch := first | omega | decide | (simp only [go_sem]; omega)) only [go_sem, ↓reduceIte]
          repeat (with_reducible refine And.intro (by first | assumption | omega | (simp; done) | (simp; omega)) ?_)
          rcases iteB_some h with ⟨c5, h⟩ | ⟨c5, h⟩
          · refine guardK_T c5 ?_
            obtain ⟨g6, h⟩ := grd_some h
            try simp -implicitDefEqProofs (maxSteps := 4000000) (disch := first | omega | decide | (simp only [go_sem]; omega)) only [go_sem, ↓reduceIte]
            repeat (with_reducible refine And.intro (by first | assumption | omega | (simp; done) | (simp; omega)) ?_)
            refine toEnd hC ?_
            refine endX_seq ?_
            rcases iteB_some h with ⟨c7, h⟩ | ⟨c7, h⟩
            · refine runX_condT rfl c7 ?_
              refine runX_seq ?_
              refine runX_regionC fun C hC => ?_
              obtain ⟨g8, h⟩ := grd_some h
              obtain ⟨g9, h⟩ := grd_some h
              try simp -implicitDefEqProofs (maxSteps := 4000000) (disch := first | omega | decide | (simp only [go_sem]; omega)) only [go_sem, ↓reduceIte]
              repeat (with_reducible refine And.intro (by first | assumption | omega | (simp; done) | (simp; omega)) ?_)
              refine toEnd hC ?_
              refine endX_seq ?_
              refine runX_exit ?_
              refine endX_seqE ?_
              refine endX_blkE ?_
              refine endX_seq ?_
              refine runX_regionC fun C hC => ?_
              try simp -implicitDefEqProofs (maxSteps := 4000000) (disch := first | omega | decide | (simp only [go_sem]; omega)) only [go_sem, ↓reduceIte]
              repeat (with_reducible refine And.intro (by first | assumption | omega | (simp; done) | (simp; omega)) ?_)
              refine toEnd hC ?_
              refine endX_q (roundQ_normal ⟨m1, by omega, F26_S1 a0 (x1 ++ ((a0.take (IntKind.wrap .i64 (x2 + (1 : Int))).toNat).drop x2.toNat)) (IntKind.wrap .i64 (x2 + (1 : Int))) x3, ?_, (x1 ++ ((a0.take (IntKind.wrap .i64 (x2 + (1 : Int))).toNat).drop x2.toNat)), (IntKind.wrap .i64 (x2 + (1 : Int))), x3, rfl, by omega, h⟩)
              simp only [F26_S1]
              (try simp -implicitDefEqProofs (maxSteps := 4000000) (disch := first | omega | decide | (simp only [go_sem]; omega)) only [go_sem, ↓reduceIte])
              first | exact leS_refl _ | (refine leS_le ?_ ?_ <;> first | exact leL_refl _ | exact leOs_refl _ | (repeat (first | exact leL_refl _ | refine leL_cons (by first | exact leT_refl _ | exact leT_virt | exact leT_junk _ | exact leT_sl | exact leT_sln | exact leT_nil) ?_)))
            · refine runX_condF rfl c7 ?_
              refine runX_skip ?_
              refine endX_seq ?_
              refine runX_seq ?_
              refine runX_seq ?_
              refine runX_regionC fun C hC => ?_
              obtain ⟨v10, h10, h⟩ := bnd_some h
              try simp -implicitDefEqProofs (maxSteps := 4000000) (disch := first | omega | decide | (simp only [go_sem]; omega)) only [go_sem, ↓reduceIte]
              repeat (with_reducible refine And.intro (by first | assumption | omega | (simp; done) | (simp; omega)) ?_)
              refine callG_X (by first | rfl | (simp only [go_sem]; done) | (simp only [closedL, closedT, Bool.and_true]; exact closedL_map _ (fun _ => by first | rfl | (simp only [go_sem]; done)) _)) (F40_ok m1 x1 _ h10) (by repeat (first | exact leL_refl _ | refine leL_cons (by first | exact leT_refl _ | exact leT_virt | exact leT_junk _ | exact leT_sl | exact leT_sln | exact leT_nil) ?_)) ?_
              try simp -implicitDefEqProofs (maxSteps := 4000000) (disch := first | omega | decide | (simp only [go_sem]; omega)) only [go_sem, ↓reduceIte]
              repeat (with_reducible refine And.intro (by first | assumption | omega | (simp; done) | (simp; omega)) ?_)
              refine toEnd hC ?_
              refine endX_seq ?_
              rcases iteB_some h with ⟨c11, h⟩ | ⟨c11, h⟩
              · refine runX_condT rfl c11 ?_
                refine runX_regionC fun C hC => ?_
                obtain ⟨v12, h12, h⟩ := bnd_some h
                try simp -implicitDefEqProofs (maxSteps := 4000000) (disch := first | omega | decide | (simp only [go_sem]; omega)) only [go_sem, ↓reduceIte]
                repeat (with_reducible refine And.intro (by first | assumption | omega | (simp; done) | (simp; omega)) ?_)
                refine callG_X (by first | rfl | (simp only [go_sem]; done) | (simp only [closedL, closedT, Bool.and_true]; exact closedL_map _ (fun _ => by first | rfl | (simp only [go_sem]; done)) _)) (F40_ok m1 x1 _ h12) (by repeat (first | exact leL_refl _ | refine leL_cons (by first | exact leT_refl _ | exact leT_virt | exact leT_junk _ | exact leT_sl | exact leT_sln | exact leT_nil) ?_)) ?_
                try simp -implicitDefEqProofs (maxSteps := 4000000) (disch := first | omega | decide | (simp only [go_sem]; omega)) only [go_sem, ↓reduceIte]
                repeat (with_reducible refine And.intro (by first | assumption | omega | (simp; done) | (simp; omega)) ?_)
                refine bs_go <| buildX_val ?_
                obtain ⟨g13, h⟩ := grd_some h
                try simp -implicitDefEqProofs (maxSteps := 4000000) (disch := first | omega | decide | (simp only [go_sem]; omega)) only [go_sem, ↓reduceIte]
                repeat (with_reducible refine And.intro (by first | assumption | omega | (simp; done) | (simp; omega)) ?_)
                refine toEnd hC ?_
                refine endX_seq ?_
                refine runX_regionC fun C hC => ?_
                try simp -implicitDefEqProofs (maxSteps := 4000000) (disch := first | omega | decide | (simp only [go_sem]; omega)) only [go_sem, ↓reduceIte]
                repeat (with_reducible refine And.intro (by first | assumption | omega | (simp; done) | (simp; omega)) ?_)
                refine toEnd hC ?_
                refine endX_blk ?_
                refine endX_seq ?_
                refine runX_regionC fun C hC => ?_
                try simp -implicitDefEqProofs (maxSteps := 4000000) (disch := first | omega | decide | (simp only [go_sem]; omega)) only [go_sem, ↓reduceIte]
                repeat (with_reducible refine And.intro (by first | assumption | omega | (simp; done) | (simp; omega)) ?_)
                refine toEnd hC ?_
                refine endX_q (roundQ_normal ⟨m1, by omega, F26_S1 a0 [] (IntKind.wrap .i64 (x2 + (1 : Int))) (x3 ++ [v12]), ?_, [], (IntKind.wrap .i64 (x2 + (1 : Int))), (x3 ++ [v12]), rfl, by omega, h⟩)
                simp only [F26_S1]
                (try simp -implicitDefEqProofs (maxSteps := 4000000) (disch := first | omega | decide | (simp only [go_sem]; omega)) only [go_sem, ↓reduceIte])
                first | exact leS_refl _ | (refine leS_le ?_ ?_ <;> first | exact leL_refl _ | exact leOs_refl _ | (repeat (first | exact leL_refl _ | refine leL_cons (by first | exact leT_refl _ | exact leT_virt | exact leT_junk _ | exact leT_sl | exact leT_sln | exact leT_nil) ?_)))
              · refine runX_condF rfl c11 ?_
                refine runX_skip ?_
                refine endX_seq ?_
                refine runX_regionC fun C hC => ?_
                try simp -implicitDefEqProofs (maxSteps := 4000000) (disch := first | omega | decide | (simp only [go_sem]; omega)) only [go_sem, ↓reduceIte]
                repeat (with_reducible refine And.intro (by first | assumption | omega | (simp; done) | (simp; omega)) ?_)
                refine toEnd hC ?_
                refine endX_blk ?_
                refine endX_seq ?_
                refine runX_regionC fun C hC => ?_
                try simp -implicitDefEqProofs (maxSteps := 4000000) (disch := first | omega | decide | (simp only [go_sem]; omega)) only [go_sem, ↓reduceIte]
                repeat (with_reducible refine And.intro (by first | assumption | omega | (simp; done) | (simp; omega)) ?_)
                refine toEnd hC ?_
                refine endX_q (roundQ_normal ⟨m1, by omega, F26_S1 a0 [] (IntKind.wrap .i64 (x2 + (1 : Int))) x3, ?_, [], (IntKind.wrap .i64 (x2 + (1 : Int))), x3, rfl, by omega, h⟩)
                simp only [F26_S1]
                (try simp -implicitDefEqProofs (maxSteps := 4000000) (disch := first | omega | decide | (simp only [go_sem]; omega)) only [go_sem, ↓reduceIte])
                first | exact leS_refl _ | (refine leS_le ?_ ?_ <;> first | exact leL_refl _ | exact leOs_refl _ | (repeat (first | exact leL_refl _ | refine leL_cons (by first | exact leT_refl _ | exact leT_virt | exact leT_junk _ | exact leT_sl | exact leT_sln | exact leT_nil) ?_)))
          · refine guardK_F c5 ?_
            try simp -implicitDefEqProofs (maxSteps := 4000000) (disch := first | omega | decide | (simp only [go_sem]; omega)) only [go_sem, ↓reduceIte]
            repeat (with_reducible refine And.intro (by first | assumption | omega | (simp; done) | (simp; omega)) ?_)
            refine toEnd hC ?_
            refine endX_seq ?_
            refine runX_condF rfl rfl ?_
            refine runX_skip ?_
            refine endX_seq ?_
            refine runX_seq ?_
            refine runX_seq ?_
            refine runX_regionC fun C hC => ?_
            obtain ⟨v14, h14, h⟩ := bnd_some h
            try simp -implicitDefEqProofs (maxSteps := 4000000) (disch := first | omega | decide | (simp only [go_sem]; omega)) only [go_sem, ↓reduceIte]
            repeat (with_reducible refine And.intro (by first | assumption | omega | (simp; done) | (simp; omega)) ?_)
            refine callG_X (by first | rfl | (simp only [go_sem]; done) | (simp only [closedL, closedT, Bool.and_true]; exact closedL_map _ (fun _ => by first | rfl | (simp only [go_sem]; done)) _)) (F40_ok m1 x1 _ h14) (by repeat (first | exact leL_refl _ | refine leL_cons (by first | exact leT_refl _ | exact leT_virt | exact leT_junk _ | exact leT_sl | exact leT_sln | exact leT_nil) ?_)) ?_
            try simp -implicitDefEqProofs (maxSteps := 4000000) (disch := first | omega | decide | (simp only [go_sem]; omega)) only [go_sem, ↓reduceIte]
            repeat (with_reducible refine And.intro (by first | assumption | omega | (simp; done) | (simp; omega)) ?_)
            refine toEnd hC ?_
            refine endX_seq ?_
            rcases iteB_some h with ⟨c15, h⟩ | ⟨c15, h⟩
            · refine runX_condT rfl c15 ?_
              refine runX_regionC fun C hC => ?_
              obtain ⟨v16, h16, h⟩ := bnd_some h
              try simp -implicitDefEqProofs (maxSteps := 4000000) (disch := first | omega | decide | (simp only [go_sem]; omega)) only [go_sem, ↓reduceIte]
              repeat (with_reducible refine And.intro (by first | assumption | omega | (simp; done) | (simp; omega)) ?_)
              refine callG_X (by first | rfl | (simp only [go_sem]; done) | (simp only [closedL, closedT, Bool.and_true]; exact closedL_map _ (fun _ => by first | rfl | (simp only [go_sem]; done)) _)) (F40_ok m1 x1 _ h16) (by repeat (first | exact leL_refl _ | refine leL_cons (by first | exact leT_refl _ | exact leT_virt | exact leT_junk _ | exact leT_sl | exact leT_sln | exact leT_nil) ?_)) ?_
              try simp -implicitDefEqProofs (maxSteps := 4000000) (disch := first | omega | decide | (simp only [go_sem]; omega)) only [go_sem, ↓reduceIte]
              repeat (with_reducible refine And.intro (by first | assumption | omega | (simp; done) | (simp; omega)) ?_)
              refine bs_go <| buildX_val ?_
              obtain ⟨g17, h⟩ := grd_some h
              try simp -implicitDefEqProofs (maxSteps := 4000000) (disch := first | omega | decide | (simp only [go_sem]; omega)) only [go_sem, ↓reduceIte]
              repeat (with_reducible refine And.intro (by first | assumption | omega | (simp; done) | (simp; omega)) ?_)
              refine toEnd hC ?_
              refine endX_seq ?_
              refine runX_regionC fun C hC => ?_
              try simp -implicitDefEqProofs (maxSteps := 4000000) (disch := first | omega | decide | (simp only [go_sem]; omega)) only [go_sem, ↓reduceIte]
              repeat (with_reducible refine And.intro (by first | assumption | omega | (simp; done) | (simp; omega)) ?_)
              refine toEnd hC ?_
              refine endX_blk ?_
              refine endX_seq ?_
              refine runX_regionC fun C hC => ?_
              try simp -implicitDefEqProofs (maxSteps := 4000000) (disch := first | omega | decide | (simp only [go_sem]; omega)) only [go_sem, ↓reduceIte]
              repeat (with_reducible refine And.intro (by first | assumption | omega | (simp; done) | (simp; omega)) ?_)
              refine toEnd hC ?_
              refine endX_q (roundQ_normal ⟨m1, by omega, F26_S1 a0 [] (IntKind.wrap .i64 (x2 + (1 : Int))) (x3 ++ [v16]), ?_, [], (IntKind.wrap .i64 (x2 + (1 : Int))), (x3 ++ [v16]), rfl, by omega, h⟩)
              simp only [F26_S1]
              (try simp -implicitDefEqProofs (maxSteps := 4000000) (disch := first | omega | decide | (simp only [go_sem]; omega)) only [go_sem, ↓reduceIte])
              first | exact leS_refl _ | (refine leS_le ?_ ?_ <;> first | exact leL_refl _ | exact leOs_refl _ | (repeat (first | exact leL_refl _ | refine leL_cons (by first | exact leT_refl _ | exact leT_virt | exact leT_junk _ | exact leT_sl | exact leT_sln | exact leT_nil) ?_)))
            · refine runX_condF rfl c15 ?_
              refine runX_skip ?_
              refine endX_seq ?_
              refine runX_regionC fun C hC => ?_
              try simp -implicitDefEqProofs (maxSteps := 4000000) (disch := first | omega | decide | (simp only [go_sem]; omega)) only [go_sem, ↓reduceIte]
              repeat (with_reducible refine And.intro (by first | assumption | omega | (simp; done) | (simp; omega)) ?_)
              refine toEnd hC ?_
              refine endX_blk ?_
              refine endX_seq ?_
              refine runX_regionC fun C hC => ?_
              try simp -implicitDefEqProofs (maxSteps := 4000000) (disch := first | omega | decide | (simp only [go_sem]; omega)) only [go_sem, ↓reduceIte]
              repeat (with_reducible refine And.intro (by first | assumption | omega | (simp; done) | (simp; omega)) ?_)
              refine toEnd hC ?_
              refine endX_q (roundQ_normal ⟨m1, by omega, F26_S1 a0 [] (IntKind.wrap .i64 (x2 + (1 : Int))) x3, ?_, [], (IntKind.wrap .i64 (x2 + (1 : Int))), x3, rfl, by omega, h⟩)
              simp only [F26_S1]
              (try simp -implicitDefEqProofs (maxSteps := 4000000) (disch := first | omega | decide | (simp only [go_sem]; omega)) only [go_sem, ↓reduceIte])
              first | exact leS_refl _ | (refine leS_le ?_ ?_ <;> first | exact leL_refl _ | exact leOs_refl _ | (repeat (first | exact leL_refl _ | refine leL_cons (by first | exact leT_refl _ | exact leT_virt | exact leT_junk _ | exact leT_sl | exact leT_sln | exact leT_nil) ?_)))
        · refine runX_condF rfl c4 ?_
          refine runX_exit ?_
          refine endX_seqE ?_
          refine endX_q (roundQ_exit ?_)
          refine endX_blkE ?_
          refine endX_seq ?_
          refine runX_seq ?_
          refine runX_regionC fun C hC => ?_
          try simp -implicitDefEqProofs (maxSteps := 4000000) (disch := first | omega | decide | (simp only [go_sem]; omega)) only [go_sem, ↓reduceIte]
          repeat (with_reducible refine And.intro (by first | assumption | omega | (simp; done) | (simp; omega)) ?_)
          refine toEnd hC ?_
          refine endX_seq ?_
          refine runX_ret ?_
          refine endX_q ?_
          obtain rfl := Option.some.inj h
          show RetW _ _ _ _ _
          simp only [RetW]
          (try simp -implicitDefEqProofs (maxSteps := 4000000) (disch := first | omega | decide | (simp only [go_sem]; omega)) only [go_sem, ↓reduceIte])
          (try simp (disch := omega) only [if_pos, Nat.sub_zero])
          exact leT_refl _
end Go.Proofs.YtbdkofondpalpaaDoorX

set_option linter.unusedVariables false
set_option linter.unusedSimpArgs false
namespace Go.Proofs.YtbdkofondpalpaaDoorX
open Go Go.RowKit Go.Proofs
set_option maxRecDepth 100000
attribute [local go_sem ↓] stepsK_build stepsK_build0 stepsK_bs stepsK_bs0 appendS
attribute [local go_sem] String.reduceEq String.reduceNe reduceCtorEq Int.reduceEq Nat.reduceAdd Nat.reduceSub Nat.reduceMul Nat.reduceLT Nat.reduceLeDiff Nat.reduceEqDiff Nat.reduceBEq Int.reduceToNat Int.reduceLT Int.reduceLE Int.reduceGT Int.reduceGE Int.reduceAdd Int.reduceSub Int.reduceMul Int.reduceNeg Int.reduceBEq Int.reduceBNe Int.reducePow Int.reduceDiv Int.reduceMod Int.reduceTDiv Int.reduceTMod Int.reduceNatCast
/-! ### shadowboxref30.Quote -/
def F27 (n : Nat) (a0 : (Bool) × (List UInt8)) : Option (List UInt8) := grd (1 + a0.2.length ≤ 9223372036854775807) (grd ((a0.2.length + 1) + 1 ≤ 9223372036854775807) (iteB a0.1 (grd (2 + (a0.2.length + 2) ≤ 9223372036854775807) (some (([87, 47] : List UInt8) ++ ((([34] : List UInt8) ++ a0.2) ++ ([34] : List UInt8))))) (some ((([34] : List UInt8) ++ a0.2) ++ ([34] : List UInt8)))))
set_option maxHeartbeats 4000000 in
theorem F27_ok : ∀ (n : Nat) (a0 : (Bool) × (List UInt8)) (r : List UInt8), F27 n a0 = some r → FnC Tryd.prog 27 [.agg [.imm (.bool a0.1), .imm (.string (bs a0.2))]] (.imm (.string (bs r)))
  | n, a0, r, h => by
    unfold F27 at h
    refine FnC.goX mixed Tryd.func27 (by kernel_rfl) rfl ?_
    simp only [Tryd.ntmps27, List.length_cons, List.length_nil, List.replicate, List.cons_append, List.nil_append, Nat.reduceAdd, Nat.reduceSub]
    refine runX_seq ?_
    refine runX_regionC fun C hC => ?_
    try simp -implicitDefEqProofs (maxSteps := 4000000) (disch := first | omega | decide | (simp only [go_sem]; omega)) only [go_sem, ↓reduceIte]
    repeat (with_reducible refine And.intro (by first | assumption | omega | (simp; done) | (simp; omega)) ?_)
    refine toEnd hC ?_
    refine endX_seq ?_
    refine runX_seq ?_
    refine runX_regionC fun C hC => ?_
    obtain ⟨g1, h⟩ := grd_some h
    obtain ⟨g2, h⟩ := grd_some h
    try simp -implicitDefEqProofs (maxSteps := 4000000) (disch := first | omega | decide | (simp only [go_sem]; omega)) only [go_sem, ↓reduceIte]
    repeat (with_reducible refine And.intro (by first | assumption | omega | (simp; done) | (simp; omega)) ?_)
    refine toEnd hC ?_
    refine endX_seq ?_
    refine runX_seq ?_
    refine runX_seq ?_
    refine runX_regionC fun C hC => ?_
    try simp -implicitDefEqProofs (maxSteps := 4000000) (disch := first | omega | decide | (simp only [go_sem]; omega)) only [go_sem, ↓reduceIte]
    repeat (with_reducible refine And.intro (by first | assumption | omega | (simp; done) | (simp; omega)) ?_)
    refine toEnd hC ?_
    refine endX_seq ?_
    rcases iteB_some h with ⟨c3, h⟩ | ⟨c3, h⟩
    · refine runX_condT rfl c3 ?_
      refine runX_seq ?_
      refine runX_regionC fun C hC => ?_
      obtain ⟨g4, h⟩ := grd_some h
      try simp -implicitDefEqProofs (maxSteps := 4000000) (disch := first | omega | decide | (simp only [go_sem]; omega)) only [go_sem, ↓reduceIte]
      repeat (with_reducible refine And.intro (by first | assumption | omega | (simp; done) | (simp; omega)) ?_)
      refine toEnd hC ?_
      refine endX_seq ?_
      refine runX_ret ?_
      refine endX_seqR ?_
      refine endX_q ?_
      obtain rfl := Option.some.inj h
      show RetW _ _ _ _ _
      simp only [RetW]
      (try simp -implicitDefEqProofs (maxSteps := 4000000) (disch := first | omega | decide | (simp only [go_sem]; omega)) only [go_sem, ↓reduceIte])
      (try simp (disch := omega) only [if_pos, Nat.sub_zero])
      exact leT_refl _
    · refine runX_condF rfl c3 ?_
      refine runX_skip ?_
      refine endX_seq ?_
      refine runX_seq ?_
      refine runX_regionC fun C hC => ?_
      try simp -implicitDefEqProofs (maxSteps := 4000000) (disch := first | omega | decide | (simp only [go_sem]; omega)) only [go_sem, ↓reduceIte]
      repeat (with_reducible refine And.intro (by first | assumption | omega | (simp; done) | (simp; omega)) ?_)
      refine toEnd hC ?_
      refine endX_seq ?_
      refine runX_ret ?_
      refine endX_q ?_
      obtain rfl := Option.some.inj h
      show RetW _ _ _ _ _
      simp only [RetW]
      (try simp -implicitDefEqProofs (maxSteps := 4000000) (disch := first | omega | decide | (simp only [go_sem]; omega)) only [go_sem, ↓reduceIte])
      (try simp (disch := omega) only [if_pos, Nat.sub_zero])
      exact leT_refl _
end Go.Proofs.YtbdkofondpalpaaDoorX

set_option linter.unusedVariables false
set_option linter.unusedSimpArgs false
namespace Go.Proofs.YtbdkofondpalpaaDoorX
open Go Go.RowKit Go.Proofs
set_option maxRecDepth 100000
attribute [local go_sem ↓] stepsK_build stepsK_build0 stepsK_bs stepsK_bs0 appendS
attribute [local go_sem] String.reduceEq String.reduceNe reduceCtorEq Int.reduceEq Nat.reduceAdd Nat.reduceSub Nat.reduceMul Nat.reduceLT Nat.reduceLeDiff Nat.reduceEqDiff Nat.reduceBEq Int.reduceToNat Int.reduceLT Int.reduceLE Int.reduceGT Int.reduceGE Int.reduceAdd Int.reduceSub Int.reduceMul Int.reduceNeg Int.reduceBEq Int.reduceBNe Int.reducePow Int.reduceDiv Int.reduceMod Int.reduceTDiv Int.reduceTMod Int.reduceNatCast
/-! ### shadowboxlaw30.HeaderTags -/
def F6_S2 (v4 : List (List UInt8)) (v5 : List (List UInt8)) (x18 : Int) : St := ⟨[.junk, .junk, .junk, .junk, .junk, .junk, .junk, .junk, .junk, .junk, .junk, .sl 1 false (List.map eS v4), .sl 1 false (List.map eS v5), .junk, .imm (.int .i64 x18), .junk, .junk, .junk, .junk, .junk, .junk, .junk, .junk, .junk, .junk, .junk, .junk, .junk, .junk, .junk, .junk, .junk, .junk, .junk, .junk, .junk, .junk, .junk, .junk, .junk, .junk, .junk, .junk, .junk, .junk, .junk, .junk, .junk, .junk, .junk, .junk, .junk, .junk, .junk, .junk, .junk, .junk, .junk, .junk, .junk, .junk, .junk, .junk, .junk, .junk, .junk, .junk, .junk, .junk, .junk, .junk, .junk, .junk, .junk, .junk, .junk, .junk, .junk, .junk, .junk, .junk, .junk, .junk, .junk, .junk, .junk, .junk, .junk, .junk, .junk, .junk, .junk, .junk, .junk, .junk, .junk, .junk, .junk, .junk, .junk, .junk, .junk, .junk, .junk, .junk, .junk, .junk, .junk, .junk], []⟩
def F6_S1 (v2 : (List ((Bool) × (List UInt8))) × (Bool) × (Bool)) (v3 : (List ((Bool) × (List UInt8))) × (Bool) × (Bool)) (v4 : List (List UInt8)) (v5 : List (List UInt8)) (x13 : Int) : St := ⟨[.junk, .junk, .junk, .junk, .junk, .sl 2 false (List.map eT23 v2.1), .junk, .junk, .sl 2 false (List.map eT23 v3.1), .junk, .junk, .sl 1 false (List.map eS v4), .sl 1 false (List.map eS v5), .imm (.int .i64 x13), .junk, .junk, .junk, .junk, .junk, .junk, .junk, .junk, .junk, .junk, .junk, .junk, .junk, .junk, .junk, .junk, .junk, .junk, .junk, .junk, .junk, .junk, .junk, .junk, .junk, .junk, .junk, .junk, .junk, .junk, .junk, .junk, .junk, .junk, .junk, .junk, .junk, .junk, .junk, .junk, .junk, .junk, .junk, .junk, .junk, .junk, .junk, .junk, .junk, .junk, .junk, .junk, .junk, .junk, .junk, .junk, .junk, .junk, .junk, .junk, .junk, .junk, .junk, .junk, .junk, .junk, .junk, .junk, .junk, .junk, .junk, .junk, .junk, .junk, .junk, .junk, .junk, .junk, .junk, .junk, .junk, .junk, .junk, .junk, .junk, .junk, .junk, .junk, .junk, .junk, .junk, .junk, .junk, .junk, .junk], []⟩
mutual
def F6_L2 : Nat → (List (List UInt8)) → (List (List UInt8)) → (Int) → Option (Bool)
  | 0, _, _, _ => none
  | m2 + 1, v4, v5, x18 => iteB (decide (x18 < (v4.length : Int))) (grd (0 ≤ x18 ∧ x18 < (v4.length : Int)) (grd (0 ≤ x18 ∧ x18 < (v5.length : Int)) (iteB (!((v4.getD x18.toNat default) == (v5.getD x18.toNat default))) (some false) (F6_L2 m2 v4 v5 (IntKind.wrap .i64 (x18 + (1 : Int))))))) ((F12 m2 ([32, 42, 32] : List UInt8)).bind fun v23 => iteB v23.2.1 (some v23.2.2) (some false))
def F6_L1 : Nat → ((List ((Bool) × (List UInt8))) × (Bool) × (Bool)) → ((List ((Bool) × (List UInt8))) × (Bool) × (Bool)) → (List (List UInt8)) → (List (List UInt8)) → (Int) → Option (Bool)
  | 0, _, _, _, _, _ => none
  | m1 + 1, v2, v3, v4, v5, x13 => iteB (decide (x13 < (v2.1.length : Int))) (grd (0 ≤ x13 ∧ x13 < (v2.1.length : Int)) (grd (0 ≤ x13 ∧ x13 < (v3.1.length : Int)) (iteB (!((((v2.1.getD x13.toNat default).1) == ((v3.1.getD x13.toNat default).1)) && (((v2.1.getD x13.toNat default).2) == ((v3.1.getD x13.toNat default).2)))) (some false) (F6_L1 m1 v2 v3 v4 v5 (IntKind.wrap .i64 (x13 + (1 : Int))))))) (F6_L2 m1 v4 v5 (0 : Int))
end
def F6 (n : Nat) (a0 : List UInt8) (a1 : (Bool) × (List UInt8)) : Option (Bool) := iteB (decide ((900 : Int) < (IntKind.wrap .i64 ((a0.length : Int) + (a1.2.length : Int))))) (some true) ((F12 n a0).bind fun v2 => (F24 n a0).bind fun v3 => (F25 n a0).bind fun v4 => (F26 n a0).bind fun v5 => iteB (!(v2.2.1 == v3.2.1)) (some false) (iteB (!(v2.2.2 == v3.2.2)) (some false) (iteB ((v2.1.length : Int) != (v3.1.length : Int)) (some false) (iteB ((v4.length : Int) != (v5.length : Int)) (some false) ((F11 n (a1.1, a1.2)).bind fun v10 => (F27 n (a1.1, a1.2)).bind fun v11 => iteB (!(v10 == v11)) (some false) (F6_L1 n v2 v3 v4 v5 (0 : Int)))))))
set_option maxHeartbeats 4000000 in
theorem F6_ok : ∀ (n : Nat) (a0 : List UInt8) (a1 : (Bool) × (List UInt8)) (r : Bool), F6 n a0 a1 = some r → FnC Tryd.prog 6 [.imm (.string (bs a0)), .agg [.imm (.bool a1.1), .imm (.string (bs a1.2))]] (.imm (.bool r))
  | n, a0, a1, r, h => by
    unfold F6 at h
    refine FnC.goX mixed Tryd.func6 (by kernel_rfl) rfl ?_
    simp only [Tryd.ntmps6, List.length_cons, List.length_nil, List.replicate, List.cons_append, List.nil_append, Nat.reduceAdd, Nat.reduceSub]
    refine runX_seq ?_
    refine runX_regionC fun C hC => ?_
    try simp -implicitDefEqProofs (maxSteps := 4000000) (disch := first | omega | decide | (simp only [go_sem]; omega)) only [go_sem, ↓reduceIte]
    repeat (with_reducible refine And.intro (by first | assumption | omega | (simp; done) | (simp; omega)) ?_)
    refine toEnd hC ?_
    refine endX_seq ?_
    refine runX_seq ?_
    refine runX_seq ?_
    refine runX_regionC fun C hC => ?_
    try simp -implicitDefEqProofs (maxSteps := 4000000) (disch := first | omega | decide | (simp only [go_sem]; omega)) only [go_sem, ↓reduceIte]
    repeat (with_reducible refine And.intro (by first | assumption | omega | (simp; done) | (simp; omega)) ?_)
    refine toEnd hC ?_
    refine endX_seq ?_
    rcases iteB_some h with ⟨c1, h⟩ | ⟨c1, h⟩
    · refine runX_condT rfl c1 ?_
      refine runX_seq ?_
      refine runX_regionC fun C hC => ?_
      try simp -implicitDefEqProofs (maxSteps := 4000000) (disch := first | omega | decide | (simp only [go_sem]; omega)) only [go_sem, ↓reduceIte]
      repeat (with_reducible refine And.intro (by first | assumption | omega | (simp; done) | (simp; omega)) ?_)
      refine toEnd hC ?_
      refine endX_seq ?_
      refine runX_ret ?_
      refine endX_seqR ?_
      refine endX_q ?_
      obtain rfl := Option.some.inj h
      show RetW _ _ _ _ _
      simp only [RetW]
      (try simp -implicitDefEqProofs (maxSteps := 4000000) (disch := first | omega | decide | (simp only [go_sem]; omega)) only [go_sem, ↓reduceIte])
      (try simp (disch := omega) only [if_pos, Nat.sub_zero])
      exact leT_refl _
    · refine runX_condF rfl c1 ?_
      refine runX_skip ?_
      refine endX_seq ?_
      refine runX_seq ?_
      refine runX_regionC fun C hC => ?_
      obtain ⟨v2, h2, h⟩ := bnd_some h
      try simp -implicitDefEqProofs (maxSteps := 4000000) (disch := first | omega | decide | (simp only [go_sem]; omega)) only [go_sem, ↓reduceIte]
      repeat (with_reducible refine And.intro (by first | assumption | omega | (simp; done) | (simp; omega)) ?_)
      refine callG_X (by first | rfl | (simp only [go_sem]; done) | (simp only [closedL, closedT, Bool.and_true]; exact closedL_map _ (fun _ => by first | rfl | (simp only [go_sem]; done)) _)) (F12_ok n a0 _ h2) (by repeat (first | exact leL_refl _ | refine leL_cons (by first | exact leT_refl _ | exact leT_virt | exact leT_junk _ | exact leT_sl | exact leT_sln | exact leT_nil) ?_)) ?_
      try simp -implicitDefEqProofs (maxSteps := 4000000) (disch := first | omega | decide | (simp only [go_sem]; omega)) only [go_sem, ↓reduceIte]
      repeat (with_reducible refine And.intro (by first | assumption | omega | (simp; done) | (simp; omega)) ?_)
      refine toEnd hC ?_
      refine endX_seq ?_
      refine runX_seq ?_
      refine runX_regionC fun C hC => ?_
      obtain ⟨v3, h3, h⟩ := bnd_some h
      try simp -implicitDefEqProofs (maxSteps := 4000000) (disch := first | omega | decide | (simp only [go_sem]; omega)) only [go_sem, ↓reduceIte]
      repeat (with_reducible refine And.intro (by first | assumption | omega | (simp; done) | (simp; omega)) ?_)
      refine callG_X (by first | rfl | (simp only [go_sem]; done) | (simp only [closedL, closedT, Bool.and_true]; exact closedL_map _ (fun _ => by first | rfl | (simp only [go_sem]; done)) _)) (F24_ok n a0 _ h3) (by repeat (first | exact leL_refl _ | refine leL_cons (by first | exact leT_refl _ | exact leT_virt | exact leT_junk _ | exact leT_sl | exact leT_sln | exact leT_nil) ?_)) ?_
      try simp -implicitDefEqProofs (maxSteps := 4000000) (disch := first | omega | decide | (simp only [go_sem]; omega)) only [go_sem, ↓reduceIte]
      repeat (with_reducible refine And.intro (by first | assumption | omega | (simp; done) | (simp; omega)) ?_)
      refine toEnd hC ?_
      refine endX_seq ?_
      refine runX_seq ?_
      refine runX_regionC fun C hC => ?_
      obtain ⟨v4, h4, h⟩ := bnd_some h
      try simp -implicitDefEqProofs (maxSteps := 4000000) (disch := first | omega | decide | (simp only [go_sem]; omega)) only [go_sem, ↓reduceIte]
      repeat (with_reducible refine And.intro (by first | assumption | omega | (simp; done) | (simp; omega)) ?_)
      refine callG_X (by first | rfl | (simp only [go_sem]; done) | (simp only [closedL, closedT, Bool.and_true]; exact closedL_map _ (fun _ => by first | rfl | (simp only [go_sem]; done)) _)) (F25_ok n a0 _ h4) (by repeat (first | exact leL_refl _ | refine leL_cons (by first | exact leT_refl _ | exact leT_virt | exact leT_junk _ | exact leT_sl | exact leT_sln | exact leT_nil) ?_)) ?_
      obtain ⟨v5, h5, h⟩ := bnd_some h
      try simp -implicitDefEqProofs (maxSteps := 4000000) (disch := first | omega | decide | (simp only [go_sem]; omega)) only [go_sem, ↓reduceIte]
      repeat (with_reducible refine And.intro (by first | assumption | omega | (simp; done) | (simp; omega)) ?_)
      refine callG_X (by first | rfl | (simp only [go_sem]; done) | (simp only [closedL, closedT, Bool.and_true]; exact closedL_map _ (fun _ => by first | rfl | (simp only [go_sem]; done)) _)) (F26_ok n a0 _ h5) (by repeat (first | exact leL_refl _ | refine leL_cons (by first | exact leT_refl _ | exact leT_virt | exact leT_junk _ | exact leT_sl | exact leT_sln | exact leT_nil) ?_)) ?_
      try simp -implicitDefEqProofs (maxSteps := 4000000) (disch := first | omega | decide | (simp only [go_sem]; omega)) only [go_sem, ↓reduceIte]
      repeat (with_reducible refine And.intro (by first | assumption | omega | (simp; done) | (simp; omega)) ?_)
      refine toEnd hC ?_
      refine endX_seq ?_
      refine runX_seq ?_
      refine runX_seq ?_
      refine runX_drawC mixed (by kernel_rfl) fun C hC => ?_
      try simp -implicitDefEqProofs (maxSteps := 4000000) (disch := first | omega | decide | (simp only [go_sem]; omega)) only [go_sem, ↓reduceIte]
      repeat (with_reducible refine And.intro (by first | assumption | omega | (simp; done) | (simp; omega)) ?_)
      rcases iteB_some h with ⟨c6, h⟩ | ⟨c6, h⟩
      · refine guardD_F c6 ?_
        try simp -implicitDefEqProofs (maxSteps := 4000000) (disch := first | omega | decide | (simp only [go_sem]; omega)) only [go_sem, ↓reduceIte]
        repeat (with_reducible refine And.intro (by first | assumption | omega | (simp; done) | (simp; omega)) ?_)
        refine toEnd hC ?_
        refine endX_seq ?_
        refine runX_condT rfl rfl ?_
        refine runX_seq ?_
        refine runX_regionC fun C hC => ?_
        try simp -implicitDefEqProofs (maxSteps := 4000000) (disch := first | omega | decide | (simp only [go_sem]; omega)) only [go_sem, ↓reduceIte]
        repeat (with_reducible refine And.intro (by first | assumption | omega | (simp; done) | (simp; omega)) ?_)
        refine toEnd hC ?_
        refine endX_seq ?_
        refine runX_ret ?_
        refine endX_seqR ?_
        refine endX_q ?_
        obtain rfl := Option.some.inj h
        show RetW _ _ _ _ _
        simp only [RetW]
        (try simp -implicitDefEqProofs (maxSteps := 4000000) (disch := first | omega | decide | (simp only [go_sem]; omega)) only [go_sem, ↓reduceIte])
        (try simp (disch := omega) only [if_pos, Nat.sub_zero])
        exact leT_refl _
      · refine guardD_T c6 ?_
        try simp -implicitDefEqProofs (maxSteps := 4000000) (disch := first | omega | decide | (simp only [go_sem]; omega)) only [go_sem, ↓reduceIte]
        repeat (with_reducible refine And.intro (by first | assumption | omega | (simp; done) | (simp; omega)) ?_)
        rcases iteB_some h with ⟨c7, h⟩ | ⟨c7, h⟩
        · refine guardD_F c7 ?_
          try simp -implicitDefEqProofs (maxSteps := 4000000) (disch := first | omega | decide | (simp only [go_sem]; omega)) only [go_sem, ↓reduceIte]
          repeat (with_reducible refine And.intro (by first | assumption | omega | (simp; done) | (simp; omega)) ?_)
          refine toEnd hC ?_
          refine endX_seq ?_
          refine runX_condT rfl rfl ?_
          refine runX_seq ?_
          refine runX_regionC fun C hC => ?_
          try simp -implicitDefEqProofs (maxSteps := 4000000) (disch := first | omega | decide | (simp only [go_sem]; omega)) only [go_sem, ↓reduceIte]
          repeat (with_reducible refine And.intro (by first | assumption | omega | (simp; done) | (simp; omega)) ?_)
          refine toEnd hC ?_
          refine endX_seq ?_
          refine runX_ret ?_
          refine endX_seqR ?_
          refine endX_q ?_
          obtain rfl := Option.some.inj h
          show RetW _ _ _ _ _
          simp only [RetW]
          (try simp -implicitDefEqProofs (maxSteps := 4000000) (disch := first | omega | decide | (simp only [go_sem]; omega)) only [go_sem, ↓reduceIte])
          (try simp (disch := omega) only [if_pos, Nat.sub_zero])
          exact leT_refl _
        · refine guardD_T c7 ?_
          try simp -implicitDefEqProofs (maxSteps := 4000000) (disch := first | omega | decide | (simp only [go_sem]; omega)) only [go_sem, ↓reduceIte]
          repeat (with_reducible refine And.intro (by first | assumption | omega | (simp; done) | (simp; omega)) ?_)
          rcases iteB_some h with ⟨c8, h⟩ | ⟨c8, h⟩
          · refine guardD_F c8 ?_
            try simp -implicitDefEqProofs (maxSteps := 4000000) (disch := first | omega | decide | (simp only [go_sem]; omega)) only [go_sem, ↓reduceIte]
            repeat (with_reducible refine And.intro (by first | assumption | omega | (simp; done) | (simp; omega)) ?_)
            refine toEnd hC ?_
            refine endX_seq ?_
            refine runX_condT rfl rfl ?_
            refine runX_seq ?_
            refine runX_regionC fun C hC => ?_
            try simp -implicitDefEqProofs (maxSteps := 4000000) (disch := first | omega | decide | (simp only [go_sem]; omega)) only [go_sem, ↓reduceIte]
            repeat (with_reducible refine And.intro (by first | assumption | omega | (simp; done) | (simp; omega)) ?_)
            refine toEnd hC ?_
            refine endX_seq ?_
            refine runX_ret ?_
            refine endX_seqR ?_
            refine endX_q ?_
            obtain rfl := Option.some.inj h
            show RetW _ _ _ _ _
            simp only [RetW]
            (try simp -implicitDefEqProofs (maxSteps := 4000000) (disch := first | omega | decide | (simp only [go_sem]; omega)) only [go_sem, ↓reduceIte])
            (try simp (disch := omega) only [if_pos, Nat.sub_zero])
            exact leT_refl _
          · refine guardD_T c8 ?_
            try simp -implicitDefEqProofs (maxSteps := 4000000) (disch := first | omega | decide | (simp only [go_sem]; omega)) only [go_sem, ↓reduceIte]
            repeat (with_reducible refine And.intro (by first | assumption | omega | (simp; done) | (simp; omega)) ?_)
            rcases iteB_some h with ⟨c9, h⟩ | ⟨c9, h⟩
            · refine guardD_F c9 ?_
              try simp -implicitDefEqProofs (maxSteps := 4000000) (disch := first | omega | decide | (simp only [go_sem]; omega)) only [go_sem, ↓reduceIte]
              repeat (with_reducible refine And.intro (by first | assumption | omega | (simp; done) | (simp; omega)) ?_)
              refine toEnd hC ?_
              refine endX_seq ?_
              refine runX_condT rfl rfl ?_
              refine runX_seq ?_
              refine runX_regionC fun C hC => ?_
              try simp -implicitDefEqProofs (maxSteps := 4000000) (disch := first | omega | decide | (simp only [go_sem]; omega)) only [go_sem, ↓reduceIte]
              repeat (with_reducible refine And.intro (by first | assumption | omega | (simp; done) | (simp; omega)) ?_)
              refine toEnd hC ?_
              refine endX_seq ?_
              refine runX_ret ?_
              refine endX_seqR ?_
              refine endX_q ?_
              obtain rfl := Option.some.inj h
              show RetW _ _ _ _ _
              simp only [RetW]
              (try simp -implicitDefEqProofs (maxSteps := 4000000) (disch := first | omega | decide | (simp only [go_sem]; omega)) only [go_sem, ↓reduceIte])
              (try simp (disch := omega) only [if_pos, Nat.sub_zero])
              exact leT_refl _
            · refine guardD_T c9 ?_
              obtain ⟨v10, h10, h⟩ := bnd_some h
              try simp -implicitDefEqProofs (maxSteps := 4000000) (disch := first | omega | decide | (simp only [go_sem]; omega)) only [go_sem, ↓reduceIte]
              repeat (with_reducible refine And.intro (by first | assumption | omega | (simp; done) | (simp; omega)) ?_)
              refine callD_X (F11_ok n (a1.1, a1.2) _ h10) (by repeat (first | exact leL_refl _ | refine leL_cons (by first | exact leT_refl _ | exact leT_virt | exact leT_junk _ | exact leT_sl | exact leT_sln | exact leT_nil) ?_)) ?_
              obtain ⟨v11, h11, h⟩ := bnd_some h
              try simp -implicitDefEqProofs (maxSteps := 4000000) (disch := first | omega | decide | (simp only [go_sem]; omega)) only [go_sem, ↓reduceIte]
              repeat (with_reducible refine And.intro (by first | assumption | omega | (simp; done) | (simp; omega)) ?_)
              refine callD_X (F27_ok n (a1.1, a1.2) _ h11) (by repeat (first | exact leL_refl _ | refine leL_cons (by first | exact leT_refl _ | exact leT_virt | exact leT_junk _ | exact leT_sl | exact leT_sln | exact leT_nil) ?_)) ?_
              try simp -implicitDefEqProofs (maxSteps := 4000000) (disch := first | omega | decide | (simp only [go_sem]; omega)) only [go_sem, ↓reduceIte]
              repeat (with_reducible refine And.intro (by first | assumption | omega | (simp; done) | (simp; omega)) ?_)
              refine toEnd hC ?_
              refine endX_seq ?_
              rcases iteB_some h with ⟨c12, h⟩ | ⟨c12, h⟩
              · refine runX_condT rfl c12 ?_
                refine runX_seq ?_
                refine runX_regionC fun C hC => ?_
                try simp -implicitDefEqProofs (maxSteps := 4000000) (disch := first | omega | decide | (simp only [go_sem]; omega)) only [go_sem, ↓reduceIte]
                repeat (with_reducible refine And.intro (by first | assumption | omega | (simp; done) | (simp; omega)) ?_)
                refine toEnd hC ?_
                refine endX_seq ?_
                refine runX_ret ?_
                refine endX_seqR ?_
                refine endX_q ?_
                obtain rfl := Option.some.inj h
                show RetW _ _ _ _ _
                simp only [RetW]
                (try simp -implicitDefEqProofs (maxSteps := 4000000) (disch := first | omega | decide | (simp only [go_sem]; omega)) only [go_sem, ↓reduceIte])
                (try simp (disch := omega) only [if_pos, Nat.sub_zero])
                exact leT_refl _
              · refine runX_condF rfl c12 ?_
                refine runX_skip ?_
                refine endX_seq ?_
                refine runX_seq ?_
                refine runX_seq ?_
                refine runX_regionC fun C hC => ?_
                try simp -implicitDefEqProofs (maxSteps := 4000000) (disch := first | omega | decide | (simp only [go_sem]; omega)) only [go_sem, ↓reduceIte]
                repeat (with_reducible refine And.intro (by first | assumption | omega | (simp; done) | (simp; omega)) ?_)
                refine toEnd hC ?_
                refine endX_seq ?_
                refine runX_block ?_
                refine runX_loop [5, 8, 11, 12, 13] (fun m S => ∃ (x13 : Int), S = F6_S1 v2 v3 v4 v5 x13 ∧ m ≤ n ∧ F6_L1 m v2 v3 v4 v5 x13 = some r) n ⟨F6_S1 v2 v3 v4 v5 (0 : Int), ?_, (0 : Int), rfl, Nat.le_refl _, h⟩ ?_
                · simp only [F6_S1]
                  (try simp -implicitDefEqProofs (maxSteps := 4000000) (disch := first | omega | decide | (simp only [go_sem]; omega)) only [go_sem, ↓reduceIte])
                  first | exact leS_refl _ | (refine leS_le ?_ ?_ <;> first | exact leL_refl _ | exact leOs_refl _ | (repeat (first | exact leL_refl _ | refine leL_cons (by first | exact leT_refl _ | exact leT_virt | exact leT_junk _ | exact leT_sl | exact leT_sln | exact leT_nil) ?_)))
                · clear h
                  rintro m1 S ⟨x13, rfl, hm1, h⟩
                  cases m1 with
                  | zero => first | cases (show (none : Option _) = some _ from h) | (rw [F6_L1] at h; cases h)
                  | succ m1 =>
                    rw [F6_L1] at h
                    simp only [F6_S1]
                    refine runX_seq ?_
                    refine runX_seq ?_
                    refine runX_regionC fun C hC => ?_
                    try simp -implicitDefEqProofs (maxSteps := 4000000) (disch := first | omega | decide | (simp only [go_sem]; omega)) only [go_sem, ↓reduceIte]
                    repeat (with_reducible refine And.intro (by first | assumption | omega | (simp; done) | (simp; omega)) ?_)
                    refine toEnd hC ?_
                    refine endX_seq ?_
                    rcases iteB_some h with ⟨c14, h⟩ | ⟨c14, h⟩
                    · refine runX_condT rfl c14 ?_
                      refine runX_skip ?_
                      refine endX_seq ?_
                      refine runX_seq ?_
                      refine runX_block ?_
                      refine runX_seq ?_
                      refine runX_drawC mixed (by kernel_rfl) fun C hC => ?_
                      obtain ⟨g15, h⟩ := grd_some h
                      obtain ⟨g16, h⟩ := grd_some h
                      try simp -implicitDefEqProofs (maxSteps := 4000000) (disch := first | omega | decide | (simp only [go_sem]; omega)) only [go_sem, ↓reduceIte]
                      repeat (with_reducible refine And.intro (by first | assumption | omega | (simp; done) | (simp; omega)) ?_)
                      refine toEnd hC ?_
                      refine endX_seq ?_
                      rcases iteB_some h with ⟨c17, h⟩ | ⟨c17, h⟩
                      · refine runX_condT rfl c17 ?_
                        refine runX_seq ?_
                        refine runX_regionC fun C hC => ?_
                        try simp -implicitDefEqProofs (maxSteps := 4000000) (disch := first | omega | decide | (simp only [go_sem]; omega)) only [go_sem, ↓reduceIte]
                        repeat (with_reducible refine And.intro (by first | assumption | omega | (simp; done) | (simp; omega)) ?_)
                        refine toEnd hC ?_
                        refine endX_seq ?_
                        refine runX_ret ?_
                        refine endX_blkR ?_
                        refine endX_seqR ?_
                        refine endX_q (roundQ_ret ?_)
                        refine endX_blkR ?_
                        refine endX_seqR ?_
                        refine endX_q ?_
                        obtain rfl := Option.some.inj h
                        show RetW _ _ _ _ _
                        simp only [RetW]
                        (try simp -implicitDefEqProofs (maxSteps := 4000000) (disch := first | omega | decide | (simp only [go_sem]; omega)) only [go_sem, ↓reduceIte])
                        (try simp (disch := omega) only [if_pos, Nat.sub_zero])
                        exact leT_refl _
                      · refine runX_condF rfl c17 ?_
                        refine runX_skip ?_
                        refine endX_blk ?_
                        refine endX_seq ?_
                        refine runX_regionC fun C hC => ?_
                        try simp -implicitDefEqProofs (maxSteps := 4000000) (disch := first | omega | decide | (simp only [go_sem]; omega)) only [go_sem, ↓reduceIte]
                        repeat (with_reducible refine And.intro (by first | assumption | omega | (simp; done) | (simp; omega)) ?_)
                        refine toEnd hC ?_
                        refine endX_q (roundQ_normal ⟨m1, by omega, F6_S1 v2 v3 v4 v5 (IntKind.wrap .i64 (x13 + (1 : Int))), ?_, (IntKind.wrap .i64 (x13 + (1 : Int))), rfl, by omega, h⟩)
                        simp only [F6_S1]
                        (try simp -implicitDefEqProofs (maxSteps := 4000000) (disch := first | omega | decide | (simp only [go_sem]; omega)) only [go_sem, ↓reduceIte])
                        first | exact leS_refl _ | (refine leS_le ?_ ?_ <;> first | exact leL_refl _ | exact leOs_refl _ | (repeat (first | exact leL_refl _ | refine leL_cons (by first | exact leT_refl _ | exact leT_virt | exact leT_junk _ | exact leT_sl | exact leT_sln | exact leT_nil) ?_)))
                    · refine runX_condF rfl c14 ?_
                      refine runX_exit ?_
                      refine endX_seqE ?_
                      refine endX_q (roundQ_exit ?_)
                      refine endX_blkE ?_
                      refine endX_seq ?_
                      refine runX_seq ?_
                      refine runX_seq ?_
                      refine runX_regionC fun C hC => ?_
                      try simp -implicitDefEqProofs (maxSteps := 4000000) (disch := first | omega | decide | (simp only [go_sem]; omega)) only [go_sem, ↓reduceIte]
                      repeat (with_reducible refine And.intro (by first | assumption | omega | (simp; done) | (simp; omega)) ?_)
                      refine toEnd hC ?_
                      refine endX_seq ?_
                      refine runX_block ?_
                      refine runX_loop [11, 12, 14] (fun m S => ∃ (x18 : Int), S = F6_S2 v4 v5 x18 ∧ m ≤ m1 ∧ F6_L2 m v4 v5 x18 = some r) m1 ⟨F6_S2 v4 v5 (0 : Int), ?_, (0 : Int), rfl, Nat.le_refl _, h⟩ ?_
                      · simp only [F6_S2]
                        (try simp -implicitDefEqProofs (maxSteps := 4000000) (disch := first | omega | decide | (simp only [go_sem]; omega)) only [go_sem, ↓reduceIte])
                        first | exact leS_refl _ | (refine leS_le ?_ ?_ <;> first | exact leL_refl _ | exact leOs_refl _ | (repeat (first | exact leL_refl _ | refine leL_cons (by first | exact leT_refl _ | exact leT_virt | exact leT_junk _ | exact leT_sl | exact leT_sln | exact leT_nil) ?_)))
                      · clear h
                        rintro m2 S ⟨x18, rfl, hm2, h⟩
                        cases m2 with
                        | zero => first | cases (show (none : Option _) = some _ from h) | (rw [F6_L2] at h; cases h)
                        | succ m2 =>
                          rw [F6_L2] at h
                          simp only [F6_S2]
                          refine runX_seq ?_
                          refine runX_seq ?_
                          refine runX_regionC fun C hC => ?_
                          try simp -implicitDefEqProofs (maxSteps := 4000000) (disch := first | omega | decide | (simp only [go_sem]; omega)) only [go_sem, ↓reduceIte]
                          repeat (with_reducible refine And.intro (by first | assumption | omega | (simp; done) | (simp; omega)) ?_)
                          refine toEnd hC ?_
                          refine endX_seq ?_
                          rcases iteB_some h with ⟨c19, h⟩ | ⟨c19, h⟩
                          · refine runX_condT rfl c19 ?_
                            refine runX_skip ?_
                            refine endX_seq ?_
                            refine runX_seq ?_
                            refine runX_block ?_
                            refine runX_seq ?_
                            refine runX_drawC mixed (by kernel_rfl) fun C hC => ?_
                            obtain ⟨g20, h⟩ := grd_some h
                            obtain ⟨g21, h⟩ := grd_some h
                            try simp -implicitDefEqProofs (maxSteps := 4000000) (disch := first | omega | decide | (simp only [go_sem]; omega)) only [go_sem, ↓reduceIte]
                            repeat (with_reducible refine And.intro (by first | assumption | omega | (simp; done) | (simp; omega)) ?_)
                            refine toEnd hC ?_
                            refine endX_seq ?_
                            rcases iteB_some h with ⟨c22, h⟩ | ⟨c22, h⟩
                            · refine runX_condT rfl c22 ?_
                              refine runX_seq ?_
                              refine runX_regionC fun C hC => ?_
                              try simp -implicitDefEqProofs (maxSteps := 4000000) (disch := first | omega | decide | (simp only [go_sem]; omega)) only [go_sem, ↓reduceIte]
                              repeat (with_reducible refine And.intro (by first | assumption | omega | (simp; done) | (simp; omega)) ?_)
                              refine toEnd hC ?_
                              refine endX_seq ?_
                              refine runX_ret ?_
                              refine endX_blkR ?_
                              refine endX_seqR ?_
                              refine endX_q (roundQ_ret ?_)
                              refine endX_blkR ?_
                              refine endX_seqR ?_
                              refine endX_q ?_
                              obtain rfl := Option.some.inj h
                              show RetW _ _ _ _ _
                              simp only [RetW]
                              (try simp -implicitDefEqProofs (maxSteps := 4000000) (disch := first | omega | decide | (simp only [go_sem]; omega)) only [go_sem, ↓reduceIte])
                              (try simp (disch := omega) only [if_pos, Nat.sub_zero])
                              exact leT_refl _
                            · refine runX_condF rfl c22 ?_
                              refine runX_skip ?_
                              refine endX_blk ?_
                              refine endX_seq ?_
                              refine runX_regionC fun C hC => ?_
                              try simp -implicitDefEqProofs (maxSteps := 4000000) (disch := first | omega | decide | (simp only [go_sem]; omega)) only [go_sem, ↓reduceIte]
                              repeat (with_reducible refine And.intro (by first | assumption | omega | (simp; done) | (simp; omega)) ?_)
                              refine toEnd hC ?_
                              refine endX_q (roundQ_normal ⟨m2, by omega, F6_S2 v4 v5 (IntKind.wrap .i64 (x18 + (1 : Int))), ?_, (IntKind.wrap .i64 (x18 + (1 : Int))), rfl, by omega, h⟩)
                              simp only [F6_S2]
                              (try simp -implicitDefEqProofs (maxSteps := 4000000) (disch := first | omega | decide | (simp only [go_sem]; omega)) only [go_sem, ↓reduceIte])
                              first | exact leS_refl _ | (refine leS_le ?_ ?_ <;> first | exact leL_refl _ | exact leOs_refl _ | (repeat (first | exact leL_refl _ | refine leL_cons (by first | exact leT_refl _ | exact leT_virt | exact leT_junk _ | exact leT_sl | exact leT_sln | exact leT_nil) ?_)))
                          · refine runX_condF rfl c19 ?_
                            refine runX_exit ?_
                            refine endX_seqE ?_
                            refine endX_q (roundQ_exit ?_)
                            refine endX_blkE ?_
                            refine endX_seq ?_
                            refine runX_seq ?_
                            refine runX_regionC fun C hC => ?_
                            simp only [runK_region, runK_draw, liteL, liteL2, dstsL, gL, List.getD_cons_zero, List.getD_cons_succ]
                            obtain ⟨v23, h23, h⟩ := bnd_some h
                            try simp -implicitDefEqProofs (maxSteps := 4000000) (disch := first | omega | decide | (simp only [go_sem]; omega)) only [go_sem, ↓reduceIte]
                            repeat (with_reducible refine And.intro (by first | assumption | omega | (simp; done) | (simp; omega)) ?_)
                            refine callG_X (by first | rfl | (simp only [go_sem]; done) | (simp only [closedL, closedT, Bool.and_true]; exact closedL_map _ (fun _ => by first | rfl | (simp only [go_sem]; done)) _)) (F12_ok m2 ([32, 42, 32] : List UInt8) _ h23) (by repeat (first | exact leL_refl _ | refine leL_cons (by first | exact leT_refl _ | exact leT_virt | exact leT_junk _ | exact leT_sl | exact leT_sln | exact leT_nil) ?_)) ?_
                            try simp -implicitDefEqProofs (maxSteps := 4000000) (disch := first | omega | decide | (simp only [go_sem]; omega)) only [go_sem, ↓reduceIte]
                            repeat (with_reducible refine And.intro (by first | assumption | omega | (simp; done) | (simp; omega)) ?_)
                            refine toEnd hC ?_
                            refine endX_seq ?_
                            refine runX_seq ?_
                            refine runX_regionC fun C hC => ?_
                            try simp -implicitDefEqProofs (maxSteps := 4000000) (disch := first | omega | decide | (simp only [go_sem]; omega)) only [go_sem, ↓reduceIte]
                            repeat (with_reducible refine And.intro (by first | assumption | omega | (simp; done) | (simp; omega)) ?_)
                            rcases iteB_some h with ⟨c24, h⟩ | ⟨c24, h⟩
                            · refine guardK_T c24 ?_
                              try simp -implicitDefEqProofs (maxSteps := 4000000) (disch := first | omega | decide | (simp only [go_sem]; omega)) only [go_sem, ↓reduceIte]
                              repeat (with_reducible refine And.intro (by first | assumption | omega | (simp; done) | (simp; omega)) ?_)
                              refine toEnd hC ?_
                              refine endX_seq ?_
                              refine runX_ret ?_
                              refine endX_q ?_
                              obtain rfl := Option.some.inj h
                              show RetW _ _ _ _ _
                              simp only [RetW]
                              (try simp -implicitDefEqProofs (maxSteps := 4000000) (disch := first | omega | decide | (simp only [go_sem]; omega)) only [go_sem, ↓reduceIte])
                              (try simp (disch := omega) only [if_pos, Nat.sub_zero])
                              exact leT_refl _
                            · refine guardK_F c24 ?_
                              try simp -implicitDefEqProofs (maxSteps := 4000000) (disch := first | omega | decide | (simp only [go_sem]; omega)) only [go_sem, ↓reduceIte]
                              repeat (with_reducible refine And.intro (by first | assumption | omega | (simp; done) | (simp; omega)) ?_)
                              refine toEnd hC ?_
                              refine endX_seq ?_
                              refine runX_ret ?_
                              refine endX_q ?_
                              obtain rfl := Option.some.inj h
                              show RetW _ _ _ _ _
                              simp only [RetW]
                              (try simp -implicitDefEqProofs (maxSteps := 4000000) (disch := first | omega | decide | (simp only [go_sem]; omega)) only [go_sem, ↓reduceIte])
                              (try simp (disch := omega) only [if_pos, Nat.sub_zero])
                              exact leT_refl _
end Go.Proofs.YtbdkofondpalpaaDoorX

/- Shapes of arguments, as plain values. Of no program. -/
set_option linter.unusedVariables false
namespace Go.Proofs.YtbdkofondpalpaaDoorX
open Go Go.RowKit
theorem RepR.le {E : Env} {sz : Nat} : ∀ {l l' : List T} {c : List Value}, l.length = l'.length → (∀ i, leT anyE (l.getD i .junk) (l'.getD i .junk)) → RepR E sz l c → RepR E sz l' c
  | [], [], c, _, _, h => h
  | x :: l, y :: l', c, hl, hi, h => by
    simp only [RepR] at h ⊢
    obtain ⟨u, c', h1, h2, h3, h4⟩ := h
    exact ⟨u, c', h1, h2, by simpa using hi 0 E true u trivial (by simpa using h3), RepR.le (by simpa using hl) (fun i => by simpa using hi (i + 1)) h4⟩
  | [], _ :: _, c, hl, _, _ => by simp at hl
  | _ :: _, [], c, hl, _, _ => by simp at hl
theorem leT_slE {sz : Nat} {f : Bool} {l l' : List T} (hl : l.length = l'.length) (h : ∀ i, leT anyE (l.getD i .junk) (l'.getD i .junk)) : leT anyE (.sl sz f l) (.sl sz false l') := fun E cl v hp k => by
  simp only [Rep] at k ⊢
  obtain ⟨a, cap, c, h1, h2, h3, h4, h5⟩ := k
  exact ⟨a, cap, c, by rw [h1, hl], by rw [← hl]; exact h2, (fun h => by cases h), RepR.le hl h h4, h5⟩
theorem elems_shape {α : Type} (enc : α → T) (ok : α → Prop) : ∀ (l : List T), (∀ y ∈ l, ∃ v, leT anyE y (enc v) ∧ ok v) → ∃ vs : List α, vs.length = l.length ∧ (∀ i, leT anyE (l.getD i .junk) ((vs.map enc).getD i .junk)) ∧ ∀ v ∈ vs, ok v
  | [], _ => ⟨[], rfl, fun i => by simp [leT_refl], fun v hv => by simp at hv⟩
  | y :: l, h => by
    obtain ⟨v, h1, h2⟩ := h y (by simp)
    obtain ⟨vs, h3, h4, h5⟩ := elems_shape enc ok l fun z hz => h z (by simp [hz])
    refine ⟨v :: vs, by simp [h3], fun i => ?_, fun w hw => ?_⟩
    · cases i with
      | zero => simpa using h1
      | succ i => simpa using h4 i
    · rcases List.mem_cons.1 hw with rfl | hw
      · exact h2
      · exact h5 w hw
theorem sl_shape {α : Type} (enc : α → T) (ok : α → Prop) (l : List T) (h : ∀ y ∈ l, ∃ v, leT anyE y (enc v) ∧ ok v) {sz : Nat} {f : Bool} : ∃ vs : List α, leT anyE (.sl sz f l) (.sl sz false (vs.map enc)) ∧ vs.length = l.length ∧ ∀ v ∈ vs, ok v := by
  obtain ⟨vs, h1, h2, h3⟩ := elems_shape enc ok l h
  exact ⟨vs, leT_slE (by simp [h1]) h2, h1, h3⟩
theorem arr_shape {α : Type} (enc : α → T) (ok : α → Prop) : ∀ (l : List T), (∀ y ∈ l, ∃ v, y = enc v ∧ T.cells y = [y] ∧ ok v) → ∃ vs : List α, l.flatMap T.cells = vs.map enc ∧ vs.length = l.length ∧ ∀ v ∈ vs, ok v
  | [], _ => ⟨[], rfl, rfl, fun v hv => by simp at hv⟩
  | y :: l, h => by
    obtain ⟨v, rfl, hc, h2⟩ := h y (by simp)
    obtain ⟨vs, h3, h4, h5⟩ := arr_shape enc ok l fun z hz => h z (by simp [hz])
    refine ⟨v :: vs, by rw [List.flatMap_cons, hc, h3]; rfl, by simp [h4], fun w hw => ?_⟩
    rcases List.mem_cons.1 hw with rfl | hw
    · exact h2
    · exact h5 w hw
end Go.Proofs.YtbdkofondpalpaaDoorX

/- What a row's form asks, where the law needs that texts are no longer than a machine has. Of no program. -/
set_option linter.unusedVariables false
set_option linter.unusedSimpArgs false
namespace Go.Proofs.YtbdkofondpalpaaDoorX
open Go Go.RowKit Go.ChangeShapes Go.WideShapes

/-- A text that is an argument, or an element of an array that is one, or a field of a struct that is one. -/
def strIn (P : Program) (t : TypeId) (x : T) (s : ByteArray) : Prop :=
  (P.underlying t = some .string ∧ x = .imm (.string s)) ∨
  (∃ (k : Nat) (e : TypeId) (l : List T) (i : Nat), P.underlying t = some (.array k e) ∧ P.underlying e = some .string ∧ P.cellsOf e = 1 ∧ x = .agg l ∧ i < k ∧ l[i]? = some (.imm (.string s))) ∨
  (∃ (fs : Array Field) (f : Field) (l : List T) (i : Nat), P.underlying t = some (.struct fs) ∧ fs.toList[i]? = some f ∧ P.underlying f.type = some .string ∧ P.cellsOf f.type = 1 ∧ x = .agg l ∧ l[f.offset]? = some (.imm (.string s)))
theorem trodAll_at {H : Type} {enc : TypeId × Value → H} {P : Program} {w : World} {base : Nat} {spare : Nat → Bool} {held : Bool} : ∀ (ts : List TypeId) (vs : List Value) (ds : List (DataW H)) (ps : List MemPlace) (xs : List T),
    DataW.TrodAll enc P w base spare held ts vs ds ps → RepL (E0 w noBan) true xs vs → ∀ (j : Nat) (t : TypeId) (x : T), ts[j]? = some t → xs[j]? = some x →
      ∃ v d p n, ds[j]? = some d ∧ DataW.trod enc P w base spare held n t v.cells.toList = some (d, p) ∧ Rep (E0 w noBan) true x v
  | [], vs, ds, ps, xs, h, hr, j, t, x, ht, hx => by simp at ht
  | t0 :: ts, vs, ds, ps, xs, h, hr, j, t, x, ht, hx => by
    obtain ⟨v, vs', d, ds', p, q, rfl, rfl, rfl, ⟨n, h1⟩, h2⟩ := trodAll_cons h
    cases xs with
    | nil => simp at hx
    | cons x0 xs =>
      simp only [RepL] at hr
      obtain ⟨v', vs'', e, h3, h4⟩ := hr
      obtain ⟨rfl, rfl⟩ := List.cons.inj e
      cases j with
      | zero =>
        simp only [List.getElem?_cons_zero, Option.some.injEq] at ht hx ⊢
        subst ht hx
        exact ⟨v, d, p, n, rfl, h1, h3⟩
      | succ j =>
        simp only [List.getElem?_cons_succ] at ht hx ⊢
        exact trodAll_at ts _ _ _ xs h2 h4 j t x ht hx
theorem weightsAll_mem {H : Type} {P : Program} {e : TypeId} {m : Nat} : ∀ {parts : List (DataW H)} {i : Nat} {d : DataW H}, parts[i]? = some d → m ∈ d.weights P e → m ∈ DataW.weightsAll P e parts
  | [], i, d, h, hm => by simp at h
  | d0 :: r, 0, d, h, hm => by
    simp only [List.getElem?_cons_zero, Option.some.injEq] at h
    subst h
    rw [DataW.weightsAll]; exact List.mem_append_left _ hm
  | d0 :: r, i + 1, d, h, hm => by
    simp only [List.getElem?_cons_succ] at h
    rw [DataW.weightsAll]; exact List.mem_append_right _ (weightsAll_mem h hm)
theorem sized_in {H : Type} {enc : TypeId × Value → H} {P : Program} {w : World} {base : Nat} {spare : Nat → Bool} {held : Bool} {n : Nat} {t : TypeId} {v : Value} {d : DataW H} {p : List MemPlace} {x : T} {s : ByteArray}
    (h1 : DataW.trod enc P w base spare held n t v.cells.toList = some (d, p)) (h3 : Rep (E0 w noBan) true x v) (hs : strIn P t x s) : s.size ∈ d.weights P t := by
  rcases hs with ⟨hu, rfl⟩ | ⟨k, e, l, i, hu, he, hc, rfl, hi, hli⟩ | ⟨fs, f, l, i, hu, hfi, he, hc, rfl, hli⟩
  · simp only [Rep] at h3
    obtain ⟨rfl, _⟩ := h3
    obtain ⟨s', e1, e2, _⟩ := DataW.trod_string hu h1
    have e3 : s' = s := by
      have : ([Value.string s] : List Value) = [.string s'] := e1
      injection this with this _
      injection this with this
      exact this.symm
    subst e3
    have e4 : d = .lit (.string s'.data.toList) := congrArg Prod.fst e2
    rw [e4]
    simp [DataW.weights]
  · simp only [Rep] at h3
    obtain ⟨cs, rfl, hl⟩ := h3
    have hgi := hl.get i undef
    have e1 : l.getD i .junk = .imm (.string s) := by rw [List.getD_eq_getElem?_getD, hli]; rfl
    rw [e1] at hgi
    simp only [Rep] at hgi
    have hlen := hl.length
    have hil : i < cs.toList.length := by rw [hlen]; exact (List.getElem?_eq_some_iff.1 hli).1
    have hcs : cs.toList[i]? = some (.string s) := by
      have := hgi.1
      rw [List.getD_eq_getElem?_getD, List.getElem?_eq_getElem hil] at this
      rw [List.getElem?_eq_getElem hil]
      exact congrArg some this
    cases n with
    | zero => unfold DataW.trod at h1; cases h1
    | succ n =>
    unfold DataW.trod at h1
    rw [hu] at h1
    have h1' : (if cs.toList.length = P.cellsOf t then ((List.range k).mapM fun i => DataW.trod enc P w base spare held n e ((cs.toList.drop (i * P.cellsOf e)).take (P.cellsOf e))).map fun xs => (DataW.agg (xs.map (·.1)), xs.flatMap (·.2)) else none) = some (d, p) := by
      have e0 : (Value.agg cs).cells.toList = cs.toList := rfl
      rw [e0] at h1
      split at h1 <;> simp_all
    clear h1
    split at h1'
    case isFalse => cases h1'
    obtain ⟨xs, hm, hx⟩ := Option.map_eq_some_iff.1 h1'
    simp only [Prod.mk.injEq] at hx
    obtain ⟨rfl, _⟩ := hx
    have hg := mapM_some_get hm i i (List.getElem?_range hi)
    have hxl := mapM_some_length hm
    rw [List.length_range] at hxl
    rw [List.getElem?_eq_getElem (by omega)] at hg
    rw [hc, Nat.mul_one] at hg
    have hone : (cs.toList.drop i).take 1 = [.string s] := by
      rw [List.drop_eq_getElem_cons hil]
      rw [List.getElem?_eq_getElem hil] at hcs
      injection hcs with hcs
      rw [hcs]; rfl
    rw [hone] at hg
    obtain ⟨s', e1, e2, _⟩ := DataW.trod_string he hg
    have e3 : s' = s := by
      injection e1 with e1 _
      injection e1 with e1
      exact e1.symm
    subst e3
    have hu' : (DataW.agg (xs.map (·.1)) : DataW H).weights P t = DataW.weightsAll P e (xs.map (·.1)) := by simp only [DataW.weights, hu]
    rw [hu']
    refine weightsAll_mem (i := i) (d := .lit (.string s'.data.toList)) ?_ (by simp [DataW.weights])
    rw [List.getElem?_map, List.getElem?_eq_getElem (by omega), e2]; rfl
  · simp only [Rep] at h3
    obtain ⟨cs, rfl, hl⟩ := h3
    have hgi := hl.get f.offset undef
    have e1 : l.getD f.offset .junk = .imm (.string s) := by rw [List.getD_eq_getElem?_getD, hli]; rfl
    rw [e1] at hgi
    simp only [Rep] at hgi
    have hlen := hl.length
    have hil : f.offset < cs.toList.length := by rw [hlen]; exact (List.getElem?_eq_some_iff.1 hli).1
    have hcs : cs.toList[f.offset]? = some (.string s) := by
      have := hgi.1
      rw [List.getD_eq_getElem?_getD, List.getElem?_eq_getElem hil] at this
      rw [List.getElem?_eq_getElem hil]
      exact congrArg some this
    cases n with
    | zero => unfold DataW.trod at h1; cases h1
    | succ n =>
    unfold DataW.trod at h1
    rw [hu] at h1
    have h1' : (if cs.toList.length = P.cellsOf t then (fs.toList.mapM fun f => DataW.trod enc P w base spare held n f.type ((cs.toList.drop f.offset).take (P.cellsOf f.type))).map fun xs => (DataW.agg (xs.map (·.1)), xs.flatMap (·.2)) else none) = some (d, p) := by
      have e0 : (Value.agg cs).cells.toList = cs.toList := rfl
      rw [e0] at h1
      split at h1 <;> simp_all
    clear h1
    split at h1'
    case isFalse => cases h1'
    obtain ⟨xs, hm, hx⟩ := Option.map_eq_some_iff.1 h1'
    simp only [Prod.mk.injEq] at hx
    obtain ⟨rfl, _⟩ := hx
    have hg := mapM_some_get hm i f hfi
    have hxl := mapM_some_length hm
    have hif : i < fs.toList.length := (List.getElem?_eq_some_iff.1 hfi).1
    rw [List.getElem?_eq_getElem (by omega)] at hg
    rw [hc] at hg
    have hone : (cs.toList.drop f.offset).take 1 = [.string s] := by
      rw [List.drop_eq_getElem_cons hil]
      rw [List.getElem?_eq_getElem hil] at hcs
      injection hcs with hcs
      rw [hcs]; rfl
    rw [hone] at hg
    obtain ⟨s', e1, e2, _⟩ := DataW.trod_string he hg
    have e3 : s' = s := by
      injection e1 with e1 _
      injection e1 with e1
      exact e1.symm
    subst e3
    have hu' : (DataW.agg (xs.map (·.1)) : DataW H).weights P t = DataW.weightsEach P (fs.toList.map (·.type)) (xs.map (·.1)) := by simp only [DataW.weights, hu]
    rw [hu']
    refine DataW.weights_mem_each (j := i) (t := f.type) (d := .lit (.string s'.data.toList)) (by rw [List.getElem?_map, hfi]; rfl) ?_ _ (by simp [DataW.weights])
    rw [List.getElem?_map, List.getElem?_eq_getElem (by omega), e2]; rfl
theorem row_contract_sz {P : Program} {f : FuncId} {fn : Func} {s : ChangeSpec} {ts : List TypeId} {tb : TypeId} {L : List TypeId}
    (hl : laidOutB P = true) (hT : typesOk P L = true) (hp : fn.params.toList = ts) (hr : (ts.all fun t => L.contains t && P.readableRec t && decide (t < P.types.size)) = true)
    (hres : fn.resultTypes = #[tb]) (htb : P.underlying tb = some .bool) (hvars : s.vars = [])
    (hs : ∀ (H : Type) (ds : List (DataW H)), ds.length = ts.length → s.fn H ds = { results := [.lit (.bool true)], args := ds })
    (hlaw : ∀ xs, ShapesW P ts xs → (∀ (j : Nat) (t : TypeId) (x : T) (s : ByteArray), ts[j]? = some t → xs[j]? = some x → strIn P t x s → s.size ≤ reachBytes) → FnC P f xs (.imm (.bool true)))
    {H : Type} {enc : TypeId × Value → H} (W : World) (base : Nat) (args : Array Value) (ds gs : List (DataW H)) (before : List MemPlace)
    (hval : ∀ (j : Nat) t v, fn.params[j]? = some t → args[j]? = some v → Value.okWide P W .any base t v) (hW : DataW.Whole enc P fn.params.toList s.vars false W args.toList ds gs before)
    (hz : (DataW.weightsEach P (fn.params.toList ++ s.plain.varTypes P) (ds ++ gs)).all (· ≤ reachBytes) = true) :
    Calls P f args W fun e W' => ∃ v, e = .returned v ∧ s.post enc P fn false true false false W args v W' := by
  have hW' := hW
  obtain ⟨p, q, hA, hV, rfl, hfz, hnd⟩ := hW
  rw [hvars] at hV
  obtain ⟨rfl, rfl⟩ := trodVars_none hV
  rw [hp] at hA
  have hr' : ∀ t ∈ ts, t ∈ L ∧ P.readableRec t = true ∧ t < P.types.size := fun t ht => by
    have := List.all_eq_true.1 hr t ht
    simp only [Bool.and_eq_true, List.contains_iff_mem, decide_eq_true_eq] at this
    exact ⟨this.1.1, this.1.2, this.2⟩
  obtain ⟨xs, h1, h2⟩ := open_args (r := .any) (b0 := base) hT ts args.toList ds p (fun t ht => (hr' t ht).1) hA fun j t v h1 h2 => hval j t v (by rw [← hp] at h1; simpa using h1) (by simpa using h2)
  have hlen : ds.length = ts.length := trodAll_len hA
  have hsz : ∀ (j : Nat) (t : TypeId) (x : T) (s : ByteArray), ts[j]? = some t → xs[j]? = some x → strIn P t x s → s.size ≤ reachBytes := fun j t x s0 ht hx hin => by
    obtain ⟨v, d, p, n, hd, htr, hrep⟩ := trodAll_at ts args.toList ds p xs hA h2 j t x ht hx
    have hmem := sized_in htr hrep hin
    have hj : j < ds.length := (List.getElem?_eq_some_iff.1 hd).1
    have hjt : j < ts.length := (List.getElem?_eq_some_iff.1 ht).1
    have := List.all_eq_true.1 hz _ (DataW.weights_mem_each (j := j) (t := t) (by rw [hp, List.getElem?_append_left hjt]; exact ht) (by rw [List.getElem?_append_left hj]; exact hd) _ hmem)
    simpa using this
  refine ((hlaw xs h1 hsz).2 W noBan args (fun _ _ h => h.elim) h2).mono fun e W' ⟨u, he, bel, hu⟩ => ?_
  simp only [Rep, flat, and_true] at hu
  subst hu; subst he
  refine ⟨_, rfl, ds, [], p ++ [], [], p, [], hW', ?_, ?_, ?_, bel.frame _, fun h => by cases h⟩
  · rw [List.append_nil, hs H ds hlen, hres]
    have : (Value.bool true).resultList (#[tb] : Array TypeId).size = [.bool true] := by simp [Value.resultList]
    rw [this]
    exact trodAll_mk1 (shut_bool htb _)
  · rw [List.append_nil, hs H ds hlen, hp]
    exact carry_args hl bel ts _ _ _ (fun t ht => (hr' t ht).2) hA
  · rw [List.append_nil, hs H ds hlen, hvars]
    rfl
end Go.Proofs.YtbdkofondpalpaaDoorX

set_option linter.unusedVariables false
set_option linter.unusedSimpArgs false
namespace Go.Proofs.YtbdkofondpalpaaDoorX
open Go Go.RowKit Go.Proofs
set_option maxRecDepth 100000
def okT9 (v : List UInt8) : Prop := v.length ≤ 9223372036854775807
def okT4 (v : Bool) : Prop := True
def okT23 (v : (Bool) × (List UInt8)) : Prop := okT4 v.1 ∧ okT9 v.2
theorem shp9 : ∀ (n : Nat) (x : T), ShapeW Tryd.prog n 9 x → ∃ v : List UInt8, x = .imm (.string (bs v)) ∧ okT9 v
  | 0, x, h => h.elim
  | n + 1, x, h => by
    simp only [ShapeW, Tryd.underlying9] at h
    obtain ⟨s, rfl, hs⟩ := h
    exact ⟨s.data.toList, by rw [← of_bs], hs⟩
theorem shp4 : ∀ (n : Nat) (x : T), ShapeW Tryd.prog n 4 x → ∃ v : Bool, x = .imm (.bool v) ∧ okT4 v
  | 0, x, h => h.elim
  | n + 1, x, h => by
    simp only [ShapeW, Tryd.underlying4] at h
    obtain ⟨b, rfl⟩ := h
    exact ⟨b, rfl, trivial⟩
theorem shp24 : ∀ (n : Nat) (x : T), ShapeW Tryd.prog n 24 x → ∃ v : (Bool) × (List UInt8), leT anyE x (.agg [.imm (.bool v.1), .imm (.string (bs v.2))]) ∧ okT23 v
  | 0, x, h => h.elim
  | n + 1, x, h => by
    simp only [ShapeW, Tryd.underlying24] at h
    obtain ⟨ys, rfl, hl, hf⟩ := h
    match ys, hl with
    | [y0, y1], _ =>
      have h0 := hf 0 _ y0 rfl rfl
      obtain ⟨v0, rfl, k0⟩ := shp4 n _ h0
      have h1 := hf 1 _ y1 rfl rfl
      obtain ⟨v1, rfl, k1⟩ := shp9 n _ h1
      refine ⟨(v0, v1), leT_agg ?_, k0, k1⟩
      show leL anyE [_, _] _
      exact leL_cons (leT_refl _) (leL_cons (leT_refl _) (leL_nil))
theorem shq24 : ∀ (n : Nat) (x : T), ShapeW Tryd.prog n 24 x → ∃ v : (Bool) × (List UInt8), leT anyE x (.agg [.imm (.bool v.1), .imm (.string (bs v.2))]) ∧ okT23 v ∧ ∃ l, x = .agg l ∧ l[1]? = some (.imm (.string (bs v.2)))
  | 0, x, h => h.elim
  | n + 1, x, h => by
    simp only [ShapeW, Tryd.underlying24] at h
    obtain ⟨ys, rfl, hl, hf⟩ := h
    match ys, hl with
    | [y0, y1], _ =>
      have h0 := hf 0 _ y0 rfl rfl
      obtain ⟨v0, rfl, k0⟩ := shp4 n _ h0
      have h1 := hf 1 _ y1 rfl rfl
      obtain ⟨v1, rfl, k1⟩ := shp9 n _ h1
      refine ⟨(v0, v1), leT_agg ?_, ⟨k0, k1⟩, _, rfl, rfl⟩
      show leL anyE [_, _] _
      exact leL_cons (leT_refl _) (leL_cons (leT_refl _) (leL_nil))
theorem shapedHeaderTags (main : ∀ (v0 : List UInt8) (v1 : (Bool) × (List UInt8)), okT9 v0 → okT23 v1 → v0.length ≤ 140737488351232 → v1.2.length ≤ 140737488351232 → ∃ n, F6 n v0 v1 = some true) (xs : List T) (h : ShapesW Tryd.prog [9, 24] xs) (hsz : ∀ (j : Nat) (t : TypeId) (x : T) (s : ByteArray), ([9, 24] : List TypeId)[j]? = some t → xs[j]? = some x → strIn Tryd.prog t x s → s.size ≤ reachBytes) : FnC Tryd.prog 6 xs (tb true) := by
  obtain ⟨x0, xs0, rfl, ⟨n0, h0⟩, x1, xs1, rfl, ⟨n1, h1⟩, rfl⟩ := h
  obtain ⟨v0, rfl, k0⟩ := shp9 _ _ h0
  obtain ⟨v1, e1, k1, l1, rfl, r1_1⟩ := shq24 _ _ h1
  obtain ⟨N, hN⟩ := main v0 v1 k0 k1 (hsz 0 9 _ (bs v0) rfl rfl (.inl ⟨Tryd.underlying9, rfl⟩)) (hsz 1 24 _ (bs v1.2) rfl rfl (.inr (.inr ⟨_, _, _, 1, Tryd.underlying24, rfl, Tryd.underlying9, by kernel_rfl, rfl, r1_1⟩)))
  exact (F6_ok N v0 v1 true hN).le (leL_cons (leT_refl _) (leL_cons (e1) (leL_nil))) (leT_refl _)

end Go.Proofs.YtbdkofondpalpaaDoorX

/- Plain functions with fuel: what they come to. Of no program. -/
set_option linter.unusedVariables false
set_option linter.unusedSimpArgs false
namespace Go.Proofs.YtbdkofondpalpaaDoorX
open Go

/-- With fuel enough the answer is this. -/
def Ev {α : Type} (f : Nat → Option α) (r : α) : Prop := ∃ N, ∀ n, N ≤ n → f n = some r
theorem Ev.pure {α : Type} {r : α} : Ev (fun _ => some r) r := ⟨0, fun _ _ => rfl⟩
theorem Ev.const {α : Type} {x : Option α} {r : α} (h : x = some r) : Ev (fun _ => x) r := ⟨0, fun _ _ => h⟩
theorem Ev.bind {α β : Type} {f : Nat → Option α} {g : Nat → α → Option β} {v : α} {r : β} (h : Ev f v) (h' : Ev (fun n => g n v) r) : Ev (fun n => (f n).bind (g n)) r := by
  obtain ⟨N, h⟩ := h
  obtain ⟨M, h'⟩ := h'
  exact ⟨max N M, fun n hn => by show (f n).bind (g n) = _; rw [h n (by omega)]; exact h' n (by omega)⟩
theorem Ev.step {α : Type} {f : Nat → Option α} {r : α} (h : Ev (fun n => f (n + 1)) r) : Ev f r := by
  obtain ⟨N, h⟩ := h
  refine ⟨N + 1, fun n hn => ?_⟩
  obtain ⟨m, rfl⟩ : ∃ m, n = m + 1 := ⟨n - 1, by omega⟩
  exact h m (by omega)
theorem Ev.congr {α : Type} {f g : Nat → Option α} {r : α} (h : Ev g r) (e : ∀ n, f n = g n) : Ev f r := by
  obtain ⟨N, h⟩ := h
  exact ⟨N, fun n hn => (e n).trans (h n hn)⟩
theorem Ev.grd {α : Type} {p : Prop} [Decidable p] {f : Nat → Option α} {r : α} (hp : p) (h : Ev f r) : Ev (fun n => grd p (f n)) r := h.congr fun n => if_pos hp
theorem Ev.ofT {α : Type} {b : Bool} {f g : Nat → Option α} {r : α} (hb : b = true) (h : Ev f r) : Ev (fun n => iteB b (f n) (g n)) r := h.congr fun n => by rw [hb]; rfl
theorem Ev.ofF {α : Type} {b : Bool} {f g : Nat → Option α} {r : α} (hb : b = false) (h : Ev g r) : Ev (fun n => iteB b (f n) (g n)) r := h.congr fun n => by rw [hb]; rfl
theorem Ev.ite {α : Type} {b : Bool} {f g : Nat → Option α} {r : α} (h1 : b = true → Ev f r) (h2 : b = false → Ev g r) : Ev (fun n => iteB b (f n) (g n)) r := by
  cases hb : b with
  | true => exact (h1 hb).congr fun n => rfl
  | false => exact (h2 hb).congr fun n => rfl
theorem iteB_t {α : Type} (x y : Option α) : iteB true x y = x := rfl
theorem iteB_f {α : Type} (x y : Option α) : iteB false x y = y := rfl
theorem grd_t {α : Type} {p : Prop} [Decidable p] (x : Option α) (h : p) : grd p x = x := if_pos h
theorem grd_True {α : Type} [Decidable True] (x : Option α) : grd True x = x := if_pos trivial
theorem bind_some' {α β : Type} (v : α) (g : α → Option β) : (some v).bind g = g v := rfl
theorem w64 {n : Int} (h : -9223372036854775808 ≤ n ∧ n ≤ 9223372036854775807) : IntKind.wrap .i64 n = n := Go.IntWalk.i64_in _ h
theorem w32 {n : Int} (h : -2147483648 ≤ n ∧ n ≤ 2147483647) : IntKind.wrap .i32 n = n := Go.IntWalk.i32_in _ h
theorem wu8 {n : Int} (h : 0 ≤ n ∧ n ≤ 255) : IntKind.wrap .u8 n = n := Go.IntWalk.u8_in _ h
theorem wu32 {n : Int} (h : 0 ≤ n ∧ n ≤ 4294967295) : IntKind.wrap .u32 n = n := Go.IntWalk.u32_in _ h
theorem wu64 {n : Int} (h : 0 ≤ n ∧ n ≤ 18446744073709551615) : IntKind.wrap .u64 n = n := Go.IntWalk.u64_in _ h
/-- Bytes as numbers. -/
theorem u8_beq (a b : UInt8) : ((a.toNat : Int) == (b.toNat : Int)) = (a == b) := by
  rw [Bool.eq_iff_iff, beq_iff_eq, beq_iff_eq]
  exact ⟨fun h => UInt8.toNat_inj.1 (by omega), fun h => by rw [h]⟩
theorem u8_lit (a : UInt8) (k : Nat) (hk : k < 256) : ((a.toNat : Int) == ((k : Nat) : Int)) = (a == UInt8.ofNat k) := by
  rw [Bool.eq_iff_iff, beq_iff_eq, beq_iff_eq]
  constructor
  · intro h
    apply UInt8.toNat_inj.1
    rw [UInt8.toNat_ofNat']
    omega
  · intro h
    subst h
    rw [UInt8.toNat_ofNat']
    omega
theorem u8_lt (a : UInt8) : (0 : Int) ≤ (a.toNat : Int) ∧ (a.toNat : Int) ≤ 255 := by
  have := a.toNat_lt; omega
theorem drop_cons {α : Type} (l : List α) (i : Nat) (d : α) (h : i < l.length) : l.drop i = l.getD i d :: l.drop (i + 1) := by
  rw [List.drop_eq_getElem_cons h, List.getD_eq_getElem?_getD, List.getElem?_eq_getElem h]; rfl
theorem toNat_nat (n : Nat) : ((n : Int)).toNat = n := rfl
end Go.Proofs.YtbdkofondpalpaaDoorX

/- Bytes as numbers. Of no program. -/
set_option linter.unusedVariables false
set_option linter.unusedSimpArgs false
namespace Go.Proofs.YtbdkofondpalpaaDoorX
open Go

def Bytes (l : List Int) : Prop := ∀ x ∈ l, 0 ≤ x ∧ x ≤ 255
theorem Bytes.nil : Bytes [] := by intro x hx; cases hx
theorem Bytes.cons {a : Int} {r : List Int} (h : 0 ≤ a ∧ a ≤ 255) (hr : Bytes r) : Bytes (a :: r) := by
  intro x hx
  rcases List.mem_cons.1 hx with rfl | hx
  · exact h
  · exact hr x hx
theorem Bytes.head {a : Int} {r : List Int} (h : Bytes (a :: r)) : 0 ≤ a ∧ a ≤ 255 := h a (by simp)
theorem Bytes.tail {a : Int} {r : List Int} (h : Bytes (a :: r)) : Bytes r := fun x hx => h x (by simp [hx])
theorem Bytes.drop {l : List Int} (h : Bytes l) (n : Nat) : Bytes (l.drop n) := fun x hx => h x (List.mem_of_mem_drop hx)
theorem Bytes.append {l r : List Int} (h : Bytes l) (h' : Bytes r) : Bytes (l ++ r) := fun x hx => by
  rcases List.mem_append.1 hx with hx | hx
  · exact h x hx
  · exact h' x hx
def bt (s : List UInt8) (i : Nat) : Int := ((s.getD i 0).toNat : Int)
def ints (s : List UInt8) : List Int := s.map ofB
theorem ints_len (s : List UInt8) : (ints s).length = s.length := by simp [ints]
theorem ints_bytes (s : List UInt8) : Bytes (ints s) := by
  intro x hx
  unfold ints at hx
  obtain ⟨c, _, rfl⟩ := List.mem_map.1 hx
  exact u8_lt c
theorem ints_drop (s : List UInt8) (i : Nat) : ints (s.drop i) = (ints s).drop i := by simp [ints, List.map_drop]
theorem ints_take (s : List UInt8) (i : Nat) : ints (s.take i) = (ints s).take i := by simp [ints, List.map_take]
theorem bt_bd (s : List UInt8) (i : Nat) : 0 ≤ bt s i ∧ bt s i ≤ 255 := u8_lt _
theorem ints_get (s : List UInt8) (i : Nat) : (ints s).getD i 0 = bt s i := by
  unfold ints bt
  rw [List.getD_eq_getElem?_getD, List.getElem?_map, List.getD_eq_getElem?_getD]
  cases s[i]? <;> rfl
theorem drop_bt (s : List UInt8) (i : Nat) (h : i < s.length) : (ints s).drop i = bt s i :: (ints s).drop (i + 1) := by
  rw [drop_cons (ints s) i 0 (by rw [ints_len]; exact h), ints_get]
theorem ofB_toB {x : Int} (h : 0 ≤ x ∧ x ≤ 255) : ofB (toB x) = x := by
  unfold ofB toB
  rw [UInt8.toNat_ofNat']
  omega
theorem map_toB_eq {l : List Int} (hl : Bytes l) (t : List UInt8) : (l.map toB == t) = decide (l = ints t) := by
  rw [Bool.eq_iff_iff, beq_iff_eq, decide_eq_true_eq]
  constructor
  · rintro rfl
    unfold ints
    rw [List.map_map]
    conv => lhs; rw [← List.map_id l]
    exact List.map_congr_left fun x hx => (ofB_toB (hl x hx)).symm
  · rintro rfl
    unfold ints
    rw [List.map_map]
    conv => rhs; rw [← List.map_id t]
    refine List.map_congr_left fun x _ => ?_
    show UInt8.ofNat ((x.toNat : Int)).toNat = x
    rw [toNat_nat]; simp
theorem ints_cons (s : List UInt8) (h : s.length ≠ 0) : ∃ a r, ints s = a :: r := by
  cases hb : ints s with
  | nil => have := ints_len s; rw [hb] at this; simp at this; omega
  | cons a r => exact ⟨a, r, rfl⟩
theorem of_ints {s : List UInt8} {l : List Int} (h : ints s = l) : s = l.map toB := by
  have hb : Bytes l := h ▸ ints_bytes s
  have := map_toB_eq hb s
  rw [h, decide_eq_true rfl] at this
  exact (beq_iff_eq.1 this).symm
theorem ints_toB {l : List Int} (h : Bytes l) : ints (l.map toB) = l := by
  have := map_toB_eq h (l.map toB)
  rw [beq_self_eq_true] at this
  exact (of_decide_eq_true this.symm).symm
theorem toB_inj : ∀ {a b : List Int}, Bytes a → Bytes b → a.map toB = b.map toB → a = b := fun ha hb h => by
  have := congrArg ints h
  rwa [ints_toB ha, ints_toB hb] at this
theorem bq {a b : Int} (h : ¬ a = b) : (a == b) = false := beq_eq_false_iff_ne.2 h
theorem bqt {a b : Int} (h : a = b) : (a == b) = true := by rw [h]; exact beq_self_eq_true b
theorem all_bytes {l : List Int} (h : Bytes l) : (l.all fun x => decide (0 ≤ x) && decide (x < 256)) = true := by
  rw [List.all_eq_true]
  intro x hx
  have := h x hx
  simp only [Bool.and_eq_true, decide_eq_true_eq]
  omega
theorem bs_bool {p : Prop} [Decidable p] {b : Bool} (h : (b = true) ↔ p) : b = decide p := by
  cases b with
  | true => exact (decide_eq_true (h.1 rfl)).symm
  | false => exact (decide_eq_false (fun e => by cases h.2 e)).symm
theorem g64 (i : Nat) (h : i ≤ 1000000000) : IntKind.wrap .i64 ((i : Int) + 1) = ((i + 1 : Nat) : Int) := by rw [w64 (by omega)]; omega
end Go.Proofs.YtbdkofondpalpaaDoorX

/- Blanks at both ends: words, and the reference's. -/
set_option linter.unusedVariables false
set_option linter.unusedSimpArgs false
namespace Go.Proofs.YtbdkofondpalpaaDoorX
open Go

def isBl (c : UInt8) : Bool := c == 32 || c == 9
def trimL : List UInt8 → List UInt8
  | [] => []
  | c :: l => if isBl c = true then trimL l else c :: l
def trimR : List UInt8 → List UInt8
  | [] => []
  | c :: l => if trimR l = [] then (if isBl c = true then [] else [c]) else c :: trimR l
/-- Without the blanks at both ends. -/
def trimT (s : List UInt8) : List UInt8 := trimL (trimR s)
theorem bl_contains (c : UInt8) : ([32, 9] : List UInt8).contains c = isBl c := by
  simp only [List.contains_cons, List.contains_nil, Bool.or_false, isBl]
theorem trimR_snoc (c : UInt8) : ∀ l : List UInt8, trimR (l ++ [c]) = if isBl c = true then trimR l else l ++ [c]
  | [] => by
    show (if trimR [] = [] then _ else _) = _
    rw [if_pos (show trimR [] = [] from rfl)]; rfl
  | x :: l => by
    rw [show (x :: l) ++ [c] = x :: (l ++ [c]) from rfl, trimR, trimR_snoc c l]
    by_cases h : isBl c = true
    · rw [if_pos h, if_pos h, trimR]
    · rw [if_neg h, if_neg h, if_neg (by simp)]
theorem rev_ind {α : Type} {p : List α → Prop} (h0 : p []) (h1 : ∀ l a, p l → p (l ++ [a])) : ∀ l, p l := by
  intro l
  rw [← List.reverse_reverse l]
  generalize l.reverse = m
  induction m with
  | nil => exact h0
  | cons a m ih => rw [List.reverse_cons]; exact h1 _ _ ih
theorem trim_comm : ∀ l : List UInt8, trimL (trimR l) = trimR (trimL l)
  | [] => rfl
  | c :: l => by
    have ih := trim_comm l
    by_cases h : isBl c = true
    · rw [show trimL (c :: l) = trimL l by rw [trimL, if_pos h], ← ih, trimR]
      by_cases hr : trimR l = []
      · rw [if_pos hr, if_pos h, hr]
      · rw [if_neg hr, trimL, if_pos h]
    · rw [show trimL (c :: l) = c :: l by rw [trimL, if_neg h], trimR]
      by_cases hr : trimR l = []
      · rw [if_pos hr, if_neg h, trimL, if_neg h]
      · rw [if_neg hr, trimL, if_neg h]
theorem trimL_len : ∀ l : List UInt8, (trimL l).length ≤ l.length
  | [] => Nat.le_refl _
  | c :: l => by
    have := trimL_len l
    rw [trimL]; split <;> simp <;> omega
theorem trimR_len : ∀ l : List UInt8, (trimR l).length ≤ l.length
  | [] => Nat.le_refl _
  | c :: l => by
    have := trimR_len l
    rw [trimR]; split
    · split <;> simp
    · simp; omega
theorem trimT_len (l : List UInt8) : (trimT l).length ≤ l.length := Nat.le_trans (trimL_len _) (trimR_len _)
theorem blank_eq (n : Nat) (c : UInt8) : F79 n (c.toNat : Int) = some (isBl c) := by
  unfold F79 isBl
  rw [show ((c.toNat : Int) == 32) = (c == 32) from u8_lit c 32 (by omega), show ((c.toNat : Int) == 9) = (c == 9) from u8_lit c 9 (by omega)]
  cases (c == 32) <;> rfl
theorem ev_trimR2 (l : List UInt8) : l.length ≤ 1000000000 → Ev (fun n => F40_L2 n l) (trimR l) ∧ Ev (fun n => F40_L3 n l) (trimR l) := by
  induction l using rev_ind with
  | h0 => exact fun _ => ⟨Ev.step (Ev.pure.congr fun n => by rw [F40_L2]; rfl), Ev.step (Ev.pure.congr fun n => by rw [F40_L3]; rfl)⟩
  | h1 l c ih =>
    intro hl
    have hl' : l.length + 1 ≤ 1000000000 := by simpa using hl
    have e1 : IntKind.wrap .i64 (((l ++ [c]).length : Int) - 1) = (l.length : Int) := by rw [List.length_append, List.length_singleton, w64 (by omega)]; omega
    have e2 : (l ++ [c]).getD l.length 0 = c := by rw [List.getD_eq_getElem?_getD]; simp
    have e3 : (l ++ [c]).take l.length = l := List.take_left
    have e4 : ((l ++ [c]).length : Int) = (l.length : Int) + 1 := by simp
    obtain ⟨⟨N1, i1⟩, ⟨N2, i2⟩⟩ := ih (by omega)
    rw [trimR_snoc]
    refine ⟨Ev.step ⟨N1, fun n hn => ?_⟩, Ev.step ⟨N2, fun n hn => ?_⟩⟩
    · show F40_L2 (n + 1) (l ++ [c]) = _
      rw [F40_L2, decide_eq_true (by omega), iteB_t, e1, grd_t _ (by omega), toNat_nat, e2, blank_eq, bind_some', e3]
      cases h : isBl c with
      | true => rw [iteB_t, if_pos rfl, grd_t _ (by omega)]; exact i1 n hn
      | false => rw [iteB_f, if_neg (by simp)]
    · show F40_L3 (n + 1) (l ++ [c]) = _
      rw [F40_L3, decide_eq_true (by omega), iteB_t, e1, grd_t _ (by omega), toNat_nat, e2, blank_eq, bind_some', e3]
      cases h : isBl c with
      | true => rw [iteB_t, if_pos rfl, grd_t _ (by omega)]; exact i2 n hn
      | false => rw [iteB_f, if_neg (by simp)]
theorem ev_trim1 : ∀ l : List UInt8, l.length ≤ 1000000000 → Ev (fun n => F40_L1 n l) (trimR (trimL l))
  | [], hl => Ev.step ((ev_trimR2 [] hl).2.congr fun n => by rw [F40_L1]; rfl)
  | c :: l, hl => by
    have hl' : l.length + 1 ≤ 1000000000 := hl
    have e4 : (((c :: l) : List UInt8).length : Int) = (l.length : Int) + 1 := by simp
    rw [trimL]
    by_cases h : isBl c = true
    · rw [if_pos h]
      obtain ⟨N, i1⟩ := ev_trim1 l (by omega)
      refine Ev.step ⟨N, fun n hn => ?_⟩
      show F40_L1 (n + 1) (c :: l) = _
      rw [F40_L1, decide_eq_true (by omega), iteB_t, grd_t _ (by omega), show ((c :: l).getD (0 : Int).toNat 0) = c from rfl, blank_eq, bind_some', h, iteB_t, grd_t _ (by omega)]
      exact i1 n hn
    · rw [if_neg h]
      obtain ⟨N, i1⟩ := (ev_trimR2 (c :: l) hl).1
      refine Ev.step ⟨N, fun n hn => ?_⟩
      show F40_L1 (n + 1) (c :: l) = _
      rw [F40_L1, decide_eq_true (by omega), iteB_t, grd_t _ (by omega), show ((c :: l).getD (0 : Int).toNat 0) = c from rfl, blank_eq, bind_some', show isBl c = false by simpa using h, iteB_f]
      exact i1 n hn
theorem ev_trim (s : List UInt8) (hs : s.length ≤ 1000000000) : Ev (fun n => F40 n s) (trimT s) := by
  unfold trimT
  rw [trim_comm]
  exact (ev_trim1 s hs).congr fun n => rfl
end Go.Proofs.YtbdkofondpalpaaDoorX

/- Blanks at both ends: strings.Trim. -/
set_option linter.unusedVariables false
set_option linter.unusedSimpArgs false
namespace Go.Proofs.YtbdkofondpalpaaDoorX
open Go

theorem trimL_eq : ∀ l : List UInt8, Lib.trimLeftS l [32, 9] = trimL l
  | [] => rfl
  | c :: l => by
    have ih := trimL_eq l
    unfold Lib.trimLeftS at ih ⊢
    rw [List.dropWhile_cons, bl_contains, ih]
    rfl
theorem trimR_eq (l : List UInt8) : Lib.trimRightS l [32, 9] = trimR l := by
  induction l using rev_ind with
  | h0 => rfl
  | h1 l c ih =>
    unfold Lib.trimRightS at ih ⊢
    rw [List.reverse_append, List.reverse_singleton, List.singleton_append, List.dropWhile_cons, bl_contains, trimR_snoc]
    by_cases h : isBl c = true
    · rw [if_pos h, if_pos h, ih]
    · rw [if_neg h, if_neg h, List.reverse_cons, List.reverse_reverse]
theorem Trim_eq (n : Nat) (s : List UInt8) (hs : s.length ≤ 1000000000) : F34 n s [32, 9] = some (trimT s) := by
  unfold F34 Lib.trimS
  rw [if_pos ⟨by omega, by decide, by decide⟩, trimL_eq, trimR_eq]; rfl
end Go.Proofs.YtbdkofondpalpaaDoorX

set_option linter.unusedVariables false
set_option linter.unusedSimpArgs false
namespace Go.Proofs.YtbdkofondpalpaaDoorX
open Go Go.RowKit Go.Proofs
set_option maxRecDepth 100000
attribute [local go_sem ↓] stepsK_build stepsK_build0 stepsK_bs stepsK_bs0 appendS
attribute [local go_sem] String.reduceEq String.reduceNe reduceCtorEq Int.reduceEq Nat.reduceAdd Nat.reduceSub Nat.reduceMul Nat.reduceLT Nat.reduceLeDiff Nat.reduceEqDiff Nat.reduceBEq Int.reduceToNat Int.reduceLT Int.reduceLE Int.reduceGT Int.reduceGE Int.reduceAdd Int.reduceSub Int.reduceMul Int.reduceNeg Int.reduceBEq Int.reduceBNe Int.reducePow Int.reduceDiv Int.reduceMod Int.reduceTDiv Int.reduceTMod Int.reduceNatCast
/-! ### internal/stringslite.Cut -/
def F74 (n : Nat) (a0 : List UInt8) (a1 : List UInt8) : Option ((List UInt8) × (List UInt8) × (Bool)) := (F107 n a0 a1).bind fun v1 => iteB (decide ((0 : Int) ≤ v1)) (grd (0 ≤ v1 ∧ v1 ≤ (a0.length : Int)) (grd (0 ≤ (IntKind.wrap .i64 (v1 + (a1.length : Int))) ∧ (IntKind.wrap .i64 (v1 + (a1.length : Int))) ≤ (a0.length : Int)) (some ((a0.take v1.toNat), (a0.drop (IntKind.wrap .i64 (v1 + (a1.length : Int))).toNat), true)))) (some (a0, [], false))
set_option maxHeartbeats 4000000 in
theorem F74_ok : ∀ (n : Nat) (a0 : List UInt8) (a1 : List UInt8) (r : (List UInt8) × (List UInt8) × (Bool)), F74 n a0 a1 = some r → FnC Tryd.prog 74 [.imm (.string (bs a0)), .imm (.string (bs a1))] (.tup [.imm (.string (bs r.1)), .imm (.string (bs r.2.1)), .imm (.bool r.2.2)])
  | n, a0, a1, r, h => by
    unfold F74 at h
    refine FnC.goX mixed Tryd.func74 (by kernel_rfl) rfl ?_
    simp only [Tryd.ntmps74, List.length_cons, List.length_nil, List.replicate, List.cons_append, List.nil_append, Nat.reduceAdd, Nat.reduceSub]
    refine runX_seq ?_
    refine runX_regionC fun C hC => ?_
    try simp -implicitDefEqProofs (maxSteps := 4000000) (disch := first | omega | decide | (simp only [go_sem]; omega)) only [go_sem, ↓reduceIte]
    repeat (with_reducible refine And.intro (by first | assumption | omega | (simp; done) | (simp; omega)) ?_)
    refine toEnd hC ?_
    refine endX_seq ?_
    refine runX_seq ?_
    refine runX_seq ?_
    refine runX_regionC fun C hC => ?_
    obtain ⟨v1, h1, h⟩ := bnd_some h
    try simp -implicitDefEqProofs (maxSteps := 4000000) (disch := first | omega | decide | (simp only [go_sem]; omega)) only [go_sem, ↓reduceIte]
    repeat (with_reducible refine And.intro (by first | assumption | omega | (simp; done) | (simp; omega)) ?_)
    refine callG_X (by first | rfl | (simp only [go_sem]; done) | (simp only [closedL, closedT, Bool.and_true]; exact closedL_map _ (fun _ => by first | rfl | (simp only [go_sem]; done)) _)) (F107_ok n a0 a1 _ h1) (by repeat (first | exact leL_refl _ | refine leL_cons (by first | exact leT_refl _ | exact leT_virt | exact leT_junk _ | exact leT_sl | exact leT_sln | exact leT_nil) ?_)) ?_
    try simp -implicitDefEqProofs (maxSteps := 4000000) (disch := first | omega | decide | (simp only [go_sem]; omega)) only [go_sem, ↓reduceIte]
    repeat (with_reducible refine And.intro (by first | assumption | omega | (simp; done) | (simp; omega)) ?_)
    refine toEnd hC ?_
    refine endX_seq ?_
    refine runX_seq ?_
    refine runX_regionC fun C hC => ?_
    try simp -implicitDefEqProofs (maxSteps := 4000000) (disch := first | omega | decide | (simp only [go_sem]; omega)) only [go_sem, ↓reduceIte]
    repeat (with_reducible refine And.intro (by first | assumption | omega | (simp; done) | (simp; omega)) ?_)
    refine toEnd hC ?_
    refine endX_seq ?_
    rcases iteB_some h with ⟨c2, h⟩ | ⟨c2, h⟩
    · refine runX_condT rfl c2 ?_
      refine runX_seq ?_
      refine runX_drawC mixed (by kernel_rfl) fun C hC => ?_
      obtain ⟨g3, h⟩ := grd_some h
      obtain ⟨g4, h⟩ := grd_some h
      try simp -implicitDefEqProofs (maxSteps := 4000000) (disch := first | omega | decide | (simp only [go_sem]; omega)) only [go_sem, ↓reduceIte]
      repeat (with_reducible refine And.intro (by first | assumption | omega | (simp; done) | (simp; omega)) ?_)
      refine toEnd hC ?_
      refine endX_seq ?_
      refine runX_ret ?_
      refine endX_seqR ?_
      refine endX_q ?_
      obtain rfl := Option.some.inj h
      show RetW _ _ _ _ _
      simp only [RetW]
      (try simp -implicitDefEqProofs (maxSteps := 4000000) (disch := first | omega | decide | (simp only [go_sem]; omega)) only [go_sem, ↓reduceIte])
      (try simp (disch := omega) only [if_pos, Nat.sub_zero])
      exact leT_refl _
    · refine runX_condF rfl c2 ?_
      refine runX_skip ?_
      refine endX_seq ?_
      refine runX_seq ?_
      refine runX_regionC fun C hC => ?_
      try simp -implicitDefEqProofs (maxSteps := 4000000) (disch := first | omega | decide | (simp only [go_sem]; omega)) only [go_sem, ↓reduceIte]
      repeat (with_reducible refine And.intro (by first | assumption | omega | (simp; done) | (simp; omega)) ?_)
      refine toEnd hC ?_
      refine endX_seq ?_
      refine runX_ret ?_
      refine endX_q ?_
      obtain rfl := Option.some.inj h
      show RetW _ _ _ _ _
      simp only [RetW]
      (try simp -implicitDefEqProofs (maxSteps := 4000000) (disch := first | omega | decide | (simp only [go_sem]; omega)) only [go_sem, ↓reduceIte])
      (try simp (disch := omega) only [if_pos, Nat.sub_zero])
      exact leT_refl _
end Go.Proofs.YtbdkofondpalpaaDoorX

set_option linter.unusedVariables false
set_option linter.unusedSimpArgs false
namespace Go.Proofs.YtbdkofondpalpaaDoorX
open Go Go.RowKit Go.Proofs
set_option maxRecDepth 100000
attribute [local go_sem ↓] stepsK_build stepsK_build0 stepsK_bs stepsK_bs0 appendS
attribute [local go_sem] String.reduceEq String.reduceNe reduceCtorEq Int.reduceEq Nat.reduceAdd Nat.reduceSub Nat.reduceMul Nat.reduceLT Nat.reduceLeDiff Nat.reduceEqDiff Nat.reduceBEq Int.reduceToNat Int.reduceLT Int.reduceLE Int.reduceGT Int.reduceGE Int.reduceAdd Int.reduceSub Int.reduceMul Int.reduceNeg Int.reduceBEq Int.reduceBNe Int.reducePow Int.reduceDiv Int.reduceMod Int.reduceTDiv Int.reduceTMod Int.reduceNatCast
/-! ### strings.Cut -/
def F37 (n : Nat) (a0 : List UInt8) (a1 : List UInt8) : Option ((List UInt8) × (List UInt8) × (Bool)) := (F74 n a0 a1).bind fun v1 => some (v1.1, v1.2.1, v1.2.2)
set_option maxHeartbeats 4000000 in
theorem F37_ok : ∀ (n : Nat) (a0 : List UInt8) (a1 : List UInt8) (r : (List UInt8) × (List UInt8) × (Bool)), F37 n a0 a1 = some r → FnC Tryd.prog 37 [.imm (.string (bs a0)), .imm (.string (bs a1))] (.tup [.imm (.string (bs r.1)), .imm (.string (bs r.2.1)), .imm (.bool r.2.2)])
  | n, a0, a1, r, h => by
    unfold F37 at h
    refine FnC.goX mixed Tryd.func37 (by kernel_rfl) rfl ?_
    simp only [Tryd.ntmps37, List.length_cons, List.length_nil, List.replicate, List.cons_append, List.nil_append, Nat.reduceAdd, Nat.reduceSub]
    refine runX_seq ?_
    refine runX_regionC fun C hC => ?_
    try simp -implicitDefEqProofs (maxSteps := 4000000) (disch := first | omega | decide | (simp only [go_sem]; omega)) only [go_sem, ↓reduceIte]
    repeat (with_reducible refine And.intro (by first | assumption | omega | (simp; done) | (simp; omega)) ?_)
    refine toEnd hC ?_
    refine endX_seq ?_
    refine runX_seq ?_
    refine runX_regionC fun C hC => ?_
    obtain ⟨v1, h1, h⟩ := bnd_some h
    try simp -implicitDefEqProofs (maxSteps := 4000000) (disch := first | omega | decide | (simp only [go_sem]; omega)) only [go_sem, ↓reduceIte]
    repeat (with_reducible refine And.intro (by first | assumption | omega | (simp; done) | (simp; omega)) ?_)
    refine callG_X (by first | rfl | (simp only [go_sem]; done) | (simp only [closedL, closedT, Bool.and_true]; exact closedL_map _ (fun _ => by first | rfl | (simp only [go_sem]; done)) _)) (F74_ok n a0 a1 _ h1) (by repeat (first | exact leL_refl _ | refine leL_cons (by first | exact leT_refl _ | exact leT_virt | exact leT_junk _ | exact leT_sl | exact leT_sln | exact leT_nil) ?_)) ?_
    try simp -implicitDefEqProofs (maxSteps := 4000000) (disch := first | omega | decide | (simp only [go_sem]; omega)) only [go_sem, ↓reduceIte]
    repeat (with_reducible refine And.intro (by first | assumption | omega | (simp; done) | (simp; omega)) ?_)
    refine toEnd hC ?_
    refine endX_seq ?_
    refine runX_ret ?_
    refine endX_q ?_
    obtain rfl := Option.some.inj h
    show RetW _ _ _ _ _
    simp only [RetW]
    (try simp -implicitDefEqProofs (maxSteps := 4000000) (disch := first | omega | decide | (simp only [go_sem]; omega)) only [go_sem, ↓reduceIte])
    (try simp (disch := omega) only [if_pos, Nat.sub_zero])
    exact leT_refl _
end Go.Proofs.YtbdkofondpalpaaDoorX

/- Texts cut at a byte: strings.Index, Count, Split, Cut of one byte. -/
set_option linter.unusedVariables false
set_option linter.unusedSimpArgs false
namespace Go.Proofs.YtbdkofondpalpaaDoorX
open Go

def splitB (c : UInt8) : List UInt8 → List (List UInt8)
  | [] => [[]]
  | x :: l => if x = c then [] :: splitB c l else match splitB c l with
    | [] => [[x]]
    | y :: ys => (x :: y) :: ys
theorem split_ne (c : UInt8) : ∀ l, splitB c l ≠ []
  | [] => by simp [splitB]
  | x :: l => by
    rw [splitB]
    split
    · simp
    · split <;> simp
/-- Where a byte first stands. -/
theorem idx_cases (c : UInt8) : ∀ s : List UInt8, (Lib.indexByte s c = -1 ∧ c ∉ s ∧ s.count c = 0 ∧ splitB c s = [s]) ∨
    ∃ m : Nat, m < s.length ∧ Lib.indexByte s c = (m : Int) ∧ c ∉ s.take m ∧ s = s.take m ++ c :: s.drop (m + 1) ∧ s.count c = 1 + (s.drop (m + 1)).count c ∧ splitB c s = s.take m :: splitB c (s.drop (m + 1))
  | [] => .inl ⟨rfl, by simp, rfl, rfl⟩
  | x :: l => by
    by_cases h : x = c
    · subst h
      refine .inr ⟨0, by simp, ?_, by simp, by simp, by simp; omega, by simp [splitB]⟩
      rw [Lib.indexByte, beq_self_eq_true, if_pos rfl]; rfl
    · have hb : (x == c) = false := by rw [beq_eq_false_iff_ne]; exact h
      rcases idx_cases c l with ⟨h1, h2, h3, h4⟩ | ⟨m, h1, h2, h3, h4, h5, h6⟩
      · refine .inl ⟨?_, ?_, ?_, ?_⟩
        · rw [Lib.indexByte, hb, h1]; rfl
        · simp only [List.mem_cons, not_or]; exact ⟨fun e => h e.symm, h2⟩
        · rw [List.count_cons_of_ne h, h3]
        · rw [splitB, if_neg h, h4]
      · refine .inr ⟨m + 1, by simp; omega, ?_, ?_, ?_, ?_, ?_⟩
        · rw [Lib.indexByte, hb, h2]
          simp only [Bool.false_eq_true, if_false]
          rw [if_neg (by rw [beq_iff_eq]; omega)]; omega
        · rw [List.take_succ_cons]; simp only [List.mem_cons, not_or]; exact ⟨fun e => h e.symm, h3⟩
        · rw [List.take_succ_cons, List.drop_succ_cons, List.cons_append, ← h4]
        · rw [List.count_cons_of_ne h, List.drop_succ_cons, h5]
        · rw [splitB, if_neg h, h6, List.take_succ_cons, List.drop_succ_cons]
theorem Index_eq (n : Nat) (s : List UInt8) (c : UInt8) : F107 n s [c] = some (Lib.indexByte s c) := by
  rw [F107]
  show iteB false _ _ = _
  rw [iteB_f]
  by_cases h : ([c] : List UInt8) = s
  · rw [show (([c] : List UInt8) == s) = true by rw [beq_iff_eq]; exact h, iteB_t, ← h, Lib.indexByte, beq_self_eq_true]; rfl
  · rw [show (([c] : List UInt8) == s) = false by rw [beq_eq_false_iff_ne]; exact h, iteB_f]
    show iteB true _ _ = _
    rw [iteB_t, grd_t _ (by simp), F106, bind_some']
    show some (Lib.indexByte s (((c.toNat : Nat) : Int).toNat.toUInt8)) = _
    rw [toNat_nat, show c.toNat.toUInt8 = c by simp]
theorem sIndex_eq (n : Nat) (s : List UInt8) (c : UInt8) : F115 n s [c] = some (Lib.indexByte s c) := by rw [F115, Index_eq, bind_some']
theorem take_set' {α : Type} : ∀ (l : List α) (i : Nat) (x : α), i < l.length → (l.set i x).take (i + 1) = l.take i ++ [x]
  | [], i, x, h => by simp at h
  | a :: l, 0, x, h => by simp
  | a :: l, i + 1, x, h => by
    rw [List.set_cons_succ, List.take_succ_cons, List.take_succ_cons, List.cons_append, take_set' l i x (by simpa using h)]
theorem ev_gen (c : UInt8) (s0 : List UInt8) (N : Nat) (h0 : N ≤ s0.length + 1) (hN : s0.length ≤ 1000000) : ∀ (d : Nat) (s : List UInt8) (i : Nat) (row : List (List UInt8)), s.count c = d → i + d + 1 = N → row.length = N → s.length ≤ 1000000 →
    Ev (fun k => F83_L3 k [c] 0 s0 (N : Int) s (i : Int) row) (row.take i ++ splitB c s) := by
  have hmin : (if IntKind.wrap .i64 ((s0.length : Int) + 1) < (N : Int) then IntKind.wrap .i64 ((s0.length : Int) + 1) else (N : Int)) = (N : Int) := by
    rw [w64 (by omega), if_neg (by omega)]
  intro d
  induction d with
  | zero =>
    intro s i row hc hi hr hs
    rcases idx_cases c s with ⟨h1, h2, h3, h4⟩ | ⟨m, h1, h2, h3, h4, h5, h6⟩
    · rw [h4]
      refine Ev.step (Ev.pure.congr fun k => ?_)
      rw [F83_L3, hmin, w64 (n := (N : Int) - 1) (by omega), decide_eq_false (by omega), iteB_f, F83_J2, grd_t _ (by omega), toNat_nat, grd_t _ (by omega), w64 (n := (i : Int) + 1) (by omega), grd_t _ (by omega), show ((i : Int) + 1).toNat = i + 1 by omega, take_set' _ _ _ (by omega)]
    · omega
  | succ d ih =>
    intro s i row hc hi hr hs
    rcases idx_cases c s with ⟨h1, h2, h3, h4⟩ | ⟨m, h1, h2, h3, h4, h5, h6⟩
    · omega
    · have e := ih (s.drop (m + 1)) (i + 1) (row.set i (s.take m)) (by omega) (by omega) (by rw [List.length_set, hr]) (by rw [List.length_drop]; omega)
      rw [take_set' _ _ _ (by omega), List.append_assoc] at e
      rw [h6]
      refine Ev.step (e.congr fun k => ?_)
      rw [F83_L3, hmin, w64 (n := (N : Int) - 1) (by omega), decide_eq_true (by omega), iteB_t, sIndex_eq, bind_some', h2, decide_eq_false (by omega), iteB_f, w64 (n := (m : Int) + 0) (by omega)]
      rw [show (([c] : List UInt8).length : Int) = 1 from rfl, w64 (n := (m : Int) + 1) (by omega), w64 (n := (i : Int) + 1) (by omega), toNat_nat]
      rw [grd_t _ (by omega), grd_t _ (by omega), grd_t _ (by omega), grd_t _ (by omega)]
      rw [show ((m : Int) + 1).toNat = m + 1 by omega, show ((m : Int) + 0).toNat = m by omega, show (i : Int) + 1 = ((i + 1 : Nat) : Int) by omega]
theorem ev_Split (c : UInt8) (s : List UInt8) (hs : s.length ≤ 1000000) : Ev (fun k => F48 k s [c]) (splitB c s) := by
  have hcl : s.count c ≤ s.length := List.count_le_length
  have e := ev_gen c s (s.count c + 1) (by omega) hs (s.count c) s 0 (List.replicate (s.count c + 1) []) rfl (by omega) (by simp) hs
  rw [List.take_zero, List.nil_append] at e
  obtain ⟨N, hN⟩ := e
  refine ⟨N, fun n hn => ?_⟩
  have e := hN n hn
  dsimp only at e
  have w1 : IntKind.wrap .i64 (((Lib.countByte s c : Nat) : Int) + 1) = ((s.count c + 1 : Nat) : Int) := by
    unfold Lib.countByte
    rw [w64 (by omega)]; omega
  have hmin : (if IntKind.wrap .i64 ((s.length : Int) + 1) < ((s.count c + 1 : Nat) : Int) then IntKind.wrap .i64 ((s.length : Int) + 1) else ((s.count c + 1 : Nat) : Int)) = ((s.count c + 1 : Nat) : Int) := by
    rw [w64 (by omega), if_neg (by omega)]
  show F48 n s [c] = _
  rw [F48, F83]
  show (iteB false _ (iteB false _ (iteB true _ _))).bind _ = _
  rw [iteB_f, iteB_f, iteB_t, F114]
  show ((some ((Lib.countByte s c : Nat) : Int)).bind _).bind _ = _
  rw [bind_some', w1, F83_J1, hmin, toNat_nat, grd_t _ (by omega)]
  show (F83_L3 n [c] 0 s _ s ((0 : Nat) : Int) _).bind _ = _
  rw [e, bind_some']
def cutB (c : UInt8) (s : List UInt8) : List UInt8 × List UInt8 × Bool := if c ∈ s then (s.take (Lib.indexByte s c).toNat, s.drop ((Lib.indexByte s c).toNat + 1), true) else (s, [], false)
theorem Cut_eq (n : Nat) (s : List UInt8) (c : UInt8) (hs : s.length ≤ 1000000) : F37 n s [c] = some (cutB c s) := by
  unfold cutB
  rw [F37, F74, Index_eq, bind_some', show (([c] : List UInt8).length : Int) = 1 from rfl]
  rcases idx_cases c s with ⟨h1, h2, h3, h4⟩ | ⟨m, h1, h2, h3, h4, h5, h6⟩
  · rw [if_neg h2, h1]; rfl
  · have hm : c ∈ s := by rw [h4]; simp
    rw [if_pos hm, h2, decide_eq_true (by omega), iteB_t, w64 (by omega), grd_t _ (by omega), grd_t _ (by omega), bind_some', show ((m : Int) + 1).toNat = m + 1 by omega, toNat_nat]
/-- Where a byte is not ahead of its first place. -/
theorem idx_app (c : UInt8) (b : List UInt8) : ∀ a : List UInt8, c ∉ a → Lib.indexByte (a ++ c :: b) c = (a.length : Int)
  | [], _ => by rw [List.nil_append, Lib.indexByte, beq_self_eq_true, if_pos rfl]; rfl
  | x :: a, h => by
    simp only [List.mem_cons, not_or] at h
    rw [List.cons_append, Lib.indexByte, show (x == c) = false by (rw [beq_eq_false_iff_ne]; exact fun e => h.1 e.symm), idx_app c b a h.2]
    simp only [Bool.false_eq_true, if_false]
    rw [if_neg (by rw [beq_iff_eq]; omega), List.length_cons]; omega
theorem cut_app (c : UInt8) (a b : List UInt8) (h : c ∉ a) : cutB c (a ++ c :: b) = (a, b, true) := by
  unfold cutB
  rw [if_pos (by simp), idx_app c b a h, toNat_nat, List.take_left']
  · rw [show a.length + 1 = (a ++ [c]).length by simp, show a ++ c :: b = (a ++ [c]) ++ b by simp, List.drop_left']; rfl
  · rfl
theorem cut_none (c : UInt8) (a : List UInt8) (h : c ∉ a) : cutB c a = (a, [], false) := by unfold cutB; rw [if_neg h]
end Go.Proofs.YtbdkofondpalpaaDoorX

/- Tags and words of a head's value: what the program and the reference answer. -/
set_option linter.unusedVariables false
set_option linter.unusedSimpArgs false
namespace Go.Proofs.YtbdkofondpalpaaDoorX
open Go

abbrev Tg := Bool × List UInt8
/-- Is a byte one of a tag's? -/
def tgB (c : UInt8) : Bool := !(decide ((c.toNat : Int) < 33) || ((c.toNat : Int) == 127))
def tgNo : Tg × List UInt8 × Bool := ((false, []), [], false)
/-- Behind the first quote. -/
def tgBody (w : Bool) (r : List UInt8) : Tg × List UInt8 × Bool :=
  if (cutB 34 r).2.2 = true ∧ (cutB 34 r).1.all tgB = true then ((w, (cutB 34 r).1), (cutB 34 r).2.1, true) else tgNo
def tgHead (w : Bool) (s : List UInt8) : Tg × List UInt8 × Bool := match s with
  | [] => tgNo
  | c :: r => if c = 34 then tgBody w r else tgNo
/-- The tag that a text begins with, and what is behind it. -/
def tgOne (s : List UInt8) : Tg × List UInt8 × Bool := match s with
  | 87 :: 47 :: r => tgHead true r
  | s => tgHead false s
theorem tgOne_cases (s : List UInt8) : (∃ r, s = 87 :: 47 :: r ∧ tgOne s = tgHead true r) ∨ ((∀ r, s ≠ 87 :: 47 :: r) ∧ tgOne s = tgHead false s) := by
  unfold tgOne
  split
  · exact .inl ⟨_, rfl, rfl⟩
  · rename_i h
    exact .inr ⟨fun r e => h r e, rfl⟩
theorem body_len (w : Bool) (r : List UInt8) : (tgBody w r).2.1.length ≤ r.length := by
  unfold tgBody
  split
  · unfold cutB
    split
    · simp only [List.length_drop]; omega
    · simp
  · simp [tgNo]
theorem head_len (w : Bool) (s : List UInt8) : (tgHead w s).2.2 = true → (tgHead w s).2.1.length < s.length := by
  unfold tgHead
  split
  · intro h; cases h
  · split
    · intro _
      have := body_len w ‹_›
      simp; omega
    · intro h; cases h
theorem one_len (s : List UInt8) : (tgOne s).2.2 = true → (tgOne s).2.1.length < s.length := by
  rcases tgOne_cases s with ⟨r, rfl, h⟩ | ⟨_, h⟩ <;> rw [h]
  · intro h2
    have := head_len true r h2
    simp; omega
  · exact head_len false s
/-! ### The program's tag -/
theorem tag_loop (r : List UInt8) (p : List UInt8 × Bool) (hp : p.1 = 34 :: r) (hr : r.length ≤ 1000000) (m : Nat) (hm : m < r.length) (hc : cutB 34 r = (r.take m, r.drop (m + 1), true)) :
    ∀ (d i : Nat), i + d = m → (r.take i).all tgB = true → Ev (fun n => F36_L1 n p (m : Int) (i : Int)) (tgBody p.2 r) := by
  have hd : p.1.drop 1 = r := by rw [hp]; rfl
  intro d
  induction d with
  | zero =>
    intro i hi ha
    obtain rfl : i = m := by omega
    have e : tgBody p.2 r = ((p.2, r.take i), r.drop (i + 1), true) := by
      unfold tgBody; rw [hc, if_pos ⟨rfl, ha⟩]
    rw [e]
    refine Ev.step (Ev.pure.congr fun n => ?_)
    rw [F36_L1, decide_eq_false (by omega), iteB_f, hd, g64 i (by omega), toNat_nat, toNat_nat, grd_t _ (by omega), grd_t _ (by omega)]
  | succ d ih =>
    intro i hi ha
    have hb : ((((p.1.drop 1).getD i 0).toNat : Nat) : Int) = bt r i := by rw [hd]; rfl
    have hk : (r.take (i + 1)).all tgB = ((r.take i).all tgB && tgB (r.getD i 0)) := by
      rw [List.take_add_one, List.all_append, List.getD_eq_getElem?_getD, List.getElem?_eq_getElem (by omega)]; simp
    have htk : (r.take m).all tgB = true → tgB (r.getD i 0) = true := by
      intro h
      refine List.all_eq_true.1 h _ ?_
      rw [List.getD_eq_getElem?_getD, List.getElem?_eq_getElem (by omega)]
      exact List.mem_take_iff_getElem.2 ⟨i, by omega, rfl⟩
    have hno : tgB (r.getD i 0) = false → tgBody p.2 r = tgNo := by
      intro h
      unfold tgBody; rw [hc, if_neg]
      rintro ⟨_, h2⟩
      rw [htk h2] at h; cases h
    have hdef : tgB (r.getD i 0) = !(decide (bt r i < 33) || (bt r i == 127)) := rfl
    by_cases h1 : bt r i < 33
    · rw [hno (by rw [hdef, decide_eq_true h1]; rfl)]
      refine Ev.step (Ev.pure.congr fun n => ?_)
      rw [F36_L1, decide_eq_true (by omega), iteB_t, toNat_nat, hb, decide_eq_true h1, iteB_t, grd_t _ (by rw [hd]; omega)]; rfl
    · by_cases h2 : bt r i = 127
      · rw [hno (by rw [hdef, bqt h2]; simp)]
        refine Ev.step (Ev.pure.congr fun n => ?_)
        rw [F36_L1, decide_eq_true (by omega), iteB_t, toNat_nat, hb, decide_eq_false h1, iteB_f, bqt h2, iteB_t, grd_t _ (by rw [hd]; omega)]; rfl
      · refine Ev.step ((ih (i + 1) (by omega) (by rw [hk, ha, hdef, decide_eq_false h1, bq h2]; rfl)).congr fun n => ?_)
        rw [F36_L1, decide_eq_true (by omega), iteB_t, toNat_nat, hb, decide_eq_false h1, iteB_f, bq h2, iteB_f, g64 i (by omega), grd_t _ (by rw [hd]; omega)]
theorem tag_head (s : List UInt8) (w : Bool) (hs : s.length ≤ 1000000) : Ev (fun n => iteB (s == []) (some tgNo) (grd ((0 : Int) < (s.length : Int)) (iteB (((s.getD (0 : Int).toNat 0).toNat : Int) != (34 : Int)) (some tgNo) (grd ((1 : Int) ≤ (s.length : Int)) ((F73 n (s.drop 1) (34 : Int)).bind fun v6 => iteB (decide (v6 < (0 : Int))) (some tgNo) (F36_L1 n (s, w) v6 (0 : Int))))))) (tgHead w s) := by
  cases s with
  | nil => exact Ev.pure.congr fun n => rfl
  | cons c r =>
    have hl : ((c :: r).length : Int) = (r.length : Int) + 1 := by simp
    have hr : r.length ≤ 1000000 := by simp at hs; omega
    by_cases h : c = 34
    · subst h
      have hx : ∀ n, F73 n ((34 :: r).drop 1) 34 = some (Lib.indexByte r 34) := fun n => by
        rw [F73, F106, bind_some']; rfl
      show Ev _ (tgBody w r)
      rcases idx_cases 34 r with ⟨h1, h2, h3, h4⟩ | ⟨m, h1, h2, h3, h4, h5, h6⟩
      · have e : tgBody w r = tgNo := by unfold tgBody; rw [cut_none 34 r h2, if_neg (by simp)]
        rw [e]
        refine Ev.pure.congr fun n => ?_
        rw [show ((34 :: r : List UInt8) == []) = false from rfl, iteB_f, grd_t _ (by omega), show ((((34 :: r : List UInt8).getD (0 : Int).toNat 0).toNat : Int) != 34) = false from rfl, iteB_f, grd_t _ (by omega), hx, h1, bind_some']
        rfl
      · have hc : cutB 34 r = (r.take m, r.drop (m + 1), true) := by
          conv => lhs; rw [h4]
          exact cut_app 34 _ _ h3
        refine (tag_loop r (34 :: r, w) rfl hr m h1 hc m 0 (by omega) rfl).congr fun n => ?_
        rw [show ((34 :: r : List UInt8) == []) = false from rfl, iteB_f, grd_t _ (by omega), show ((((34 :: r : List UInt8).getD (0 : Int).toNat 0).toNat : Int) != 34) = false from rfl, iteB_f, grd_t _ (by omega), hx, h2, bind_some', decide_eq_false (by omega), iteB_f]
        rfl
    · have e : tgHead w (c :: r) = tgNo := if_neg h
      rw [e]
      refine Ev.pure.congr fun n => ?_
      rw [show ((c :: r : List UInt8) == []) = false from rfl, iteB_f, grd_t _ (by omega), show ((((c :: r : List UInt8).getD (0 : Int).toNat 0).toNat : Int) != 34) = true by
        rw [bne_iff_ne]; intro e; exact h (UInt8.toNat_inj.1 (show c.toNat = (34 : UInt8).toNat by have : ((c.toNat : Nat) : Int) = 34 := e; show c.toNat = 34; omega)), iteB_t]
def preB (s p : List UInt8) : Bool := decide (p.length ≤ s.length) && s.take p.length == p
def cutPT (s p : List UInt8) : List UInt8 × Bool := if preB s p = true then (s.drop p.length, true) else (s, false)
theorem cutP_eq (n : Nat) (s p : List UInt8) : F35 n s p = some (cutPT s p) := by
  rw [F35, F72, F105]
  unfold cutPT preB
  by_cases h : p.length ≤ s.length
  · rw [decide_eq_true (by omega), iteB_t, grd_t _ (by omega), bind_some', decide_eq_true h, toNat_nat, Bool.true_and]
    cases hb : (s.take p.length == p) with
    | false => rfl
    | true =>
      show (grd _ _).bind _ = _
      rw [grd_t _ (by omega)]; rfl
  · rw [decide_eq_false (by omega), iteB_f, bind_some', decide_eq_false h]; rfl
theorem weak_pre (s : List UInt8) : preB s [87, 47] = true ↔ ∃ r, s = 87 :: 47 :: r := by
  unfold preB
  constructor
  · intro h
    simp only [Bool.and_eq_true, decide_eq_true_eq, beq_iff_eq] at h
    obtain ⟨h1, h2⟩ := h
    match s, h1, h2 with
    | a :: b :: r, _, h2 =>
      have h2 : [a, b] = [87, 47] := h2
      cases h2
      exact ⟨r, rfl⟩
  · rintro ⟨r, rfl⟩
    simp
theorem ev_tag (s : List UInt8) (hs : s.length ≤ 1000000) : Ev (fun n => F36 n s) (tgOne s) := by
  rcases tgOne_cases s with ⟨r, rfl, h⟩ | ⟨hno, h⟩ <;> rw [h]
  · refine (tag_head r true (by simp at hs; omega)).congr fun n => ?_
    rw [F36, cutP_eq, show cutPT (87 :: 47 :: r) [87, 47] = (r, true) by unfold cutPT; rw [if_pos ((weak_pre _).2 ⟨r, rfl⟩)]; rfl, bind_some']
    rfl
  · refine (tag_head s false hs).congr fun n => ?_
    rw [F36, cutP_eq, show cutPT s [87, 47] = (s, false) by unfold cutPT; rw [if_neg (fun h => by obtain ⟨r, e⟩ := (weak_pre s).1 h; exact hno r e)], bind_some']
    rfl
/-! ### The reference's tag -/
theorem rone_loop (w : Bool) (r : List UInt8) (hr : r.length ≤ 1000000) : ∀ (d i : Nat), i + d = r.length → (34 : UInt8) ∉ r.take i → (r.take i).all tgB = true → Ev (fun n => F47_L2 n (34 :: r) w ((i + 1 : Nat) : Int)) (tgBody w r) := by
  have hl : ((34 :: r : List UInt8).length : Int) = (r.length : Int) + 1 := by simp
  intro d
  induction d with
  | zero =>
    intro i hi hn ha
    rw [List.take_of_length_le (by omega)] at hn
    have e : tgBody w r = tgNo := by unfold tgBody; rw [cut_none 34 r hn, if_neg (by simp)]
    rw [e]
    refine Ev.step (Ev.pure.congr fun n => ?_)
    rw [F47_L2, decide_eq_false (by omega), iteB_f, bqt (show ((i + 1 : Nat) : Int) = ((34 :: r : List UInt8).length : Int) by omega), iteB_t]; rfl
  | succ d ih =>
    intro i hi hn ha
    have hb : ((((34 :: r : List UInt8).getD (i + 1) 0).toNat : Nat) : Int) = bt r i := rfl
    have hk : (r.take (i + 1)).all tgB = ((r.take i).all tgB && tgB (r.getD i 0)) := by
      rw [List.take_add_one, List.all_append, List.getD_eq_getElem?_getD, List.getElem?_eq_getElem (by omega)]; simp
    have hdef : tgB (r.getD i 0) = !(decide (bt r i < 33) || (bt r i == 127)) := rfl
    by_cases h : r.getD i 0 = 34
    · have hsp : r = r.take i ++ 34 :: r.drop (i + 1) := by
        conv => lhs; rw [← List.take_append_drop i r, drop_cons r i 0 (by omega), h]
      have hc : cutB 34 r = (r.take i, r.drop (i + 1), true) := by
        conv => lhs; rw [hsp]
        exact cut_app 34 _ _ hn
      have e : tgBody w r = ((w, r.take i), r.drop (i + 1), true) := by
        unfold tgBody; rw [hc, if_pos ⟨rfl, ha⟩]
      have h34 : (bt r i != 34) = false := by
        have : bt r i = 34 := by unfold bt; rw [h]; rfl
        rw [this]; rfl
      rw [e]
      refine Ev.step (Ev.pure.congr fun n => ?_)
      rw [F47_L2, decide_eq_true (by omega), iteB_t, toNat_nat, hb, h34, iteB_f, bq (show ¬ ((i + 1 : Nat) : Int) = ((34 :: r : List UInt8).length : Int) by omega), iteB_f, g64 (i + 1) (by omega), toNat_nat, grd_t _ (by omega), grd_t _ (by omega), grd_t _ (by omega)]
      rfl
    · have h34 : (bt r i != 34) = true := by
        rw [bne_iff_ne]; intro e
        apply h
        unfold bt at e
        apply UInt8.toNat_inj.1
        show (r.getD i 0).toNat = 34
        omega
      have hn' : (34 : UInt8) ∉ r.take (i + 1) := by
        rw [List.take_add_one, List.mem_append]
        rintro (e | e)
        · exact hn e
        · rw [List.getD_eq_getElem?_getD] at h
          cases hg : r[i]? with
          | none => rw [hg] at e; simp at e
          | some x => rw [hg] at e h; simp at e; exact h e.symm
      have hno : tgB (r.getD i 0) = false → tgBody w r = tgNo := by
        intro hf
        unfold tgBody
        rcases idx_cases 34 r with ⟨h1, h2, h3, h4⟩ | ⟨m, h1, h2, h3, h4, h5, h6⟩
        · rw [cut_none 34 r h2, if_neg (by simp)]
        · have hc : cutB 34 r = (r.take m, r.drop (m + 1), true) := by
            conv => lhs; rw [h4]
            exact cut_app 34 _ _ h3
          rw [hc, if_neg]
          rintro ⟨_, hall⟩
          have him : i < m := by
            rcases Nat.lt_or_ge i m with q | q
            · exact q
            · exfalso
              have hd := drop_cons r m 0 h1
              have hm34 : r.getD m 0 = 34 := by
                have e1 : r.drop m = 34 :: r.drop (m + 1) := by
                  conv => lhs; rw [h4]
                  rw [List.drop_left' (by rw [List.length_take]; omega)]
                rw [e1] at hd
                exact ((List.cons.inj hd).1).symm
              rcases Nat.eq_or_lt_of_le q with q | q
              · subst q; exact h hm34
              · refine hn ?_
                rw [← hm34, List.getD_eq_getElem?_getD, List.getElem?_eq_getElem h1]
                exact List.mem_take_iff_getElem.2 ⟨m, by omega, rfl⟩
          have : tgB (r.getD i 0) = true := by
            refine List.all_eq_true.1 hall _ ?_
            rw [List.getD_eq_getElem?_getD, List.getElem?_eq_getElem (by omega)]
            exact List.mem_take_iff_getElem.2 ⟨i, by omega, rfl⟩
          rw [this] at hf; cases hf
      by_cases h1 : bt r i < 33
      · rw [hno (by rw [hdef, decide_eq_true h1]; rfl)]
        refine Ev.step (Ev.pure.congr fun n => ?_)
        rw [F47_L2, decide_eq_true (by omega), iteB_t, toNat_nat, hb, h34, iteB_t, decide_eq_true h1, iteB_t, grd_t _ (by omega), grd_t _ (by omega)]; rfl
      · by_cases h2 : bt r i = 127
        · rw [hno (by rw [hdef, bqt h2]; simp)]
          refine Ev.step (Ev.pure.congr fun n => ?_)
          rw [F47_L2, decide_eq_true (by omega), iteB_t, toNat_nat, hb, h34, iteB_t, decide_eq_false h1, iteB_f, bqt h2, iteB_t, grd_t _ (by omega), grd_t _ (by omega), grd_t _ (by omega)]; rfl
        · refine Ev.step ((ih (i + 1) (by omega) hn' (by rw [hk, ha, hdef, decide_eq_false h1, bq h2]; rfl)).congr fun n => ?_)
          rw [F47_L2, decide_eq_true (by omega), iteB_t, toNat_nat, hb, h34, iteB_t, decide_eq_false h1, iteB_f, bq h2, iteB_f, g64 (i + 1) (by omega), grd_t _ (by omega), grd_t _ (by omega), grd_t _ (by omega)]
theorem rone_head (w : Bool) (s : List UInt8) (hs : s.length ≤ 1000000) : Ev (fun n => F47_J1 n s w) (tgHead w s) := by
  cases s with
  | nil => exact Ev.pure.congr fun n => by rw [F47_J1]; rfl
  | cons c r =>
    have hl : ((c :: r).length : Int) = (r.length : Int) + 1 := by simp
    by_cases h : c = 34
    · subst h
      refine (rone_loop w r (by simp at hs; omega) r.length 0 (by omega) (by simp) rfl).congr fun n => ?_
      rw [F47_J1, bq (show ¬ ((34 :: r : List UInt8).length : Int) = 0 by omega), iteB_f, grd_t _ (by omega), show ((((34 :: r : List UInt8).getD (0 : Int).toNat 0).toNat : Int) != 34) = false from rfl, iteB_f]
      rfl
    · have e : tgHead w (c :: r) = tgNo := if_neg h
      rw [e]
      refine Ev.pure.congr fun n => ?_
      rw [F47_J1, bq (show ¬ ((c :: r : List UInt8).length : Int) = 0 by omega), iteB_f, grd_t _ (by omega), show ((((c :: r : List UInt8).getD (0 : Int).toNat 0).toNat : Int) != 34) = true by
        rw [bne_iff_ne]; intro e; exact h (UInt8.toNat_inj.1 (show c.toNat = 34 by have : ((c.toNat : Nat) : Int) = 34 := e; omega)), iteB_t]
      rfl
theorem ev_rone (s : List UInt8) (hs : s.length ≤ 1000000) : Ev (fun n => F47 n s) (tgOne s) := by
  rcases tgOne_cases s with ⟨r, rfl, h⟩ | ⟨hno, h⟩ <;> rw [h]
  · cases r with
    | nil =>
      refine (rone_head false [87, 47] (by decide)).congr fun n => ?_
      rw [F47]; rfl
    | cons x r =>
      have hl : ((87 :: 47 :: x :: r : List UInt8).length : Int) = (r.length : Int) + 3 := by simp; omega
      refine (rone_head true (x :: r) (by simp at hs ⊢; omega)).congr fun n => ?_
      rw [F47, decide_eq_true (by omega), iteB_t, grd_t _ (by omega), show ((87 :: 47 :: x :: r : List UInt8).take 2 == [87, 47]) = true from rfl, iteB_t, grd_t _ (by omega)]
      rfl
  · refine (rone_head false s hs).congr fun n => ?_
    rw [F47]
    by_cases h2 : (2 : Int) < (s.length : Int)
    · have : (s.take 2 == ([87, 47] : List UInt8)) = false := by
        rw [beq_eq_false_iff_ne]
        intro e
        match s, h2, e with
        | a :: b :: r, _, e =>
          have e : [a, b] = [87, 47] := e
          cases e
          exact hno r rfl
      rw [decide_eq_true h2, iteB_t, grd_t _ (by omega), this, iteB_f]
    · rw [decide_eq_false h2, iteB_f]
/-! ### Tags -/
abbrev Tgs := List Tg × Bool × Bool
def tagsL : Nat → List UInt8 → Bool → List Tg → Tgs
  | 0, _, _, acc => (acc, false, decide ((0 : Int) < (acc.length : Int)))
  | _ + 1, [], _, acc => (acc, false, decide ((0 : Int) < (acc.length : Int)))
  | d + 1, c :: r, fr, acc =>
    if c = 44 then tagsL d (trimT r) true acc else if (tgOne (c :: r)).2.2 = false then ([], false, false) else if fr = false then ([], false, false) else tagsL d (trimT (tgOne (c :: r)).2.1) false (acc ++ [(tgOne (c :: r)).1])
theorem tagsL_fuel : ∀ (d d' : Nat) (s : List UInt8) (fr : Bool) (acc : List Tg), s.length ≤ d → s.length ≤ d' → tagsL d s fr acc = tagsL d' s fr acc
  | 0, 0, s, fr, acc, _, _ => rfl
  | 0, d' + 1, s, fr, acc, h, _ => by
    obtain rfl := List.eq_nil_of_length_eq_zero (by omega : s.length = 0)
    rw [tagsL, tagsL]
  | d + 1, 0, s, fr, acc, _, h => by
    obtain rfl := List.eq_nil_of_length_eq_zero (by omega : s.length = 0)
    rw [tagsL, tagsL]
  | d + 1, d' + 1, [], fr, acc, _, _ => by rw [tagsL, tagsL]
  | d + 1, d' + 1, c :: r, fr, acc, h1, h2 => by
    have ht := trimT_len r
    have ht2 := trimT_len (tgOne (c :: r)).2.1
    have hone := one_len (c :: r)
    simp only [List.length_cons] at h1 h2 hone
    rw [tagsL, tagsL, tagsL_fuel d d' (trimT r) true acc (by omega) (by omega)]
    split
    · rfl
    · split
      · rfl
      · rename_i hn
        have := hone (by simpa using hn)
        rw [tagsL_fuel d d' (trimT (tgOne (c :: r)).2.1) false _ (by omega) (by omega)]
theorem tags_loop : ∀ (d : Nat) (s : List UInt8) (fr : Bool) (acc : List Tg), s.length ≤ d → d + acc.length ≤ 1000000 →
    Ev (fun n => F12_L1 n s fr acc) (tagsL d s fr acc) ∧ Ev (fun n => F24_L1 n s fr acc) (tagsL d s fr acc) := by
  intro d
  have zero : ∀ (d : Nat) (fr : Bool) (acc : List Tg), Ev (fun n => F12_L1 n [] fr acc) (tagsL d [] fr acc) ∧ Ev (fun n => F24_L1 n [] fr acc) (tagsL d [] fr acc) := by
    intro d fr acc
    have e : tagsL d [] fr acc = (acc, false, decide ((0 : Int) < (acc.length : Int))) := by cases d <;> rw [tagsL]
    rw [e]
    exact ⟨Ev.step (Ev.pure.congr fun n => by rw [F12_L1]; rfl), Ev.step (Ev.pure.congr fun n => by rw [F24_L1]; rfl)⟩
  induction d with
  | zero =>
    intro s fr acc hs _
    obtain rfl := List.eq_nil_of_length_eq_zero (by omega : s.length = 0)
    exact zero 0 fr acc
  | succ d ih =>
    intro s fr acc hs hd
    cases s with
    | nil => exact zero (d + 1) fr acc
    | cons c r =>
      simp only [List.length_cons] at hs
      have hl : ((c :: r).length : Int) = (r.length : Int) + 1 := by simp
      have ht := trimT_len r
      have ht2 := trimT_len (tgOne (c :: r)).2.1
      have hone := one_len (c :: r)
      rw [tagsL]
      by_cases h : c = 44
      · subst h
        rw [if_pos rfl]
        obtain ⟨⟨N1, e1⟩, ⟨N2, e2⟩⟩ := ih (trimT r) true acc (by omega) (by omega)
        obtain ⟨N3, e3⟩ := ev_trim r (by omega)
        have hp : cutPT (44 :: r) [44] = (r, true) := by
          unfold cutPT preB
          rw [if_pos (by simp)]; rfl
        refine ⟨Ev.step ⟨N1, fun n hn => ?_⟩, Ev.step ⟨N2 + N3, fun n hn => ?_⟩⟩
        · have q1 := e1 n (by omega)
          dsimp only at q1
          show F12_L1 (n + 1) (44 :: r) fr acc = _
          rw [F12_L1, show (!((44 :: r : List UInt8) == [])) = true from rfl, iteB_t, cutP_eq, hp, bind_some', iteB_t]
          dsimp only
          rw [Trim_eq n r (by omega), bind_some', q1]
        · have q2 := e2 n (by omega)
          have q3 := e3 n (by omega)
          dsimp only at q2 q3
          show F24_L1 (n + 1) (44 :: r) fr acc = _
          rw [F24_L1, decide_eq_true (by omega), iteB_t, grd_t _ (by omega), show ((((44 :: r : List UInt8).getD (0 : Int).toNat 0).toNat : Int) == 44) = true from rfl, iteB_t, grd_t _ (by omega)]
          show (F40 n r).bind _ = _
          rw [q3, bind_some', q2]
      · rw [if_neg h]
        have hp : cutPT (c :: r) [44] = (c :: r, false) := by
          unfold cutPT preB
          rw [if_neg]
          simp only [Bool.and_eq_true, beq_iff_eq]
          rintro ⟨_, e⟩
          have e : [c] = [44] := e
          cases e; exact h rfl
        have hc : ((((c :: r : List UInt8).getD (0 : Int).toNat 0).toNat : Int) == 44) = false := by
          rw [beq_eq_false_iff_ne]
          intro e
          have e : ((c.toNat : Nat) : Int) = 44 := e
          exact h (UInt8.toNat_inj.1 (show c.toNat = 44 by omega))
        obtain ⟨N1, e1⟩ := ev_tag (c :: r) (by simp; omega)
        obtain ⟨N2, e2⟩ := ev_rone (c :: r) (by simp; omega)
        have hL : ∀ n, F12_L1 (n + 1) (c :: r) fr acc = (F36 n (c :: r)).bind fun v10 => iteB (!v10.2.2) (some ([], false, false)) (iteB (!fr) (some ([], false, false)) (grd ((acc.length + 1) ≤ 549755813888) ((F34 n v10.2.1 ([32, 9] : List UInt8)).bind fun v14 => F12_L1 n v14 false (acc ++ [(v10.1.1, v10.1.2)])))) := by
          intro n
          rw [F12_L1, show (!((c :: r : List UInt8) == [])) = true from rfl, iteB_t, cutP_eq, hp, bind_some', iteB_f]
        have hR : ∀ n, F24_L1 (n + 1) (c :: r) fr acc = (F47 n (c :: r)).bind fun v11 => iteB (!v11.2.2) (some ([], false, false)) (iteB (!fr) (some ([], false, false)) (grd ((acc.length + 1) ≤ 549755813888) ((F40 n v11.2.1).bind fun v15 => F24_L1 n v15 false (acc ++ [(v11.1.1, v11.1.2)])))) := by
          intro n
          rw [F24_L1, decide_eq_true (by omega), iteB_t, grd_t _ (by omega), hc, iteB_f]
        cases h2 : (tgOne (c :: r)).2.2 with
        | false =>
          rw [if_pos rfl]
          refine ⟨Ev.step ⟨N1, fun n hn => ?_⟩, Ev.step ⟨N2, fun n hn => ?_⟩⟩
          · have q1 := e1 n (by omega)
            dsimp only at q1
            show F12_L1 (n + 1) (c :: r) fr acc = _
            rw [hL, q1, bind_some', h2]; rfl
          · have q2 := e2 n (by omega)
            dsimp only at q2
            show F24_L1 (n + 1) (c :: r) fr acc = _
            rw [hR, q2, bind_some', h2]; rfl
        | true =>
          rw [if_neg (by simp)]
          have hlt := hone h2
          simp only [List.length_cons] at hlt
          cases fr with
          | false =>
            rw [if_pos rfl]
            refine ⟨Ev.step ⟨N1, fun n hn => ?_⟩, Ev.step ⟨N2, fun n hn => ?_⟩⟩
            · have q1 := e1 n (by omega)
              dsimp only at q1
              show F12_L1 (n + 1) (c :: r) false acc = _
              rw [hL, q1, bind_some', h2]; rfl
            · have q2 := e2 n (by omega)
              dsimp only at q2
              show F24_L1 (n + 1) (c :: r) false acc = _
              rw [hR, q2, bind_some', h2]; rfl
          | true =>
            rw [if_neg (by simp)]
            obtain ⟨⟨N3, e3⟩, ⟨N4, e4⟩⟩ := ih (trimT (tgOne (c :: r)).2.1) false (acc ++ [(tgOne (c :: r)).1]) (by omega) (by simp; omega)
            obtain ⟨N5, e5⟩ := ev_trim (tgOne (c :: r)).2.1 (by omega)
            refine ⟨Ev.step ⟨N1 + N3, fun n hn => ?_⟩, Ev.step ⟨N2 + N4 + N5, fun n hn => ?_⟩⟩
            · have q1 := e1 n (by omega)
              have q3 := e3 n (by omega)
              dsimp only at q1 q3
              show F12_L1 (n + 1) (c :: r) true acc = _
              rw [hL, q1, bind_some', h2, Bool.not_true, iteB_f, iteB_f, grd_t _ (by omega), Trim_eq n _ (by omega), bind_some']
              exact q3
            · have q2 := e2 n (by omega)
              have q4 := e4 n (by omega)
              have q5 := e5 n (by omega)
              dsimp only at q2 q4 q5
              show F24_L1 (n + 1) (c :: r) true acc = _
              rw [hR, q2, bind_some', h2, Bool.not_true, iteB_f, iteB_f, grd_t _ (by omega), q5, bind_some']
              exact q4
/-- The tags of a value. -/
def tagsT (s : List UInt8) : Tgs := if trimT s = [42] then ([], true, true) else tagsL (trimT s).length (trimT s) true []
theorem ev_Tags (s : List UInt8) (hs : s.length ≤ 900000) : Ev (fun n => F12 n s) (tagsT s) ∧ Ev (fun n => F24 n s) (tagsT s) := by
  have ht := trimT_len s
  unfold tagsT
  obtain ⟨⟨N1, e1⟩, ⟨N2, e2⟩⟩ := tags_loop (trimT s).length (trimT s) true [] (Nat.le_refl _) (by simp; omega)
  obtain ⟨N3, e3⟩ := ev_trim s (by omega)
  by_cases h : trimT s = [42]
  · rw [if_pos h]
    refine ⟨Ev.pure.congr fun n => ?_, ⟨N3, fun n hn => ?_⟩⟩
    · rw [F12, Trim_eq n s (by omega), bind_some', h]; rfl
    · have q3 := e3 n hn
      dsimp only at q3
      show F24 n s = _
      rw [F24, q3, bind_some', h]; rfl
  · rw [if_neg h]
    have hb : (trimT s == [42]) = false := by rw [beq_eq_false_iff_ne]; exact h
    refine ⟨⟨N1, fun n hn => ?_⟩, ⟨N2 + N3, fun n hn => ?_⟩⟩
    · have q1 := e1 n (by omega)
      dsimp only at q1
      show F12 n s = _
      rw [F12, Trim_eq n s (by omega), bind_some', hb, iteB_f, q1]
    · have q2 := e2 n (by omega)
      have q3 := e3 n (by omega)
      dsimp only at q2 q3
      show F24 n s = _
      rw [F24, q3, bind_some', hb, iteB_f, q2]
end Go.Proofs.YtbdkofondpalpaaDoorX

/- HeaderTags: words, quotes, and the law. -/
set_option linter.unusedVariables false
set_option linter.unusedSimpArgs false
namespace Go.Proofs.YtbdkofondpalpaaDoorX
open Go

theorem split_none (c : UInt8) : ∀ a : List UInt8, c ∉ a → splitB c a = [a]
  | [], _ => rfl
  | x :: a, h => by
    simp only [List.mem_cons, not_or] at h
    rw [splitB, if_neg (fun e => h.1 e.symm), split_none c a h.2]
theorem split_app (c : UInt8) (b : List UInt8) : ∀ a : List UInt8, c ∉ a → splitB c (a ++ c :: b) = a :: splitB c b
  | [], _ => by rw [List.nil_append, splitB, if_pos rfl]
  | x :: a, h => by
    simp only [List.mem_cons, not_or] at h
    rw [List.cons_append, splitB, if_neg (fun e => h.1 e.symm), split_app c b a h.2]
theorem split_len (c : UInt8) : ∀ s : List UInt8, (splitB c s).length ≤ s.length + 1
  | [] => by simp [splitB]
  | x :: s => by
    have := split_len c s
    rw [splitB]
    split
    · simp; omega
    · split
      · simp
      · rename_i y ys e
        rw [e] at this
        simp at this ⊢; omega
theorem split_piece (c : UInt8) : ∀ (s : List UInt8) (p : List UInt8), p ∈ splitB c s → p.length ≤ s.length
  | [], p, h => by simp [splitB] at h; subst h; simp
  | x :: s, p, h => by
    rw [splitB] at h
    split at h
    · rcases List.mem_cons.1 h with rfl | h
      · simp
      · have := split_piece c s p h; simp; omega
    · split at h
      · simp at h; subst h; simp
      · rename_i y ys e
        rcases List.mem_cons.1 h with rfl | h
        · have := split_piece c s y (by rw [e]; simp); simp; omega
        · have := split_piece c s p (by rw [e]; simp [h]); simp; omega
/-- What is left of pieces: those that are not blank. -/
def wordsF (l : List (List UInt8)) : List (List UInt8) := (l.map trimT).filter fun w => !(w == [])
theorem wordsF_cons (x : List UInt8) (l : List (List UInt8)) : wordsF (x :: l) = if trimT x = [] then wordsF l else trimT x :: wordsF l := by
  unfold wordsF
  rw [List.map_cons, List.filter_cons]
  by_cases h : trimT x = []
  · rw [if_pos h, h, if_neg (by simp)]
  · rw [if_neg h, if_pos (by simpa using h)]
theorem words_loop (l : List (List UInt8)) (hl : l.length ≤ 1000000) (hp : ∀ x ∈ l, x.length ≤ 1000000) : ∀ (d i : Nat) (x : List (List UInt8)), i + d = l.length → x.length ≤ i →
    Ev (fun n => F25_L1 n l (i : Int) x) (x ++ wordsF (l.drop i)) := by
  intro d
  induction d with
  | zero =>
    intro i x hi hx
    rw [List.drop_of_length_le (by omega), show wordsF [] = [] from rfl, List.append_nil]
    exact Ev.step (Ev.pure.congr fun n => by rw [F25_L1, decide_eq_false (by omega), iteB_f])
  | succ d ih =>
    intro i x hi hx
    have hd : l.drop i = l.getD i default :: l.drop (i + 1) := drop_cons l i default (by omega)
    have hm : l.getD i default ∈ l := by
      rw [List.getD_eq_getElem?_getD, List.getElem?_eq_getElem (by omega)]; exact List.getElem_mem _
    have hpl := hp _ hm
    rw [hd, wordsF_cons]
    generalize hg : l.getD i default = y at hpl ⊢
    by_cases h : trimT y = []
    · rw [if_pos h]
      refine Ev.step ((ih (i + 1) x (by omega) (by omega)).congr fun n => ?_)
      rw [F25_L1, decide_eq_true (by omega), iteB_t, toNat_nat, hg, g64 i (by omega), grd_t _ (by omega), Trim_eq n y (by omega), bind_some', h]
      rfl
    · rw [if_neg h]
      have h2 := ih (i + 1) (x ++ [trimT y]) (by omega) (by simp; omega)
      rw [List.append_assoc] at h2
      refine Ev.step (h2.congr fun n => ?_)
      rw [F25_L1, decide_eq_true (by omega), iteB_t, toNat_nat, hg, g64 i (by omega), grd_t _ (by omega), Trim_eq n y (by omega), bind_some', show (trimT y == []) = false by rw [beq_eq_false_iff_ne]; exact h, Bool.not_false, iteB_t, grd_t _ (by omega)]
def wordsT (s : List UInt8) : List (List UInt8) := wordsF (splitB 44 s)
theorem ev_Words (s : List UInt8) (hs : s.length ≤ 100000) : Ev (fun n => F25 n s) (wordsT s) := by
  have hl := split_len 44 s
  have h := words_loop (splitB 44 s) (by omega) (fun x hx => by have := split_piece 44 s x hx; omega) (splitB 44 s).length 0 [] (by omega) (by simp)
  rw [List.nil_append, List.drop_zero] at h
  exact (Ev.bind (g := fun n v => F25_L1 n v (0 : Int) []) (ev_Split 44 s (by omega)) h).congr fun n => rfl
theorem rwords_loop (s : List UInt8) (hs : s.length ≤ 100000) : ∀ (d i : Nat) (x : List UInt8) (w : List (List UInt8)), i + d = s.length → (44 : UInt8) ∉ x → x.length ≤ i → w.length ≤ i →
    Ev (fun n => F26_L1 n s x (i : Int) w) (w ++ wordsF (splitB 44 (x ++ s.drop i))) := by
  have last : ∀ (w : List (List UInt8)), Ev (fun n => F26_L1 n s [] ((s.length + 1 : Nat) : Int) w) w := fun w =>
    Ev.step (Ev.pure.congr fun n => by rw [F26_L1, decide_eq_false (by omega), iteB_f])
  intro d
  induction d with
  | zero =>
    intro i x w hi hx hxl hwl
    rw [List.drop_of_length_le (by omega), List.append_nil, split_none 44 x hx, wordsF_cons, show wordsF [] = [] from rfl]
    obtain ⟨N1, e1⟩ := ev_trim x (by omega)
    have hi' : IntKind.wrap .i64 ((i : Int) + 1) = ((s.length + 1 : Nat) : Int) := by rw [g64 i (by omega)]; omega
    by_cases h : trimT x = []
    · rw [if_pos h, List.append_nil]
      obtain ⟨N2, e2⟩ := last w
      refine Ev.step ⟨N1 + N2, fun n hn => ?_⟩
      have q1 := e1 n (by omega)
      have q2 := e2 n (by omega)
      dsimp only at q1 q2
      show F26_L1 (n + 1) s x (i : Int) w = _
      rw [F26_L1, decide_eq_true (by omega), iteB_t, decide_eq_false (by omega), iteB_f, q1, bind_some', h, hi']
      exact q2
    · rw [if_neg h]
      obtain ⟨N2, e2⟩ := last (w ++ [trimT x])
      refine Ev.step ⟨N1 + N2, fun n hn => ?_⟩
      have q1 := e1 n (by omega)
      have q2 := e2 n (by omega)
      dsimp only at q1 q2
      show F26_L1 (n + 1) s x (i : Int) w = _
      rw [F26_L1, decide_eq_true (by omega), iteB_t, decide_eq_false (by omega), iteB_f, q1, bind_some', show (trimT x == []) = false by rw [beq_eq_false_iff_ne]; exact h, Bool.not_false, iteB_t, bind_some', grd_t _ (by omega), hi']
      exact q2
  | succ d ih =>
    intro i x w hi hx hxl hwl
    have hd : s.drop i = s.getD i 0 :: s.drop (i + 1) := drop_cons s i 0 (by omega)
    have hone : (s.take (i + 1)).drop i = [s.getD i 0] := by
      rw [List.drop_take, hd, Nat.add_sub_cancel_left]; rfl
    have hbe : (((s.getD i 0).toNat : Int) != 44) = !decide (s.getD i 0 = 44) := by
      by_cases h : s.getD i 0 = 44
      · rw [h]; rfl
      · rw [decide_eq_false h, Bool.not_false, bne_iff_ne]
        intro e
        exact h (UInt8.toNat_inj.1 (show (s.getD i 0).toNat = 44 by omega))
    by_cases h : s.getD i 0 = 44
    · rw [hd, h, split_app 44 _ x hx, wordsF_cons]
      obtain ⟨N1, e1⟩ := ev_trim x (by omega)
      rw [decide_eq_true h, Bool.not_true] at hbe
      by_cases ht : trimT x = []
      · rw [if_pos ht]
        obtain ⟨N2, e2⟩ := ih (i + 1) [] w (by omega) (by simp) (by simp) (by omega)
        rw [List.nil_append] at e2
        refine Ev.step ⟨N1 + N2, fun n hn => ?_⟩
        have q1 := e1 n (by omega)
        have q2 := e2 n (by omega)
        dsimp only at q1 q2
        show F26_L1 (n + 1) s x (i : Int) w = _
        rw [F26_L1, decide_eq_true (by omega), iteB_t, decide_eq_true (by omega), iteB_t, toNat_nat, grd_t _ (by omega), hbe, iteB_f, q1, bind_some', ht, g64 i (by omega)]
        exact q2
      · rw [if_neg ht]
        obtain ⟨N2, e2⟩ := ih (i + 1) [] (w ++ [trimT x]) (by omega) (by simp) (by simp) (by simp; omega)
        rw [List.nil_append, List.append_assoc] at e2
        refine Ev.step ⟨N1 + N2, fun n hn => ?_⟩
        have q1 := e1 n (by omega)
        have q2 := e2 n (by omega)
        dsimp only at q1 q2
        show F26_L1 (n + 1) s x (i : Int) w = _
        rw [F26_L1, decide_eq_true (by omega), iteB_t, decide_eq_true (by omega), iteB_t, toNat_nat, grd_t _ (by omega), hbe, iteB_f, q1, bind_some', show (trimT x == []) = false by rw [beq_eq_false_iff_ne]; exact ht, Bool.not_false, iteB_t, bind_some', grd_t _ (by omega), g64 i (by omega)]
        exact q2
    · rw [hd, show x ++ s.getD i 0 :: s.drop (i + 1) = (x ++ [s.getD i 0]) ++ s.drop (i + 1) by simp]
      rw [decide_eq_false h, Bool.not_false] at hbe
      refine Ev.step ((ih (i + 1) (x ++ [s.getD i 0]) w (by omega) ?_ (by simp; omega) (by omega)).congr fun n => ?_)
      · rw [List.mem_append]
        rintro (e | e)
        · exact hx e
        · simp at e; exact h e.symm
      · rw [F26_L1, decide_eq_true (by omega), iteB_t, decide_eq_true (by omega), iteB_t, toNat_nat, grd_t _ (by omega), hbe, iteB_t, g64 i (by omega), toNat_nat, hone, grd_t _ (by omega), grd_t _ (by simp; omega)]
theorem ev_rWords (s : List UInt8) (hs : s.length ≤ 100000) : Ev (fun n => F26 n s) (wordsT s) := by
  have h := rwords_loop s hs s.length 0 [] [] (by omega) (by simp) (by simp) (by simp)
  rw [List.nil_append, List.nil_append, List.drop_zero] at h
  exact h.congr fun n => rfl
/-- A tag's text. -/
def quoteT (t : Tg) : List UInt8 := if t.1 = true then [87, 47] ++ ([34] ++ t.2 ++ [34]) else [34] ++ t.2 ++ [34]
theorem Quote_eq (n : Nat) (t : Tg) (h : t.2.length ≤ 1000000) : F11 n t = some (quoteT t) ∧ F27 n t = some (quoteT t) := by
  unfold quoteT
  obtain ⟨b, s⟩ := t
  have h : s.length ≤ 1000000 := h
  refine ⟨?_, ?_⟩
  · rw [F11, grd_t _ (by dsimp only; omega), grd_t _ (by dsimp only; omega), grd_t _ (by dsimp only; omega)]
    cases b <;> rfl
  · rw [F27, grd_t _ (by dsimp only; omega), grd_t _ (by dsimp only; omega), grd_t _ (by dsimp only; omega)]
    cases b <;> rfl
theorem tags_star : tagsT [32, 42, 32] = ([], true, true) := by decide
theorem tags_l2 (v : List (List UInt8)) (hv : v.length ≤ 1000000) : ∀ (d i : Nat), i + d = v.length → Ev (fun n => F6_L2 n v v (i : Int)) true := by
  intro d
  induction d with
  | zero =>
    intro i hi
    obtain ⟨⟨N, e⟩, _⟩ := ev_Tags [32, 42, 32] (by decide)
    refine Ev.step ⟨N, fun n hn => ?_⟩
    have q := e n hn
    dsimp only at q
    show F6_L2 (n + 1) v v (i : Int) = _
    rw [F6_L2, decide_eq_false (by omega), iteB_f, q, bind_some', tags_star]
    rfl
  | succ d ih =>
    intro i hi
    refine Ev.step ((ih (i + 1) (by omega)).congr fun n => ?_)
    rw [F6_L2, decide_eq_true (by omega), iteB_t, grd_t _ (by omega), grd_t _ (by omega), beq_self_eq_true, Bool.not_true, iteB_f, g64 i (by omega)]
theorem tags_l1 (t : Tgs) (v : List (List UInt8)) (ht : t.1.length ≤ 1000000) (hv : v.length ≤ 1000000) : ∀ (d i : Nat), i + d = t.1.length → Ev (fun n => F6_L1 n t t v v (i : Int)) true := by
  intro d
  induction d with
  | zero =>
    intro i hi
    refine Ev.step ((tags_l2 v hv v.length 0 (by omega)).congr fun n => ?_)
    rw [F6_L1, decide_eq_false (by omega), iteB_f]
    rfl
  | succ d ih =>
    intro i hi
    refine Ev.step ((ih (i + 1) (by omega)).congr fun n => ?_)
    rw [F6_L1, decide_eq_true (by omega), iteB_t, grd_t _ (by omega), grd_t _ (by omega), beq_self_eq_true, beq_self_eq_true, Bool.and_self, Bool.not_true, iteB_f, g64 i (by omega)]
theorem tagsL_len : ∀ (d : Nat) (s : List UInt8) (fr : Bool) (acc : List Tg), (tagsL d s fr acc).1.length ≤ acc.length + d
  | 0, s, fr, acc => by rw [tagsL]; simp
  | d + 1, [], fr, acc => by rw [tagsL]; simp
  | d + 1, c :: r, fr, acc => by
    rw [tagsL]
    split
    · have := tagsL_len d (trimT r) true acc; omega
    · split
      · simp
      · split
        · simp
        · have := tagsL_len d (trimT (tgOne (c :: r)).2.1) false (acc ++ [(tgOne (c :: r)).1])
          simp at this; omega
theorem tagsT_len (s : List UInt8) : (tagsT s).1.length ≤ s.length := by
  have h := trimT_len s
  unfold tagsT
  split
  · simp
  · have := tagsL_len (trimT s).length (trimT s) true []
    simp at this; omega
theorem wordsT_len (s : List UInt8) : (wordsT s).length ≤ s.length + 1 := by
  have h := split_len 44 s
  unfold wordsT wordsF
  have := List.length_filter_le (fun w : List UInt8 => !(w == [])) ((splitB 44 s).map trimT)
  rw [List.length_map] at this
  omega
theorem tags_law (s : List UInt8) (t : Tg) (hs : s.length ≤ 140737488351232) (ht : t.2.length ≤ 140737488351232) : Ev (fun n => F6 n s t) true := by
  have hw : IntKind.wrap .i64 ((s.length : Int) + (t.2.length : Int)) = (s.length : Int) + (t.2.length : Int) := w64 (by omega)
  by_cases h9 : (900 : Int) < (s.length : Int) + (t.2.length : Int)
  · refine Ev.pure.congr fun n => ?_
    rw [F6, hw, decide_eq_true h9, iteB_t]
  · obtain ⟨⟨N1, e1⟩, ⟨N2, e2⟩⟩ := ev_Tags s (by omega)
    obtain ⟨N3, e3⟩ := ev_Words s (by omega)
    obtain ⟨N4, e4⟩ := ev_rWords s (by omega)
    have hl1 := tagsT_len s
    have hl2 := wordsT_len s
    obtain ⟨N5, e5⟩ := tags_l1 (tagsT s) (wordsT s) (by omega) (by omega) (tagsT s).1.length 0 (by omega)
    refine ⟨N1 + N2 + N3 + N4 + N5, fun n hn => ?_⟩
    have q1 := e1 n (by omega)
    have q2 := e2 n (by omega)
    have q3 := e3 n (by omega)
    have q4 := e4 n (by omega)
    have q5 := e5 n (by omega)
    dsimp only at q1 q2 q3 q4 q5
    obtain ⟨q6, q7⟩ := Quote_eq n t (by omega)
    show F6 n s t = _
    rw [F6, hw, decide_eq_false h9, iteB_f, q1, bind_some', q2, bind_some', q3, bind_some', q4, bind_some', beq_self_eq_true, Bool.not_true, iteB_f, beq_self_eq_true, Bool.not_true, iteB_f, show (((tagsT s).1.length : Int) != ((tagsT s).1.length : Int)) = false from bne_self_eq_false _, iteB_f, show (((wordsT s).length : Int) != ((wordsT s).length : Int)) = false from bne_self_eq_false _, iteB_f, show F11 n (t.1, t.2) = some (quoteT t) from q6, bind_some', show F27 n (t.1, t.2) = some (quoteT t) from q7, bind_some', beq_self_eq_true, Bool.not_true, iteB_f]
    exact q5
theorem law_main (v0 : List UInt8) (v1 : Tg) (h0 : okT9 v0) (h1 : okT23 v1) (s0 : v0.length ≤ 140737488351232) (s1 : v1.2.length ≤ 140737488351232) : ∃ n, F6 n v0 v1 = some true := by
  obtain ⟨N, h⟩ := tags_law v0 v1 s0 s1
  exact ⟨N, h N (Nat.le_refl _)⟩
end Go.Proofs.YtbdkofondpalpaaDoorX

set_option linter.unusedVariables false
namespace Go.Proofs.YtbdkofondpalpaaDoorX
open Go Go.RowKit Go.Proofs
set_option maxRecDepth 100000
theorem shapedRow (xs : List T) (h : ShapesW Tryd.prog [9, 24] xs) (hsz : ∀ (j : Nat) (t : TypeId) (x : T) (s : ByteArray), ([9, 24] : List TypeId)[j]? = some t → xs[j]? = some x → strIn Tryd.prog t x s → s.size ≤ reachBytes) : FnC Tryd.prog 6 xs (tb true) := shapedHeaderTags law_main xs h hsz
end Go.Proofs.YtbdkofondpalpaaDoorX
namespace Go.Proofs.YtbdkofondpalpaaDoor.headerTags
open Go.ChangeShapes Go.WideShapes Go.ChangeAt Go.RowKit
set_option linter.unusedVariables false
theorem own : ownKnob Tryd.prog.godebug = none := by kernel_rfl
set_option maxRecDepth 100000 in
theorem lifted (os : Os) (started : os.Started) (H : Type) (enc : TypeId × Value → H) :
    ReturnsInHanded {} Tryd.checked os 6 .any (fun w args => (Rows.headerTagsSpec.pre enc Tryd.prog Tryd.f6 [] false w args ∧ laidMetH Tryd.prog Rows.headerTagsRow.laid w) ∧ sizedMet enc Tryd.prog Tryd.f6 (OpenSpec.ofChange Rows.headerTagsSpec) false w args) (Rows.headerTagsSpec.post enc Tryd.prog Tryd.f6 false true false false) := by
  refine returnsInHanded_of_change_and (C := Tryd.checked) (X := fun w _ => laidMetH Tryd.prog Rows.headerTagsRow.laid w) (fun _ _ _ hh h => h.of_heap hh) own started (by kernel_rfl) Tryd.func6
    (ChangeSpec.witness_shaped (enc := enc) (C := Tryd.checked) (os := os) (X := fun w _ => laidMetH Tryd.prog Rows.headerTagsRow.laid w) false (World.laidAll Tryd.prog os Rows.headerTagsRow.laid) #[.string ByteArray.empty, .agg #[.bool false, .string ByteArray.empty]] 8 (World.laidAll_os _ _ _)
      (World.shaped_of_ZipB (by kernel_rfl) (by kernel_rfl)) (by kernel_rfl) (by kernel_rfl) (by kernel_rfl)
      (by rw [MakeChecks.laidMetH_plain _ _ _ (by kernel_rfl)]; exact laidMet_laidAll _ (by kernel_rfl) (by kernel_rfl))) ?_
  intro W base args ds gs before hval0 hW _ hz hL _
  exact YtbdkofondpalpaaDoorX.row_contract_sz (P := Tryd.prog) (fn := Tryd.f6) (s := Rows.headerTagsSpec) (ts := [9, 24]) (tb := 4) (L := [9, 24, 23, 4]) (by kernel_rfl) (by kernel_rfl) (by kernel_rfl) (by kernel_rfl) (by kernel_rfl) (by kernel_rfl) rfl
    (fun H ds h => by
      match ds, h with
      | [d0, d1], _ => rfl) YtbdkofondpalpaaDoorX.shapedRow W base args ds gs before hval0 hW hz
theorem over : Rows.headerTagsRow.holds Tryd.pinned (OpenSpec.ofChange Rows.headerTagsSpec) :=
  OpenClaim.holds_of_wide 6 Tryd.f6 rfl rfl rfl rfl rfl rfl rfl ⟨rfl, rfl, rfl, rfl, rfl⟩ rfl rfl rfl rfl rfl (by kernel_rfl) Tryd.func6 (by kernel_rfl)
    (of_decide_eq_true (by kernel_rfl)) (by unfold Func.isWrapper; first | (rw [if_pos (by decide +kernel)]; kernel_rfl) | (rw [if_neg (by decide +kernel)]; exact ⟨rfl, rfl⟩))
    (fun os started H enc _ => lifted os started H enc)
theorem proved : Rows.HeaderTagsCardSaid :=
  Claim7.holds_tied_plain_at .later [] [.data, .pinned] true (true, "48a05177c2816304ae20193907aa78ea5bf3c06c577e3e3e520e080529c15cb6") false
    over (fun _ h => by cases h) (by kernel_rfl) (fun _ h => by cases h) headerTags_row_tie rfl ⟨rfl, rfl⟩ (by kernel_rfl) rfl
    (fun f fn hf hfn => by
      obtain rfl : f = 6 := Option.some.inj ((show Tryd.prog.funcNamed "shadowbox/shadowboxlaw30.HeaderTags" = some 6 by kernel_rfl).symm.trans hf) |>.symm
      obtain rfl : fn = Tryd.f6 := (Option.some.inj (Tryd.func6.symm.trans hfn)).symm
      exact ⟨by kernel_rfl, fun j t ht => by
        rw [Tryd.params6] at ht
        have hm : t ∈ [9, 24] := by simpa using Array.mem_of_getElem? ht
        have hall : ([9, 24].all fun u => !Tryd.prog.wantsStandIn u) = true := by kernel_rfl
        exact (show Tryd.prog.wantsStandIn t = false by simpa using List.all_eq_true.1 hall t hm)⟩)
    (by kernel_rfl)
#print axioms proved
end Go.Proofs.YtbdkofondpalpaaDoor.headerTags
namespace Go.Proofs.YtbdkofondpalpaaDoor
/-- The card, under a short name, for the claim. -/
theorem headerTags_holds : Rows.HeaderTagsCardSaid := headerTags.proved
end Go.Proofs.YtbdkofondpalpaaDoor
