/- Part of the proof of ReplyReads: walks and plain words, merged. -/
import Derived.Test.YtdjgldjebcoihaaDoorBReplyReadsc
import Derived.Laws.AppendOwn
import Derived.WalkKit
import Derived.Deep.LoopGhost
import Derived.Lib.Walk
import Derived.Lib.SliceRun
import Derived.Test.YtdjgldjebcoihaaDoorBReplyReadsb
import Derived.Lib.SplitLaws
import Derived.Handed
import Derived.Shelf.Vars
import Derived.Test.YtdjgldjebcoihaaDoorRows
import Derived.Test.YtdjgldjebcoihaaDoorCards
import Derived.Test.YtdjgldjebcoihaaDoorTie
import Derived.Test.YtdjgldjebcoihaaDoorChecked
import Derived.HandedShaped
import Derived.ProofKit
import Derived.OpenShut
import Derived.Lay
import Derived.LaidMore
import Derived.LaidOnce
import Derived.SevenTiedAt
set_option linter.unusedVariables false
set_option linter.unusedSimpArgs false

set_option linter.unusedVariables false
set_option linter.unusedSimpArgs false
namespace Go.Proofs.YtdjgldjebcoihaaDoorX
open Go Go.RowKit Go.Proofs
set_option maxRecDepth 100000
attribute [local go_sem ↓] stepsK_build stepsK_bs appendS
attribute [local go_sem] String.reduceEq String.reduceNe reduceCtorEq Int.reduceEq Nat.reduceAdd Nat.reduceSub Nat.reduceMul Nat.reduceLT Nat.reduceLeDiff Nat.reduceEqDiff Nat.reduceBEq Int.reduceToNat Int.reduceLT Int.reduceLE Int.reduceGT Int.reduceGE Int.reduceAdd Int.reduceSub Int.reduceMul Int.reduceNeg Int.reduceBEq Int.reduceBNe Int.reducePow Int.reduceDiv Int.reduceMod Int.reduceTDiv Int.reduceTMod Int.reduceNatCast
/-! ### hex.ReadDecimal -/
def F43_S1 (a0 : List UInt8) (x3 : Int) (x4 : Int) : St := ⟨[.imm (.string (bs a0)), .junk, .junk, .junk, .imm (.int .i64 x3), .junk, .junk, .junk, .junk, .junk, .junk, .junk, .junk, .junk, .imm (.int .i64 (a0.length : Int)), .imm (.int .i64 x4), .junk, .junk, .junk, .junk, .junk, .junk, .junk, .junk, .junk, .junk, .junk, .junk, .junk, .junk, .junk, .junk, .junk], []⟩
def F43_L1 : Nat → (List UInt8) → (Int) → (Int) → Option ((Int) × (Bool))
 | 0, _, _, _ => none
 | m1 + 1, a0, x3, x4 => iteB (decide (x4 < (a0.length : Int))) (grd (0 ≤ x4 ∧ x4 < (a0.length : Int)) ((F58 m1 ((a0.getD x4.toNat 0).toNat : Int)).bind fun v7 => iteB (v7 != (1 : Int)) (some ((0 : Int), false)) (grd (0 ≤ x4 ∧ x4 < (a0.length : Int)) (F43_L1 m1 a0 (IntKind.wrap .i64 ((IntKind.wrap .i64 (x3 * (10 : Int))) + (IntKind.wrap .i64 ((IntKind.wrap .u8 (((a0.getD x4.toNat 0).toNat : Int) - (48 : Int))))))) (IntKind.wrap .i64 (x4 + (1 : Int))))))) (some (x3, true))
def F43 (n : Nat) (a0 : List UInt8) : Option ((Int) × (Bool)) := iteB (a0 == []) (some ((0 : Int), false)) (iteB (decide ((18 : Int) < (a0.length : Int))) (some ((0 : Int), false)) (F43_L1 n a0 (0 : Int) (0 : Int)))
set_option maxHeartbeats 4000000 in
theorem F43_ok : ∀ (n : Nat) (a0 : List UInt8) (r : (Int) × (Bool)), F43 n a0 = some r → FnC Tryd.prog 43 [.imm (.string (bs a0))] (.tup [.imm (.int .i64 r.1), .imm (.bool r.2)])
 | n, a0, r, h => by
  unfold F43 at h
  refine FnC.goX mixed Tryd.func43 (by kernel_rfl) rfl ?_
  simp only [Tryd.ntmps43, List.length_cons, List.length_nil, List.replicate, List.cons_append, List.nil_append, Nat.reduceAdd, Nat.reduceSub]
  refine runX_seq ?_
  refine runX_regionC fun C hC => ?_
  try simp -implicitDefEqProofs (maxSteps := 4000000) (disch := first | omega | decide | (simp only [go_sem]; omega)) only [go_sem, ↓reduceIte]
  repeat (with_reducible refine And.intro (by first | assumption | omega | (simp; done) | (simp; omega)) ?_)
  refine toEnd hC ?_
  refine endX_seq ?_
  refine runX_seq ?_
  refine runX_seq ?_
  refine runX_regionC fun C hC => ?_
  try simp -implicitDefEqProofs (maxSteps := 4000000) (disch := first | omega | decide | (simp only [go_sem]; omega)) only [go_sem, ↓reduceIte]
  repeat (with_reducible refine And.intro (by first | assumption | omega | (simp; done) | (simp; omega)) ?_)
  rcases iteB_some h with ⟨c1, h⟩ | ⟨c1, h⟩
  ·refine guardK_F c1 ?_
   try simp -implicitDefEqProofs (maxSteps := 4000000) (disch := first | omega | decide | (simp only [go_sem]; omega)) only [go_sem, ↓reduceIte]
   repeat (with_reducible refine And.intro (by first | assumption | omega | (simp; done) | (simp; omega)) ?_)
   refine toEnd hC ?_
   refine endX_seq ?_
   refine runX_condT rfl rfl ?_
   refine runX_seq ?_
   refine runX_regionC fun C hC => ?_
   try simp -implicitDefEqProofs (maxSteps := 4000000) (disch := first | omega | decide | (simp only [go_sem]; omega)) only [go_sem, ↓reduceIte]
   repeat (with_reducible refine And.intro (by first | assumption | omega | (simp; done) | (simp; omega)) ?_)
   refine toEnd hC ?_
   refine endX_seq ?_
   refine runX_ret ?_
   refine endX_seqR ?_
   refine endX_q ?_
   obtain rfl := Option.some.inj h
   show RetW _ _ _ _ _
   simp only [RetW]
   (try simp -implicitDefEqProofs (maxSteps := 4000000) (disch := first | omega | decide | (simp only [go_sem]; omega)) only [go_sem, ↓reduceIte])
   (try simp (disch := omega) only [if_pos, Nat.sub_zero])
   exact leT_refl _
  ·refine guardK_T c1 ?_
   try simp -implicitDefEqProofs (maxSteps := 4000000) (disch := first | omega | decide | (simp only [go_sem]; omega)) only [go_sem, ↓reduceIte]
   repeat (with_reducible refine And.intro (by first | assumption | omega | (simp; done) | (simp; omega)) ?_)
   refine toEnd hC ?_
   refine endX_seq ?_
   rcases iteB_some h with ⟨c2, h⟩ | ⟨c2, h⟩
   ·refine runX_condT rfl c2 ?_
    refine runX_seq ?_
    refine runX_regionC fun C hC => ?_
    try simp -implicitDefEqProofs (maxSteps := 4000000) (disch := first | omega | decide | (simp only [go_sem]; omega)) only [go_sem, ↓reduceIte]
    repeat (with_reducible refine And.intro (by first | assumption | omega | (simp; done) | (simp; omega)) ?_)
    refine toEnd hC ?_
    refine endX_seq ?_
    refine runX_ret ?_
    refine endX_seqR ?_
    refine endX_q ?_
    obtain rfl := Option.some.inj h
    show RetW _ _ _ _ _
    simp only [RetW]
    (try simp -implicitDefEqProofs (maxSteps := 4000000) (disch := first | omega | decide | (simp only [go_sem]; omega)) only [go_sem, ↓reduceIte])
    (try simp (disch := omega) only [if_pos, Nat.sub_zero])
    exact leT_refl _
   ·refine runX_condF rfl c2 ?_
    refine runX_skip ?_
    refine endX_seq ?_
    refine runX_seq ?_
    refine runX_regionC fun C hC => ?_
    try simp -implicitDefEqProofs (maxSteps := 4000000) (disch := first | omega | decide | (simp only [go_sem]; omega)) only [go_sem, ↓reduceIte]
    repeat (with_reducible refine And.intro (by first | assumption | omega | (simp; done) | (simp; omega)) ?_)
    refine toEnd hC ?_
    refine endX_seq ?_
    refine runX_seq ?_
    refine runX_seq ?_
    refine runX_regionC fun C hC => ?_
    try simp -implicitDefEqProofs (maxSteps := 4000000) (disch := first | omega | decide | (simp only [go_sem]; omega)) only [go_sem, ↓reduceIte]
    repeat (with_reducible refine And.intro (by first | assumption | omega | (simp; done) | (simp; omega)) ?_)
    refine toEnd hC ?_
    refine endX_seq ?_
    refine runX_block ?_
    refine runX_loop [0, 4, 14, 15] (fun m S => ∃ (x3 : Int) (x4 : Int), S = F43_S1 a0 x3 x4 ∧ m ≤ n ∧ F43_L1 m a0 x3 x4 = some r) n ⟨F43_S1 a0 (0 : Int) (0 : Int), ?_, (0 : Int), (0 : Int), rfl, Nat.le_refl _, h⟩ ?_
    ·simp only [F43_S1]
     (try simp -implicitDefEqProofs (maxSteps := 4000000) (disch := first | omega | decide | (simp only [go_sem]; omega)) only [go_sem, ↓reduceIte])
     first | exact leS_refl _ | (refine leS_le ?_ ?_ <;> first | exact leL_refl _ | exact leOs_refl _ | (simp only [List.append_assoc, List.cons_append, List.nil_append]; exact leOs_refl _) | (repeat (first | exact leL_refl _ | refine leL_cons (by first | exact leT_refl _ | exact leT_virt | exact leT_junk _ | exact leT_sl | exact leT_sln | exact leT_nil | (refine leT_agg (by repeat (first | exact leL_refl _ | refine leL_cons (by first | exact leT_refl _ | exact leT_sl | exact leT_sln | exact leT_nil) ?_)))) ?_)))
    ·clear h
     rintro m1 S ⟨x3, x4, rfl, hm1, h⟩
     cases m1 with
     | zero => first | cases (show (none : Option _) = some _ from h) | (rw [F43_L1] at h; cases h)
     | succ m1 =>
      rw [F43_L1] at h
      simp only [F43_S1]
      refine runX_seq ?_
      refine runX_regionC fun C hC => ?_
      try simp -implicitDefEqProofs (maxSteps := 4000000) (disch := first | omega | decide | (simp only [go_sem]; omega)) only [go_sem, ↓reduceIte]
      repeat (with_reducible refine And.intro (by first | assumption | omega | (simp; done) | (simp; omega)) ?_)
      refine toEnd hC ?_
      refine endX_seq ?_
      refine runX_seq ?_
      rcases iteB_some h with ⟨c5, h⟩ | ⟨c5, h⟩
      ·refine runX_condT rfl c5 ?_
       refine runX_skip ?_
       refine endX_seq ?_
       refine runX_seq ?_
       refine runX_block ?_
       refine runX_seq ?_
       refine runX_regionC fun C hC => ?_
       try simp -implicitDefEqProofs (maxSteps := 4000000) (disch := first | omega | decide | (simp only [go_sem]; omega)) only [go_sem, ↓reduceIte]
       repeat (with_reducible refine And.intro (by first | assumption | omega | (simp; done) | (simp; omega)) ?_)
       refine toEnd hC ?_
       refine endX_seq ?_
       refine runX_seq ?_
       refine runX_seq ?_
       refine runX_regionC fun C hC => ?_
       obtain ⟨g6, h⟩ := grd_some h
       obtain ⟨v7, h7, h⟩ := bnd_some h
       try simp -implicitDefEqProofs (maxSteps := 4000000) (disch := first | omega | decide | (simp only [go_sem]; omega)) only [go_sem, ↓reduceIte]
       repeat (with_reducible refine And.intro (by first | assumption | omega | (simp; done) | (simp; omega)) ?_)
       refine callG_X (by first | rfl | (simp only [go_sem]; done) | (simp only [closedL, closedT, Bool.and_true]; exact closedL_map _ (fun _ => by first | rfl | (simp only [go_sem]; done)) _)) (F58_ok m1 ((a0.getD x4.toNat 0).toNat : Int) _ h7) (by repeat (first | exact leL_refl _ | refine leL_cons (by first | exact leT_refl _ | exact leT_virt | exact leT_junk _ | exact leT_sl | exact leT_sln | exact leT_nil | (refine leT_agg (by repeat (first | exact leL_refl _ | refine leL_cons (by first | exact leT_refl _ | exact leT_sl | exact leT_sln | exact leT_nil) ?_)))) ?_)) ?_
       try simp -implicitDefEqProofs (maxSteps := 4000000) (disch := first | omega | decide | (simp only [go_sem]; omega)) only [go_sem, ↓reduceIte]
       repeat (with_reducible refine And.intro (by first | assumption | omega | (simp; done) | (simp; omega)) ?_)
       refine toEnd hC ?_
       refine endX_seq ?_
       rcases iteB_some h with ⟨c8, h⟩ | ⟨c8, h⟩
       ·refine runX_condT rfl c8 ?_
        refine runX_seq ?_
        refine runX_regionC fun C hC => ?_
        try simp -implicitDefEqProofs (maxSteps := 4000000) (disch := first | omega | decide | (simp only [go_sem]; omega)) only [go_sem, ↓reduceIte]
        repeat (with_reducible refine And.intro (by first | assumption | omega | (simp; done) | (simp; omega)) ?_)
        refine toEnd hC ?_
        refine endX_seq ?_
        refine runX_ret ?_
        refine endX_seqR ?_
        refine endX_blkR ?_
        refine endX_seqR ?_
        refine endX_q (roundQ_ret ?_)
        refine endX_blkR ?_
        refine endX_seqR ?_
        refine endX_q ?_
        obtain rfl := Option.some.inj h
        show RetW _ _ _ _ _
        simp only [RetW]
        (try simp -implicitDefEqProofs (maxSteps := 4000000) (disch := first | omega | decide | (simp only [go_sem]; omega)) only [go_sem, ↓reduceIte])
        (try simp (disch := omega) only [if_pos, Nat.sub_zero])
        exact leT_refl _
       ·refine runX_condF rfl c8 ?_
        refine runX_skip ?_
        refine endX_seq ?_
        refine runX_regionC fun C hC => ?_
        obtain ⟨g9, h⟩ := grd_some h
        try simp -implicitDefEqProofs (maxSteps := 4000000) (disch := first | omega | decide | (simp only [go_sem]; omega)) only [go_sem, ↓reduceIte]
        repeat (with_reducible refine And.intro (by first | assumption | omega | (simp; done) | (simp; omega)) ?_)
        refine toEnd hC ?_
        refine endX_blk ?_
        refine endX_seq ?_
        refine runX_regionC fun C hC => ?_
        try simp -implicitDefEqProofs (maxSteps := 4000000) (disch := first | omega | decide | (simp only [go_sem]; omega)) only [go_sem, ↓reduceIte]
        repeat (with_reducible refine And.intro (by first | assumption | omega | (simp; done) | (simp; omega)) ?_)
        refine toEnd hC ?_
        refine endX_q (roundQ_normal ⟨m1, by omega, F43_S1 a0 (IntKind.wrap .i64 ((IntKind.wrap .i64 (x3 * (10 : Int))) + (IntKind.wrap .i64 ((IntKind.wrap .u8 (((a0.getD x4.toNat 0).toNat : Int) - (48 : Int))))))) (IntKind.wrap .i64 (x4 + (1 : Int))), ?_, (IntKind.wrap .i64 ((IntKind.wrap .i64 (x3 * (10 : Int))) + (IntKind.wrap .i64 ((IntKind.wrap .u8 (((a0.getD x4.toNat 0).toNat : Int) - (48 : Int))))))), (IntKind.wrap .i64 (x4 + (1 : Int))), rfl, by omega, h⟩)
        simp only [F43_S1]
        (try simp -implicitDefEqProofs (maxSteps := 4000000) (disch := first | omega | decide | (simp only [go_sem]; omega)) only [go_sem, ↓reduceIte])
        first | exact leS_refl _ | (refine leS_le ?_ ?_ <;> first | exact leL_refl _ | exact leOs_refl _ | (simp only [List.append_assoc, List.cons_append, List.nil_append]; exact leOs_refl _) | (repeat (first | exact leL_refl _ | refine leL_cons (by first | exact leT_refl _ | exact leT_virt | exact leT_junk _ | exact leT_sl | exact leT_sln | exact leT_nil | (refine leT_agg (by repeat (first | exact leL_refl _ | refine leL_cons (by first | exact leT_refl _ | exact leT_sl | exact leT_sln | exact leT_nil) ?_)))) ?_)))
      ·refine runX_condF rfl c5 ?_
       refine runX_exit ?_
       refine endX_seqE ?_
       refine endX_q (roundQ_exit ?_)
       refine endX_blkE ?_
       refine endX_seq ?_
       refine runX_seq ?_
       refine runX_regionC fun C hC => ?_
       try simp -implicitDefEqProofs (maxSteps := 4000000) (disch := first | omega | decide | (simp only [go_sem]; omega)) only [go_sem, ↓reduceIte]
       repeat (with_reducible refine And.intro (by first | assumption | omega | (simp; done) | (simp; omega)) ?_)
       refine toEnd hC ?_
       refine endX_seq ?_
       refine runX_ret ?_
       refine endX_q ?_
       obtain rfl := Option.some.inj h
       show RetW _ _ _ _ _
       simp only [RetW]
       (try simp -implicitDefEqProofs (maxSteps := 4000000) (disch := first | omega | decide | (simp only [go_sem]; omega)) only [go_sem, ↓reduceIte])
       (try simp (disch := omega) only [if_pos, Nat.sub_zero])
       exact leT_refl _
end Go.Proofs.YtdjgldjebcoihaaDoorX

set_option linter.unusedVariables false
set_option linter.unusedSimpArgs false
namespace Go.Proofs.YtdjgldjebcoihaaDoorX
open Go Go.RowKit Go.Proofs
set_option maxRecDepth 100000
attribute [local go_sem ↓] stepsK_build stepsK_bs appendS
attribute [local go_sem] String.reduceEq String.reduceNe reduceCtorEq Int.reduceEq Nat.reduceAdd Nat.reduceSub Nat.reduceMul Nat.reduceLT Nat.reduceLeDiff Nat.reduceEqDiff Nat.reduceBEq Int.reduceToNat Int.reduceLT Int.reduceLE Int.reduceGT Int.reduceGE Int.reduceAdd Int.reduceSub Int.reduceMul Int.reduceNeg Int.reduceBEq Int.reduceBNe Int.reducePow Int.reduceDiv Int.reduceMod Int.reduceTDiv Int.reduceTMod Int.reduceNatCast
/-! ### internal/stringslite.HasPrefix -/
def F84 (n : Nat) (a0 : List UInt8) (a1 : List UInt8) : Option (Bool) := iteB (decide ((a1.length : Int) ≤ (a0.length : Int))) (grd (0 ≤ (a1.length : Int) ∧ (a1.length : Int) ≤ (a0.length : Int)) (some ((a0.take (a1.length : Int).toNat) == a1))) (some false)
set_option maxHeartbeats 4000000 in
theorem F84_ok : ∀ (n : Nat) (a0 : List UInt8) (a1 : List UInt8) (r : Bool), F84 n a0 a1 = some r → FnC Tryd.prog 84 [.imm (.string (bs a0)), .imm (.string (bs a1))] (.imm (.bool r))
 | n, a0, a1, r, h => by
  unfold F84 at h
  refine FnC.goX mixed Tryd.func84 (by kernel_rfl) rfl ?_
  simp only [Tryd.ntmps84, List.length_cons, List.length_nil, List.replicate, List.cons_append, List.nil_append, Nat.reduceAdd, Nat.reduceSub]
  refine runX_seq ?_
  refine runX_regionC fun C hC => ?_
  try simp -implicitDefEqProofs (maxSteps := 4000000) (disch := first | omega | decide | (simp only [go_sem]; omega)) only [go_sem, ↓reduceIte]
  repeat (with_reducible refine And.intro (by first | assumption | omega | (simp; done) | (simp; omega)) ?_)
  refine toEnd hC ?_
  refine endX_seq ?_
  refine runX_seq ?_
  refine runX_regionC fun C hC => ?_
  try simp -implicitDefEqProofs (maxSteps := 4000000) (disch := first | omega | decide | (simp only [go_sem]; omega)) only [go_sem, ↓reduceIte]
  repeat (with_reducible refine And.intro (by first | assumption | omega | (simp; done) | (simp; omega)) ?_)
  rcases iteB_some h with ⟨c1, h⟩ | ⟨c1, h⟩
  ·refine guardK_T c1 ?_
   obtain ⟨g2, h⟩ := grd_some h
   try simp -implicitDefEqProofs (maxSteps := 4000000) (disch := first | omega | decide | (simp only [go_sem]; omega)) only [go_sem, ↓reduceIte]
   repeat (with_reducible refine And.intro (by first | assumption | omega | (simp; done) | (simp; omega)) ?_)
   refine toEnd hC ?_
   refine endX_seq ?_
   refine runX_ret ?_
   refine endX_q ?_
   obtain rfl := Option.some.inj h
   show RetW _ _ _ _ _
   simp only [RetW]
   (try simp -implicitDefEqProofs (maxSteps := 4000000) (disch := first | omega | decide | (simp only [go_sem]; omega)) only [go_sem, ↓reduceIte])
   (try simp (disch := omega) only [if_pos, Nat.sub_zero])
   exact leT_refl _
  ·refine guardK_F c1 ?_
   try simp -implicitDefEqProofs (maxSteps := 4000000) (disch := first | omega | decide | (simp only [go_sem]; omega)) only [go_sem, ↓reduceIte]
   repeat (with_reducible refine And.intro (by first | assumption | omega | (simp; done) | (simp; omega)) ?_)
   refine toEnd hC ?_
   refine endX_seq ?_
   refine runX_ret ?_
   refine endX_q ?_
   obtain rfl := Option.some.inj h
   show RetW _ _ _ _ _
   simp only [RetW]
   (try simp -implicitDefEqProofs (maxSteps := 4000000) (disch := first | omega | decide | (simp only [go_sem]; omega)) only [go_sem, ↓reduceIte])
   (try simp (disch := omega) only [if_pos, Nat.sub_zero])
   exact leT_refl _
end Go.Proofs.YtdjgldjebcoihaaDoorX

set_option linter.unusedVariables false
set_option linter.unusedSimpArgs false
namespace Go.Proofs.YtdjgldjebcoihaaDoorX
open Go Go.RowKit Go.Proofs
set_option maxRecDepth 100000
attribute [local go_sem ↓] stepsK_build stepsK_bs appendS
attribute [local go_sem] String.reduceEq String.reduceNe reduceCtorEq Int.reduceEq Nat.reduceAdd Nat.reduceSub Nat.reduceMul Nat.reduceLT Nat.reduceLeDiff Nat.reduceEqDiff Nat.reduceBEq Int.reduceToNat Int.reduceLT Int.reduceLE Int.reduceGT Int.reduceGE Int.reduceAdd Int.reduceSub Int.reduceMul Int.reduceNeg Int.reduceBEq Int.reduceBNe Int.reducePow Int.reduceDiv Int.reduceMod Int.reduceTDiv Int.reduceTMod Int.reduceNatCast
/-! ### internal/stringslite.CutPrefix -/
def F76 (n : Nat) (a0 : List UInt8) (a1 : List UInt8) : Option ((List UInt8) × (Bool)) := (F84 n a0 a1).bind fun v1 => iteB (!v1) (some (a0, false)) (grd (0 ≤ (a1.length : Int) ∧ (a1.length : Int) ≤ (a0.length : Int)) (some ((a0.drop (a1.length : Int).toNat), true)))
set_option maxHeartbeats 4000000 in
theorem F76_ok : ∀ (n : Nat) (a0 : List UInt8) (a1 : List UInt8) (r : (List UInt8) × (Bool)), F76 n a0 a1 = some r → FnC Tryd.prog 76 [.imm (.string (bs a0)), .imm (.string (bs a1))] (.tup [.imm (.string (bs r.1)), .imm (.bool r.2)])
 | n, a0, a1, r, h => by
  unfold F76 at h
  refine FnC.goX mixed Tryd.func76 (by kernel_rfl) rfl ?_
  simp only [Tryd.ntmps76, List.length_cons, List.length_nil, List.replicate, List.cons_append, List.nil_append, Nat.reduceAdd, Nat.reduceSub]
  refine runX_seq ?_
  refine runX_regionC fun C hC => ?_
  try simp -implicitDefEqProofs (maxSteps := 4000000) (disch := first | omega | decide | (simp only [go_sem]; omega)) only [go_sem, ↓reduceIte]
  repeat (with_reducible refine And.intro (by first | assumption | omega | (simp; done) | (simp; omega)) ?_)
  refine toEnd hC ?_
  refine endX_seq ?_
  refine runX_seq ?_
  refine runX_seq ?_
  refine runX_regionC fun C hC => ?_
  obtain ⟨v1, h1, h⟩ := bnd_some h
  try simp -implicitDefEqProofs (maxSteps := 4000000) (disch := first | omega | decide | (simp only [go_sem]; omega)) only [go_sem, ↓reduceIte]
  repeat (with_reducible refine And.intro (by first | assumption | omega | (simp; done) | (simp; omega)) ?_)
  refine callG_X (by first | rfl | (simp only [go_sem]; done) | (simp only [closedL, closedT, Bool.and_true]; exact closedL_map _ (fun _ => by first | rfl | (simp only [go_sem]; done)) _)) (F84_ok n a0 a1 _ h1) (by repeat (first | exact leL_refl _ | refine leL_cons (by first | exact leT_refl _ | exact leT_virt | exact leT_junk _ | exact leT_sl | exact leT_sln | exact leT_nil | (refine leT_agg (by repeat (first | exact leL_refl _ | refine leL_cons (by first | exact leT_refl _ | exact leT_sl | exact leT_sln | exact leT_nil) ?_)))) ?_)) ?_
  try simp -implicitDefEqProofs (maxSteps := 4000000) (disch := first | omega | decide | (simp only [go_sem]; omega)) only [go_sem, ↓reduceIte]
  repeat (with_reducible refine And.intro (by first | assumption | omega | (simp; done) | (simp; omega)) ?_)
  refine toEnd hC ?_
  refine endX_seq ?_
  rcases iteB_some h with ⟨c2, h⟩ | ⟨c2, h⟩
  ·refine runX_condT rfl c2 ?_
   refine runX_seq ?_
   refine runX_regionC fun C hC => ?_
   try simp -implicitDefEqProofs (maxSteps := 4000000) (disch := first | omega | decide | (simp only [go_sem]; omega)) only [go_sem, ↓reduceIte]
   repeat (with_reducible refine And.intro (by first | assumption | omega | (simp; done) | (simp; omega)) ?_)
   refine toEnd hC ?_
   refine endX_seq ?_
   refine runX_ret ?_
   refine endX_seqR ?_
   refine endX_q ?_
   obtain rfl := Option.some.inj h
   show RetW _ _ _ _ _
   simp only [RetW]
   (try simp -implicitDefEqProofs (maxSteps := 4000000) (disch := first | omega | decide | (simp only [go_sem]; omega)) only [go_sem, ↓reduceIte])
   (try simp (disch := omega) only [if_pos, Nat.sub_zero])
   exact leT_refl _
  ·refine runX_condF rfl c2 ?_
   refine runX_skip ?_
   refine endX_seq ?_
   refine runX_seq ?_
   refine runX_regionC fun C hC => ?_
   obtain ⟨g3, h⟩ := grd_some h
   try simp -implicitDefEqProofs (maxSteps := 4000000) (disch := first | omega | decide | (simp only [go_sem]; omega)) only [go_sem, ↓reduceIte]
   repeat (with_reducible refine And.intro (by first | assumption | omega | (simp; done) | (simp; omega)) ?_)
   refine toEnd hC ?_
   refine endX_seq ?_
   refine runX_ret ?_
   refine endX_q ?_
   obtain rfl := Option.some.inj h
   show RetW _ _ _ _ _
   simp only [RetW]
   (try simp -implicitDefEqProofs (maxSteps := 4000000) (disch := first | omega | decide | (simp only [go_sem]; omega)) only [go_sem, ↓reduceIte])
   (try simp (disch := omega) only [if_pos, Nat.sub_zero])
   exact leT_refl _
end Go.Proofs.YtdjgldjebcoihaaDoorX

set_option linter.unusedVariables false
set_option linter.unusedSimpArgs false
namespace Go.Proofs.YtdjgldjebcoihaaDoorX
open Go Go.RowKit Go.Proofs
set_option maxRecDepth 100000
attribute [local go_sem ↓] stepsK_build stepsK_bs appendS
attribute [local go_sem] String.reduceEq String.reduceNe reduceCtorEq Int.reduceEq Nat.reduceAdd Nat.reduceSub Nat.reduceMul Nat.reduceLT Nat.reduceLeDiff Nat.reduceEqDiff Nat.reduceBEq Int.reduceToNat Int.reduceLT Int.reduceLE Int.reduceGT Int.reduceGE Int.reduceAdd Int.reduceSub Int.reduceMul Int.reduceNeg Int.reduceBEq Int.reduceBNe Int.reducePow Int.reduceDiv Int.reduceMod Int.reduceTDiv Int.reduceTMod Int.reduceNatCast
/-! ### strings.CutPrefix -/
def F57 (n : Nat) (a0 : List UInt8) (a1 : List UInt8) : Option ((List UInt8) × (Bool)) := (F76 n a0 a1).bind fun v1 => some (v1.1, v1.2)
set_option maxHeartbeats 4000000 in
theorem F57_ok : ∀ (n : Nat) (a0 : List UInt8) (a1 : List UInt8) (r : (List UInt8) × (Bool)), F57 n a0 a1 = some r → FnC Tryd.prog 57 [.imm (.string (bs a0)), .imm (.string (bs a1))] (.tup [.imm (.string (bs r.1)), .imm (.bool r.2)])
 | n, a0, a1, r, h => by
  unfold F57 at h
  refine FnC.goX mixed Tryd.func57 (by kernel_rfl) rfl ?_
  simp only [Tryd.ntmps57, List.length_cons, List.length_nil, List.replicate, List.cons_append, List.nil_append, Nat.reduceAdd, Nat.reduceSub]
  refine runX_seq ?_
  refine runX_regionC fun C hC => ?_
  try simp -implicitDefEqProofs (maxSteps := 4000000) (disch := first | omega | decide | (simp only [go_sem]; omega)) only [go_sem, ↓reduceIte]
  repeat (with_reducible refine And.intro (by first | assumption | omega | (simp; done) | (simp; omega)) ?_)
  refine toEnd hC ?_
  refine endX_seq ?_
  refine runX_seq ?_
  refine runX_regionC fun C hC => ?_
  obtain ⟨v1, h1, h⟩ := bnd_some h
  try simp -implicitDefEqProofs (maxSteps := 4000000) (disch := first | omega | decide | (simp only [go_sem]; omega)) only [go_sem, ↓reduceIte]
  repeat (with_reducible refine And.intro (by first | assumption | omega | (simp; done) | (simp; omega)) ?_)
  refine callG_X (by first | rfl | (simp only [go_sem]; done) | (simp only [closedL, closedT, Bool.and_true]; exact closedL_map _ (fun _ => by first | rfl | (simp only [go_sem]; done)) _)) (F76_ok n a0 a1 _ h1) (by repeat (first | exact leL_refl _ | refine leL_cons (by first | exact leT_refl _ | exact leT_virt | exact leT_junk _ | exact leT_sl | exact leT_sln | exact leT_nil | (refine leT_agg (by repeat (first | exact leL_refl _ | refine leL_cons (by first | exact leT_refl _ | exact leT_sl | exact leT_sln | exact leT_nil) ?_)))) ?_)) ?_
  try simp -implicitDefEqProofs (maxSteps := 4000000) (disch := first | omega | decide | (simp only [go_sem]; omega)) only [go_sem, ↓reduceIte]
  repeat (with_reducible refine And.intro (by first | assumption | omega | (simp; done) | (simp; omega)) ?_)
  refine toEnd hC ?_
  refine endX_seq ?_
  refine runX_ret ?_
  refine endX_q ?_
  obtain rfl := Option.some.inj h
  show RetW _ _ _ _ _
  simp only [RetW]
  (try simp -implicitDefEqProofs (maxSteps := 4000000) (disch := first | omega | decide | (simp only [go_sem]; omega)) only [go_sem, ↓reduceIte])
  (try simp (disch := omega) only [if_pos, Nat.sub_zero])
  exact leT_refl _
end Go.Proofs.YtdjgldjebcoihaaDoorX

set_option linter.unusedVariables false
set_option linter.unusedSimpArgs false
namespace Go.Proofs.YtdjgldjebcoihaaDoorX
open Go Go.RowKit Go.Proofs
set_option maxRecDepth 100000
attribute [local go_sem ↓] stepsK_build stepsK_bs appendS
attribute [local go_sem] String.reduceEq String.reduceNe reduceCtorEq Int.reduceEq Nat.reduceAdd Nat.reduceSub Nat.reduceMul Nat.reduceLT Nat.reduceLeDiff Nat.reduceEqDiff Nat.reduceBEq Int.reduceToNat Int.reduceLT Int.reduceLE Int.reduceGT Int.reduceGE Int.reduceAdd Int.reduceSub Int.reduceMul Int.reduceNeg Int.reduceBEq Int.reduceBNe Int.reducePow Int.reduceDiv Int.reduceMod Int.reduceTDiv Int.reduceTMod Int.reduceNatCast
/-! ### reply.first -/
def F42 (n : Nat) (a0 : List UInt8) : Option (Int) := (F57 n a0 ([72, 84, 84, 80, 47, 49, 46, 49, 32] : List UInt8)).bind fun v1 => iteB (!v1.2) (some (0 : Int)) (iteB (decide ((v1.1.length : Int) < (3 : Int))) (some (0 : Int)) (grd ((3 : Int) ≤ (v1.1.length : Int)) ((F43 n (v1.1.take 3)).bind fun v5 => some v5.1)))
set_option maxHeartbeats 4000000 in
theorem F42_ok : ∀ (n : Nat) (a0 : List UInt8) (r : Int), F42 n a0 = some r → FnC Tryd.prog 42 [.imm (.string (bs a0))] (.imm (.int .i64 r))
 | n, a0, r, h => by
  unfold F42 at h
  refine FnC.goX mixed Tryd.func42 (by kernel_rfl) rfl ?_
  simp only [Tryd.ntmps42, List.length_cons, List.length_nil, List.replicate, List.cons_append, List.nil_append, Nat.reduceAdd, Nat.reduceSub]
  refine runX_seq ?_
  refine runX_regionC fun C hC => ?_
  try simp -implicitDefEqProofs (maxSteps := 4000000) (disch := first | omega | decide | (simp only [go_sem]; omega)) only [go_sem, ↓reduceIte]
  repeat (with_reducible refine And.intro (by first | assumption | omega | (simp; done) | (simp; omega)) ?_)
  refine toEnd hC ?_
  refine endX_seq ?_
  refine runX_seq ?_
  refine runX_regionC fun C hC => ?_
  obtain ⟨v1, h1, h⟩ := bnd_some h
  try simp -implicitDefEqProofs (maxSteps := 4000000) (disch := first | omega | decide | (simp only [go_sem]; omega)) only [go_sem, ↓reduceIte]
  repeat (with_reducible refine And.intro (by first | assumption | omega | (simp; done) | (simp; omega)) ?_)
  refine callG_X (by first | rfl | (simp only [go_sem]; done) | (simp only [closedL, closedT, Bool.and_true]; exact closedL_map _ (fun _ => by first | rfl | (simp only [go_sem]; done)) _)) (F57_ok n a0 ([72, 84, 84, 80, 47, 49, 46, 49, 32] : List UInt8) _ h1) (by repeat (first | exact leL_refl _ | refine leL_cons (by first | exact leT_refl _ | exact leT_virt | exact leT_junk _ | exact leT_sl | exact leT_sln | exact leT_nil | (refine leT_agg (by repeat (first | exact leL_refl _ | refine leL_cons (by first | exact leT_refl _ | exact leT_sl | exact leT_sln | exact leT_nil) ?_)))) ?_)) ?_
  try simp -implicitDefEqProofs (maxSteps := 4000000) (disch := first | omega | decide | (simp only [go_sem]; omega)) only [go_sem, ↓reduceIte]
  repeat (with_reducible refine And.intro (by first | assumption | omega | (simp; done) | (simp; omega)) ?_)
  refine toEnd hC ?_
  refine endX_seq ?_
  refine runX_seq ?_
  refine runX_seq ?_
  refine runX_regionC fun C hC => ?_
  try simp -implicitDefEqProofs (maxSteps := 4000000) (disch := first | omega | decide | (simp only [go_sem]; omega)) only [go_sem, ↓reduceIte]
  repeat (with_reducible refine And.intro (by first | assumption | omega | (simp; done) | (simp; omega)) ?_)
  rcases iteB_some h with ⟨c2, h⟩ | ⟨c2, h⟩
  ·refine guardK_F c2 ?_
   try simp -implicitDefEqProofs (maxSteps := 4000000) (disch := first | omega | decide | (simp only [go_sem]; omega)) only [go_sem, ↓reduceIte]
   repeat (with_reducible refine And.intro (by first | assumption | omega | (simp; done) | (simp; omega)) ?_)
   refine toEnd hC ?_
   refine endX_seq ?_
   refine runX_condT rfl rfl ?_
   refine runX_seq ?_
   refine runX_regionC fun C hC => ?_
   try simp -implicitDefEqProofs (maxSteps := 4000000) (disch := first | omega | decide | (simp only [go_sem]; omega)) only [go_sem, ↓reduceIte]
   repeat (with_reducible refine And.intro (by first | assumption | omega | (simp; done) | (simp; omega)) ?_)
   refine toEnd hC ?_
   refine endX_seq ?_
   refine runX_ret ?_
   refine endX_seqR ?_
   refine endX_q ?_
   obtain rfl := Option.some.inj h
   show RetW _ _ _ _ _
   simp only [RetW]
   (try simp -implicitDefEqProofs (maxSteps := 4000000) (disch := first | omega | decide | (simp only [go_sem]; omega)) only [go_sem, ↓reduceIte])
   (try simp (disch := omega) only [if_pos, Nat.sub_zero])
   exact leT_refl _
  ·refine guardK_T c2 ?_
   try simp -implicitDefEqProofs (maxSteps := 4000000) (disch := first | omega | decide | (simp only [go_sem]; omega)) only [go_sem, ↓reduceIte]
   repeat (with_reducible refine And.intro (by first | assumption | omega | (simp; done) | (simp; omega)) ?_)
   refine toEnd hC ?_
   refine endX_seq ?_
   rcases iteB_some h with ⟨c3, h⟩ | ⟨c3, h⟩
   ·refine runX_condT rfl c3 ?_
    refine runX_seq ?_
    refine runX_regionC fun C hC => ?_
    try simp -implicitDefEqProofs (maxSteps := 4000000) (disch := first | omega | decide | (simp only [go_sem]; omega)) only [go_sem, ↓reduceIte]
    repeat (with_reducible refine And.intro (by first | assumption | omega | (simp; done) | (simp; omega)) ?_)
    refine toEnd hC ?_
    refine endX_seq ?_
    refine runX_ret ?_
    refine endX_seqR ?_
    refine endX_q ?_
    obtain rfl := Option.some.inj h
    show RetW _ _ _ _ _
    simp only [RetW]
    (try simp -implicitDefEqProofs (maxSteps := 4000000) (disch := first | omega | decide | (simp only [go_sem]; omega)) only [go_sem, ↓reduceIte])
    (try simp (disch := omega) only [if_pos, Nat.sub_zero])
    exact leT_refl _
   ·refine runX_condF rfl c3 ?_
    refine runX_skip ?_
    refine endX_seq ?_
    refine runX_seq ?_
    refine runX_regionC fun C hC => ?_
    obtain ⟨g4, h⟩ := grd_some h
    obtain ⟨v5, h5, h⟩ := bnd_some h
    try simp -implicitDefEqProofs (maxSteps := 4000000) (disch := first | omega | decide | (simp only [go_sem]; omega)) only [go_sem, ↓reduceIte]
    repeat (with_reducible refine And.intro (by first | assumption | omega | (simp; done) | (simp; omega)) ?_)
    refine callG_X (by first | rfl | (simp only [go_sem]; done) | (simp only [closedL, closedT, Bool.and_true]; exact closedL_map _ (fun _ => by first | rfl | (simp only [go_sem]; done)) _)) (F43_ok n (v1.1.take 3) _ h5) (by repeat (first | exact leL_refl _ | refine leL_cons (by first | exact leT_refl _ | exact leT_virt | exact leT_junk _ | exact leT_sl | exact leT_sln | exact leT_nil | (refine leT_agg (by repeat (first | exact leL_refl _ | refine leL_cons (by first | exact leT_refl _ | exact leT_sl | exact leT_sln | exact leT_nil) ?_)))) ?_)) ?_
    try simp -implicitDefEqProofs (maxSteps := 4000000) (disch := first | omega | decide | (simp only [go_sem]; omega)) only [go_sem, ↓reduceIte]
    repeat (with_reducible refine And.intro (by first | assumption | omega | (simp; done) | (simp; omega)) ?_)
    refine toEnd hC ?_
    refine endX_seq ?_
    refine runX_seq ?_
    refine runX_regionC fun C hC => ?_
    try simp -implicitDefEqProofs (maxSteps := 4000000) (disch := first | omega | decide | (simp only [go_sem]; omega)) only [go_sem, ↓reduceIte]
    repeat (with_reducible refine And.intro (by first | assumption | omega | (simp; done) | (simp; omega)) ?_)
    refine toEnd hC ?_
    refine endX_seq ?_
    refine runX_ret ?_
    refine endX_q ?_
    obtain rfl := Option.some.inj h
    show RetW _ _ _ _ _
    simp only [RetW]
    (try simp -implicitDefEqProofs (maxSteps := 4000000) (disch := first | omega | decide | (simp only [go_sem]; omega)) only [go_sem, ↓reduceIte])
    (try simp (disch := omega) only [if_pos, Nat.sub_zero])
    exact leT_refl _
end Go.Proofs.YtdjgldjebcoihaaDoorX

set_option linter.unusedVariables false
set_option linter.unusedSimpArgs false
namespace Go.Proofs.YtdjgldjebcoihaaDoorX
open Go Go.RowKit Go.Proofs
set_option maxRecDepth 100000
attribute [local go_sem ↓] stepsK_build stepsK_bs appendS
attribute [local go_sem] String.reduceEq String.reduceNe reduceCtorEq Int.reduceEq Nat.reduceAdd Nat.reduceSub Nat.reduceMul Nat.reduceLT Nat.reduceLeDiff Nat.reduceEqDiff Nat.reduceBEq Int.reduceToNat Int.reduceLT Int.reduceLE Int.reduceGT Int.reduceGE Int.reduceAdd Int.reduceSub Int.reduceMul Int.reduceNeg Int.reduceBEq Int.reduceBNe Int.reducePow Int.reduceDiv Int.reduceMod Int.reduceTDiv Int.reduceTMod Int.reduceNatCast
/-! ### reply.head -/
def F23_S1 (v1 : List (List UInt8)) (v3 : Int) (x5 : Int) (x6 : List ((List UInt8) × (List UInt8))) : St := ⟨[.junk, .junk, .ref 0 0 0 0, .junk, .junk, .junk, .junk, .junk, .junk, .junk, .junk, .junk, .junk, .junk, .junk, .junk, .junk, .junk, .junk, .junk, .sl 1 false (List.map eS (v1.drop 1)), .imm (.int .i64 ((v1.drop 1).length : Int)), .imm (.int .i64 x5), .junk, .junk, .junk, .junk, .junk, .junk, .junk, .junk, .junk, .junk, .junk, .junk, .junk, .junk, .junk, .junk, .junk, .junk, .junk, .junk, .junk, .junk, .junk, .junk, .junk, .junk, .junk, .junk, .junk, .junk, .junk, .junk, .junk, .junk, .junk, .junk, .junk, .junk, .junk, .junk, .junk, .junk, .junk, .junk, .junk, .junk, .junk, .junk, .junk, .junk, .junk, .junk, .junk, .junk, .junk, .junk, .junk], [some (.box 25 (.agg [.imm (.int .i64 v3), .rsl 1 2 0 x6.length, .sl 0 true []]) false), some (.buf 42 2 (List.map eT41 x6) 0)]⟩
def F23_L1 : Nat → (List (List UInt8)) → (Int) → (Int) → (List ((List UInt8) × (List UInt8))) → Option (((Int) × (List ((List UInt8) × (List UInt8))) × (List (Int))) × (Int) × (Bool))
 | 0, _, _, _, _ => none
 | m1 + 1, v1, v3, x5, x6 => iteB (decide (x5 < ((v1.drop 1).length : Int))) (grd (0 ≤ x5 ∧ x5 < ((v1.drop 1).length : Int)) ((F27 m1 ((v1.drop 1).getD x5.toNat default)).bind fun v9 => iteB (!v9.2) (some (((0 : Int), [], []), (0 : Int), false)) (grd ((x6.length + 1) ≤ 549755813888) (F23_L1 m1 v1 v3 (IntKind.wrap .i64 (x5 + (1 : Int))) (x6 ++ [(v9.1.1, v9.1.2)]))))) ((F15 m1 v3).bind fun v12 => iteB v12 (some ((v3, x6, []), (0 : Int), true)) (iteB ((x6.length : Int) == (0 : Int)) (some (((0 : Int), [], []), (0 : Int), false)) (grd (0 ≤ (IntKind.wrap .i64 ((x6.length : Int) - (1 : Int))) ∧ (IntKind.wrap .i64 ((x6.length : Int) - (1 : Int))) < (x6.length : Int)) (grd ((IntKind.wrap .i64 ((x6.length : Int) - (1 : Int))).toNat < x6.length) (grd (0 ≤ (IntKind.wrap .i64 ((x6.length : Int) - (1 : Int))) ∧ (IntKind.wrap .i64 ((x6.length : Int) - (1 : Int))) ≤ (x6.length : Int)) ((F43 m1 ((x6.getD ((IntKind.wrap .i64 ((x6.length : Int) - (1 : Int))).toNat) default).2)).bind fun v18 => iteB v18.2 (some ((v3, (x6).take ((IntKind.wrap .i64 ((x6.length : Int) - (1 : Int))).toNat), []), v18.1, (((x6.getD ((IntKind.wrap .i64 ((x6.length : Int) - (1 : Int))).toNat) default).1) == ([67, 111, 110, 116, 101, 110, 116, 45, 76, 101, 110, 103, 116, 104] : List UInt8)))) (some ((v3, (x6).take ((IntKind.wrap .i64 ((x6.length : Int) - (1 : Int))).toNat), []), v18.1, false))))))))
def F23 (n : Nat) (a0 : List UInt8) : Option (((Int) × (List ((List UInt8) × (List UInt8))) × (List (Int))) × (Int) × (Bool)) := (F41 n a0 ([13, 10] : List UInt8)).bind fun v1 => grd ((0 : Int) < (v1.length : Int)) ((F42 n (v1.getD (0 : Int).toNat default)).bind fun v3 => grd ((1 : Int) ≤ (v1.length : Int)) (F23_L1 n v1 v3 (0 : Int) []))
set_option maxHeartbeats 4000000 in
theorem F23_ok : ∀ (n : Nat) (a0 : List UInt8) (r : ((Int) × (List ((List UInt8) × (List UInt8))) × (List (Int))) × (Int) × (Bool)), F23 n a0 = some r → FnC Tryd.prog 23 [.imm (.string (bs a0))] (.tup [.agg [.imm (.int .i64 r.1.1), .sl 2 false (List.map eT41 r.1.2.1), .sl 1 false (List.map byteT r.1.2.2)], .imm (.int .i64 r.2.1), .imm (.bool r.2.2)])
 | n, a0, r, h => by
  unfold F23 at h
  refine FnC.goX mixed Tryd.func23 (by kernel_rfl) rfl ?_
  simp only [Tryd.ntmps23, List.length_cons, List.length_nil, List.replicate, List.cons_append, List.nil_append, Nat.reduceAdd, Nat.reduceSub]
  refine runX_seq ?_
  refine runX_regionC fun C hC => ?_
  try simp -implicitDefEqProofs (maxSteps := 4000000) (disch := first | omega | decide | (simp only [go_sem]; omega)) only [go_sem, ↓reduceIte]
  repeat (with_reducible refine And.intro (by first | assumption | omega | (simp; done) | (simp; omega)) ?_)
  refine toEnd hC ?_
  refine endX_seq ?_
  refine runX_seq ?_
  refine runX_regionC fun C hC => ?_
  obtain ⟨v1, h1, h⟩ := bnd_some h
  try simp -implicitDefEqProofs (maxSteps := 4000000) (disch := first | omega | decide | (simp only [go_sem]; omega)) only [go_sem, ↓reduceIte]
  repeat (with_reducible refine And.intro (by first | assumption | omega | (simp; done) | (simp; omega)) ?_)
  refine callG_X (by first | rfl | (simp only [go_sem]; done) | (simp only [closedL, closedT, Bool.and_true]; exact closedL_map _ (fun _ => by first | rfl | (simp only [go_sem]; done)) _)) (F41_ok n a0 ([13, 10] : List UInt8) _ h1) (by repeat (first | exact leL_refl _ | refine leL_cons (by first | exact leT_refl _ | exact leT_virt | exact leT_junk _ | exact leT_sl | exact leT_sln | exact leT_nil | (refine leT_agg (by repeat (first | exact leL_refl _ | refine leL_cons (by first | exact leT_refl _ | exact leT_sl | exact leT_sln | exact leT_nil) ?_)))) ?_)) ?_
  try simp -implicitDefEqProofs (maxSteps := 4000000) (disch := first | omega | decide | (simp only [go_sem]; omega)) only [go_sem, ↓reduceIte]
  repeat (with_reducible refine And.intro (by first | assumption | omega | (simp; done) | (simp; omega)) ?_)
  refine toEnd hC ?_
  refine endX_seq ?_
  refine runX_seq ?_
  refine runX_regionC fun C hC => ?_
  obtain ⟨g2, h⟩ := grd_some h
  obtain ⟨v3, h3, h⟩ := bnd_some h
  try simp -implicitDefEqProofs (maxSteps := 4000000) (disch := first | omega | decide | (simp only [go_sem]; omega)) only [go_sem, ↓reduceIte]
  repeat (with_reducible refine And.intro (by first | assumption | omega | (simp; done) | (simp; omega)) ?_)
  refine callG_X (by first | rfl | (simp only [go_sem]; done) | (simp only [closedL, closedT, Bool.and_true]; exact closedL_map _ (fun _ => by first | rfl | (simp only [go_sem]; done)) _)) (F42_ok n (v1.getD (0 : Int).toNat default) _ h3) (by repeat (first | exact leL_refl _ | refine leL_cons (by first | exact leT_refl _ | exact leT_virt | exact leT_junk _ | exact leT_sl | exact leT_sln | exact leT_nil | (refine leT_agg (by repeat (first | exact leL_refl _ | refine leL_cons (by first | exact leT_refl _ | exact leT_sl | exact leT_sln | exact leT_nil) ?_)))) ?_)) ?_
  try simp -implicitDefEqProofs (maxSteps := 4000000) (disch := first | omega | decide | (simp only [go_sem]; omega)) only [go_sem, ↓reduceIte]
  repeat (with_reducible refine And.intro (by first | assumption | omega | (simp; done) | (simp; omega)) ?_)
  refine toEnd hC ?_
  refine endX_seq ?_
  refine runX_seq ?_
  refine runX_seq ?_
  refine runX_regionC fun C hC => ?_
  obtain ⟨g4, h⟩ := grd_some h
  try simp -implicitDefEqProofs (maxSteps := 4000000) (disch := first | omega | decide | (simp only [go_sem]; omega)) only [go_sem, ↓reduceIte]
  repeat (with_reducible refine And.intro (by first | assumption | omega | (simp; done) | (simp; omega)) ?_)
  refine toEnd hC ?_
  refine endX_seq ?_
  refine runX_block ?_
  refine runX_loop [2, 20, 21, 22] (fun m S => ∃ (x5 : Int) (x6 : List ((List UInt8) × (List UInt8))), S = F23_S1 v1 v3 x5 x6 ∧ m ≤ n ∧ F23_L1 m v1 v3 x5 x6 = some r) n ⟨F23_S1 v1 v3 (0 : Int) [], ?_, (0 : Int), [], rfl, Nat.le_refl _, h⟩ ?_
  ·(try simp -implicitDefEqProofs (maxSteps := 4000000) (disch := first | omega | decide | (simp only [go_sem]; omega)) only [go_sem, ↓reduceIte])
   simp only [F23_S1]
   refine leS_trans (leS_pad _ _ 1) ?_
   simp only [List.replicate, List.cons_append, List.nil_append]
   refine leS_virt 1 42 2 rfl ?_ ?_ rfl
   ·repeat (first | exact leL_refl _ | refine leL_cons (by first | exact leT_refl _ | exact leT_virt | exact leT_junk _ | exact leT_sl | exact leT_sln | exact leT_nil | (refine leT_agg (by repeat (first | exact leL_refl _ | refine leL_cons (by first | exact leT_refl _ | exact leT_sl | exact leT_sln | exact leT_nil) ?_)))) ?_)
   ·repeat (first | exact leOs_refl _ | refine leOs.cons (by first | exact leO.same _ | (refine leO.box (leT_agg (by repeat (first | exact leL_refl _ | refine leL_cons (by first | exact leT_refl _ | exact leT_virt | exact leT_junk _ | exact leT_sl | exact leT_sln | exact leT_nil | (refine leT_agg (by repeat (first | exact leL_refl _ | refine leL_cons (by first | exact leT_refl _ | exact leT_sl | exact leT_sln | exact leT_nil) ?_)))) ?_))) rfl) | (refine leO.box (by first | exact leT_virt | exact leT_sl | exact leT_sln) rfl)) ?_)
  ·clear h
   rintro m1 S ⟨x5, x6, rfl, hm1, h⟩
   cases m1 with
   | zero => first | cases (show (none : Option _) = some _ from h) | (rw [F23_L1] at h; cases h)
   | succ m1 =>
    rw [F23_L1] at h
    simp only [F23_S1]
    refine runX_seq ?_
    refine runX_regionC fun C hC => ?_
    try simp -implicitDefEqProofs (maxSteps := 4000000) (disch := first | omega | decide | (simp only [go_sem]; omega)) only [go_sem, ↓reduceIte]
    repeat (with_reducible refine And.intro (by first | assumption | omega | (simp; done) | (simp; omega)) ?_)
    refine toEnd hC ?_
    refine endX_seq ?_
    refine runX_seq ?_
    rcases iteB_some h with ⟨c7, h⟩ | ⟨c7, h⟩
    ·refine runX_condT rfl c7 ?_
     refine runX_skip ?_
     refine endX_seq ?_
     refine runX_seq ?_
     refine runX_block ?_
     refine runX_seq ?_
     refine runX_regionC fun C hC => ?_
     obtain ⟨g8, h⟩ := grd_some h
     try simp -implicitDefEqProofs (maxSteps := 4000000) (disch := first | omega | decide | (simp only [go_sem]; omega)) only [go_sem, ↓reduceIte]
     repeat (with_reducible refine And.intro (by first | assumption | omega | (simp; done) | (simp; omega)) ?_)
     refine toEnd hC ?_
     refine endX_seq ?_
     refine runX_seq ?_
     refine runX_regionC fun C hC => ?_
     obtain ⟨v9, h9, h⟩ := bnd_some h
     try simp -implicitDefEqProofs (maxSteps := 4000000) (disch := first | omega | decide | (simp only [go_sem]; omega)) only [go_sem, ↓reduceIte]
     repeat (with_reducible refine And.intro (by first | assumption | omega | (simp; done) | (simp; omega)) ?_)
     refine callG_X (by first | rfl | (simp only [go_sem]; done) | (simp only [closedL, closedT, Bool.and_true]; exact closedL_map _ (fun _ => by first | rfl | (simp only [go_sem]; done)) _)) (F27_ok m1 ((v1.drop 1).getD x5.toNat default) _ h9) (by repeat (first | exact leL_refl _ | refine leL_cons (by first | exact leT_refl _ | exact leT_virt | exact leT_junk _ | exact leT_sl | exact leT_sln | exact leT_nil | (refine leT_agg (by repeat (first | exact leL_refl _ | refine leL_cons (by first | exact leT_refl _ | exact leT_sl | exact leT_sln | exact leT_nil) ?_)))) ?_)) ?_
     try simp -implicitDefEqProofs (maxSteps := 4000000) (disch := first | omega | decide | (simp only [go_sem]; omega)) only [go_sem, ↓reduceIte]
     repeat (with_reducible refine And.intro (by first | assumption | omega | (simp; done) | (simp; omega)) ?_)
     refine toEnd hC ?_
     refine endX_seq ?_
     refine runX_seq ?_
     refine runX_seq ?_
     refine runX_regionC fun C hC => ?_
     try simp -implicitDefEqProofs (maxSteps := 4000000) (disch := first | omega | decide | (simp only [go_sem]; omega)) only [go_sem, ↓reduceIte]
     repeat (with_reducible refine And.intro (by first | assumption | omega | (simp; done) | (simp; omega)) ?_)
     refine toEnd hC ?_
     refine endX_seq ?_
     rcases iteB_some h with ⟨c10, h⟩ | ⟨c10, h⟩
     ·refine runX_condT rfl c10 ?_
      refine runX_seq ?_
      refine runX_regionC fun C hC => ?_
      simp only [runK_region, runK_draw, liteL, liteL2, dstsL, gL, List.getD_cons_zero, List.getD_cons_succ]
      try simp -implicitDefEqProofs (maxSteps := 4000000) (disch := first | omega | decide | (simp only [go_sem]; omega)) only [go_sem, ↓reduceIte]
      repeat (with_reducible refine And.intro (by first | assumption | omega | (simp; done) | (simp; omega)) ?_)
      refine bldG_of [.imm (.int .i64 (0 : Int)), .sl 0 true [], .sl 0 true []] (by kernel_rfl) ?_
      try simp -implicitDefEqProofs (maxSteps := 4000000) (disch := first | omega | decide | (simp only [go_sem]; omega)) only [go_sem, ↓reduceIte]
      repeat (with_reducible refine And.intro (by first | assumption | omega | (simp; done) | (simp; omega)) ?_)
      refine toEnd hC ?_
      refine endX_seq ?_
      refine runX_ret ?_
      refine endX_seqR ?_
      refine endX_blkR ?_
      refine endX_seqR ?_
      refine endX_q (roundQ_ret ?_)
      refine endX_blkR ?_
      refine endX_seqR ?_
      refine endX_q ?_
      obtain rfl := Option.some.inj h
      show RetW _ _ _ _ _
      simp only [RetW]
      (try simp -implicitDefEqProofs (maxSteps := 4000000) (disch := first | omega | decide | (simp only [go_sem]; omega)) only [go_sem, ↓reduceIte])
      (try simp (disch := omega) only [if_pos, Nat.sub_zero])
      first | exact leT_refl _ | (refine ⟨rfl, ?_⟩; first | exact leT_refl _ | exact leT_sl | exact leT_sln | exact leT_nil | (refine leT_tup (by repeat (first | exact leL_refl _ | refine leL_cons (by first | exact leT_refl _ | exact leT_virt | exact leT_junk _ | exact leT_sl | exact leT_sln | exact leT_nil | (refine leT_agg (by repeat (first | exact leL_refl _ | refine leL_cons (by first | exact leT_refl _ | exact leT_sl | exact leT_sln | exact leT_nil) ?_)))) ?_))) | (refine leT_agg (by repeat (first | exact leL_refl _ | refine leL_cons (by first | exact leT_refl _ | exact leT_virt | exact leT_junk _ | exact leT_sl | exact leT_sln | exact leT_nil | (refine leT_agg (by repeat (first | exact leL_refl _ | refine leL_cons (by first | exact leT_refl _ | exact leT_sl | exact leT_sln | exact leT_nil) ?_)))) ?_)))) | (first | exact leT_refl _ | exact leT_sl | exact leT_sln | exact leT_nil | (refine leT_tup (by repeat (first | exact leL_refl _ | refine leL_cons (by first | exact leT_refl _ | exact leT_virt | exact leT_junk _ | exact leT_sl | exact leT_sln | exact leT_nil | (refine leT_agg (by repeat (first | exact leL_refl _ | refine leL_cons (by first | exact leT_refl _ | exact leT_sl | exact leT_sln | exact leT_nil) ?_)))) ?_))) | (refine leT_agg (by repeat (first | exact leL_refl _ | refine leL_cons (by first | exact leT_refl _ | exact leT_virt | exact leT_junk _ | exact leT_sl | exact leT_sln | exact leT_nil | (refine leT_agg (by repeat (first | exact leL_refl _ | refine leL_cons (by first | exact leT_refl _ | exact leT_sl | exact leT_sln | exact leT_nil) ?_)))) ?_)))) | (simp only [List.append_assoc, List.cons_append, List.nil_append]; exact leT_refl _) | (rw [List.take_of_length_le (by first | (simp; done) | (simp; omega))]; (try simp only [List.append_assoc, List.cons_append, List.nil_append]); exact leT_refl _) | ((try simp (disch := first | omega | (simp; done) | (simp; omega)) only [if_pos, Nat.sub_zero, List.take_of_length_le]); (try simp only [List.append_assoc, List.cons_append, List.nil_append]); first | exact leT_refl _ | exact ⟨rfl, leT_refl _⟩)
     ·refine runX_condF rfl c10 ?_
      refine runX_skip ?_
      refine endX_seq ?_
      refine runX_regionC fun C hC => ?_
      try simp -implicitDefEqProofs (maxSteps := 4000000) (disch := first | omega | decide | (simp only [go_sem]; omega)) only [go_sem, ↓reduceIte]
      repeat (with_reducible refine And.intro (by first | assumption | omega | (simp; done) | (simp; omega)) ?_)
      refine bs_go <| buildX_val ?_
      obtain ⟨g11, h⟩ := grd_some h
      try simp -implicitDefEqProofs (maxSteps := 4000000) (disch := first | omega | decide | (simp only [go_sem]; omega)) only [go_sem, ↓reduceIte]
      repeat (with_reducible refine And.intro (by first | assumption | omega | (simp; done) | (simp; omega)) ?_)
      refine toEnd hC ?_
      refine endX_blk ?_
      refine endX_seq ?_
      refine runX_regionC fun C hC => ?_
      try simp -implicitDefEqProofs (maxSteps := 4000000) (disch := first | omega | decide | (simp only [go_sem]; omega)) only [go_sem, ↓reduceIte]
      repeat (with_reducible refine And.intro (by first | assumption | omega | (simp; done) | (simp; omega)) ?_)
      refine toEnd hC ?_
      refine endX_q (roundQ_normal ⟨m1, by omega, F23_S1 v1 v3 (IntKind.wrap .i64 (x5 + (1 : Int))) (x6 ++ [(v9.1.1, v9.1.2)]), ?_, (IntKind.wrap .i64 (x5 + (1 : Int))), (x6 ++ [(v9.1.1, v9.1.2)]), rfl, by omega, h⟩)
      simp only [F23_S1]
      (try simp -implicitDefEqProofs (maxSteps := 4000000) (disch := first | omega | decide | (simp only [go_sem]; omega)) only [go_sem, ↓reduceIte])
      first | exact leS_refl _ | (refine leS_le ?_ ?_ <;> first | exact leL_refl _ | exact leOs_refl _ | (simp only [List.append_assoc, List.cons_append, List.nil_append]; exact leOs_refl _) | (repeat (first | exact leL_refl _ | refine leL_cons (by first | exact leT_refl _ | exact leT_virt | exact leT_junk _ | exact leT_sl | exact leT_sln | exact leT_nil | (refine leT_agg (by repeat (first | exact leL_refl _ | refine leL_cons (by first | exact leT_refl _ | exact leT_sl | exact leT_sln | exact leT_nil) ?_)))) ?_)))
    ·refine runX_condF rfl c7 ?_
     refine runX_exit ?_
     refine endX_seqE ?_
     refine endX_q (roundQ_exit ?_)
     refine endX_blkE ?_
     refine endX_seq ?_
     refine runX_seq ?_
     refine runX_seq ?_
     refine runX_regionC fun C hC => ?_
     obtain ⟨v12, h12, h⟩ := bnd_some h
     try simp -implicitDefEqProofs (maxSteps := 4000000) (disch := first | omega | decide | (simp only [go_sem]; omega)) only [go_sem, ↓reduceIte]
     repeat (with_reducible refine And.intro (by first | assumption | omega | (simp; done) | (simp; omega)) ?_)
     refine callG_X (by first | rfl | (simp only [go_sem]; done) | (simp only [closedL, closedT, Bool.and_true]; exact closedL_map _ (fun _ => by first | rfl | (simp only [go_sem]; done)) _)) (F15_ok m1 v3 _ h12) (by repeat (first | exact leL_refl _ | refine leL_cons (by first | exact leT_refl _ | exact leT_virt | exact leT_junk _ | exact leT_sl | exact leT_sln | exact leT_nil | (refine leT_agg (by repeat (first | exact leL_refl _ | refine leL_cons (by first | exact leT_refl _ | exact leT_sl | exact leT_sln | exact leT_nil) ?_)))) ?_)) ?_
     try simp -implicitDefEqProofs (maxSteps := 4000000) (disch := first | omega | decide | (simp only [go_sem]; omega)) only [go_sem, ↓reduceIte]
     repeat (with_reducible refine And.intro (by first | assumption | omega | (simp; done) | (simp; omega)) ?_)
     refine toEnd hC ?_
     refine endX_seq ?_
     rcases iteB_some h with ⟨c13, h⟩ | ⟨c13, h⟩
     ·refine runX_condT rfl c13 ?_
      refine runX_seq ?_
      refine runX_regionC fun C hC => ?_
      try simp -implicitDefEqProofs (maxSteps := 4000000) (disch := first | omega | decide | (simp only [go_sem]; omega)) only [go_sem, ↓reduceIte]
      repeat (with_reducible refine And.intro (by first | assumption | omega | (simp; done) | (simp; omega)) ?_)
      refine toEnd hC ?_
      refine endX_seq ?_
      refine runX_ret ?_
      refine endX_seqR ?_
      refine endX_q ?_
      obtain rfl := Option.some.inj h
      show RetW _ _ _ _ _
      simp only [RetW]
      (try simp -implicitDefEqProofs (maxSteps := 4000000) (disch := first | omega | decide | (simp only [go_sem]; omega)) only [go_sem, ↓reduceIte])
      (try simp (disch := omega) only [if_pos, Nat.sub_zero])
      first | exact leT_refl _ | (refine ⟨rfl, ?_⟩; first | exact leT_refl _ | exact leT_sl | exact leT_sln | exact leT_nil | (refine leT_tup (by repeat (first | exact leL_refl _ | refine leL_cons (by first | exact leT_refl _ | exact leT_virt | exact leT_junk _ | exact leT_sl | exact leT_sln | exact leT_nil | (refine leT_agg (by repeat (first | exact leL_refl _ | refine leL_cons (by first | exact leT_refl _ | exact leT_sl | exact leT_sln | exact leT_nil) ?_)))) ?_))) | (refine leT_agg (by repeat (first | exact leL_refl _ | refine leL_cons (by first | exact leT_refl _ | exact leT_virt | exact leT_junk _ | exact leT_sl | exact leT_sln | exact leT_nil | (refine leT_agg (by repeat (first | exact leL_refl _ | refine leL_cons (by first | exact leT_refl _ | exact leT_sl | exact leT_sln | exact leT_nil) ?_)))) ?_)))) | (first | exact leT_refl _ | exact leT_sl | exact leT_sln | exact leT_nil | (refine leT_tup (by repeat (first | exact leL_refl _ | refine leL_cons (by first | exact leT_refl _ | exact leT_virt | exact leT_junk _ | exact leT_sl | exact leT_sln | exact leT_nil | (refine leT_agg (by repeat (first | exact leL_refl _ | refine leL_cons (by first | exact leT_refl _ | exact leT_sl | exact leT_sln | exact leT_nil) ?_)))) ?_))) | (refine leT_agg (by repeat (first | exact leL_refl _ | refine leL_cons (by first | exact leT_refl _ | exact leT_virt | exact leT_junk _ | exact leT_sl | exact leT_sln | exact leT_nil | (refine leT_agg (by repeat (first | exact leL_refl _ | refine leL_cons (by first | exact leT_refl _ | exact leT_sl | exact leT_sln | exact leT_nil) ?_)))) ?_)))) | (simp only [List.append_assoc, List.cons_append, List.nil_append]; exact leT_refl _) | (rw [List.take_of_length_le (by first | (simp; done) | (simp; omega))]; (try simp only [List.append_assoc, List.cons_append, List.nil_append]); exact leT_refl _) | ((try simp (disch := first | omega | (simp; done) | (simp; omega)) only [if_pos, Nat.sub_zero, List.take_of_length_le]); (try simp only [List.append_assoc, List.cons_append, List.nil_append]); first | exact leT_refl _ | exact ⟨rfl, leT_refl _⟩)
     ·refine runX_condF rfl c13 ?_
      refine runX_skip ?_
      refine endX_seq ?_
      refine runX_seq ?_
      refine runX_seq ?_
      refine runX_regionC fun C hC => ?_
      try simp -implicitDefEqProofs (maxSteps := 4000000) (disch := first | omega | decide | (simp only [go_sem]; omega)) only [go_sem, ↓reduceIte]
      repeat (with_reducible refine And.intro (by first | assumption | omega | (simp; done) | (simp; omega)) ?_)
      refine toEnd hC ?_
      refine endX_seq ?_
      rcases iteB_some h with ⟨c14, h⟩ | ⟨c14, h⟩
      ·refine runX_condT rfl c14 ?_
       refine runX_seq ?_
       refine runX_regionC fun C hC => ?_
       simp only [runK_region, runK_draw, liteL, liteL2, dstsL, gL, List.getD_cons_zero, List.getD_cons_succ]
       try simp -implicitDefEqProofs (maxSteps := 4000000) (disch := first | omega | decide | (simp only [go_sem]; omega)) only [go_sem, ↓reduceIte]
       repeat (with_reducible refine And.intro (by first | assumption | omega | (simp; done) | (simp; omega)) ?_)
       refine bldG_of [.imm (.int .i64 (0 : Int)), .sl 0 true [], .sl 0 true []] (by kernel_rfl) ?_
       try simp -implicitDefEqProofs (maxSteps := 4000000) (disch := first | omega | decide | (simp only [go_sem]; omega)) only [go_sem, ↓reduceIte]
       repeat (with_reducible refine And.intro (by first | assumption | omega | (simp; done) | (simp; omega)) ?_)
       refine toEnd hC ?_
       refine endX_seq ?_
       refine runX_ret ?_
       refine endX_seqR ?_
       refine endX_q ?_
       obtain rfl := Option.some.inj h
       show RetW _ _ _ _ _
       simp only [RetW]
       (try simp -implicitDefEqProofs (maxSteps := 4000000) (disch := first | omega | decide | (simp only [go_sem]; omega)) only [go_sem, ↓reduceIte])
       (try simp (disch := omega) only [if_pos, Nat.sub_zero])
       first | exact leT_refl _ | (refine ⟨rfl, ?_⟩; first | exact leT_refl _ | exact leT_sl | exact leT_sln | exact leT_nil | (refine leT_tup (by repeat (first | exact leL_refl _ | refine leL_cons (by first | exact leT_refl _ | exact leT_virt | exact leT_junk _ | exact leT_sl | exact leT_sln | exact leT_nil | (refine leT_agg (by repeat (first | exact leL_refl _ | refine leL_cons (by first | exact leT_refl _ | exact leT_sl | exact leT_sln | exact leT_nil) ?_)))) ?_))) | (refine leT_agg (by repeat (first | exact leL_refl _ | refine leL_cons (by first | exact leT_refl _ | exact leT_virt | exact leT_junk _ | exact leT_sl | exact leT_sln | exact leT_nil | (refine leT_agg (by repeat (first | exact leL_refl _ | refine leL_cons (by first | exact leT_refl _ | exact leT_sl | exact leT_sln | exact leT_nil) ?_)))) ?_)))) | (first | exact leT_refl _ | exact leT_sl | exact leT_sln | exact leT_nil | (refine leT_tup (by repeat (first | exact leL_refl _ | refine leL_cons (by first | exact leT_refl _ | exact leT_virt | exact leT_junk _ | exact leT_sl | exact leT_sln | exact leT_nil | (refine leT_agg (by repeat (first | exact leL_refl _ | refine leL_cons (by first | exact leT_refl _ | exact leT_sl | exact leT_sln | exact leT_nil) ?_)))) ?_))) | (refine leT_agg (by repeat (first | exact leL_refl _ | refine leL_cons (by first | exact leT_refl _ | exact leT_virt | exact leT_junk _ | exact leT_sl | exact leT_sln | exact leT_nil | (refine leT_agg (by repeat (first | exact leL_refl _ | refine leL_cons (by first | exact leT_refl _ | exact leT_sl | exact leT_sln | exact leT_nil) ?_)))) ?_)))) | (simp only [List.append_assoc, List.cons_append, List.nil_append]; exact leT_refl _) | (rw [List.take_of_length_le (by first | (simp; done) | (simp; omega))]; (try simp only [List.append_assoc, List.cons_append, List.nil_append]); exact leT_refl _) | ((try simp (disch := first | omega | (simp; done) | (simp; omega)) only [if_pos, Nat.sub_zero, List.take_of_length_le]); (try simp only [List.append_assoc, List.cons_append, List.nil_append]); first | exact leT_refl _ | exact ⟨rfl, leT_refl _⟩)
      ·refine runX_condF rfl c14 ?_
       refine runX_skip ?_
       refine endX_seq ?_
       refine runX_seq ?_
       refine runX_regionC fun C hC => ?_
       obtain ⟨g15, h⟩ := grd_some h
       obtain ⟨g16, h⟩ := grd_some h
       try simp -implicitDefEqProofs (maxSteps := 4000000) (disch := first | omega | decide | (simp only [go_sem]; omega)) only [go_sem, ↓reduceIte]
       repeat (with_reducible refine And.intro (by first | assumption | omega | (simp; done) | (simp; omega)) ?_)
       refine toEnd hC ?_
       refine endX_seq ?_
       refine runX_seq ?_
       refine runX_regionC fun C hC => ?_
       obtain ⟨g17, h⟩ := grd_some h
       try simp -implicitDefEqProofs (maxSteps := 4000000) (disch := first | omega | decide | (simp only [go_sem]; omega)) only [go_sem, ↓reduceIte]
       repeat (with_reducible refine And.intro (by first | assumption | omega | (simp; done) | (simp; omega)) ?_)
       refine toEnd hC ?_
       refine endX_seq ?_
       refine runX_seq ?_
       refine runX_regionC fun C hC => ?_
       obtain ⟨v18, h18, h⟩ := bnd_some h
       try simp -implicitDefEqProofs (maxSteps := 4000000) (disch := first | omega | decide | (simp only [go_sem]; omega)) only [go_sem, ↓reduceIte]
       repeat (with_reducible refine And.intro (by first | assumption | omega | (simp; done) | (simp; omega)) ?_)
       refine callG_X (by first | rfl | (simp only [go_sem]; done) | (simp only [closedL, closedT, Bool.and_true]; exact closedL_map _ (fun _ => by first | rfl | (simp only [go_sem]; done)) _)) (F43_ok m1 ((x6.getD ((IntKind.wrap .i64 ((x6.length : Int) - (1 : Int))).toNat) default).2) _ h18) (by repeat (first | exact leL_refl _ | refine leL_cons (by first | exact leT_refl _ | exact leT_virt | exact leT_junk _ | exact leT_sl | exact leT_sln | exact leT_nil | (refine leT_agg (by repeat (first | exact leL_refl _ | refine leL_cons (by first | exact leT_refl _ | exact leT_sl | exact leT_sln | exact leT_nil) ?_)))) ?_)) ?_
       try simp -implicitDefEqProofs (maxSteps := 4000000) (disch := first | omega | decide | (simp only [go_sem]; omega)) only [go_sem, ↓reduceIte]
       repeat (with_reducible refine And.intro (by first | assumption | omega | (simp; done) | (simp; omega)) ?_)
       refine toEnd hC ?_
       refine endX_seq ?_
       refine runX_seq ?_
       refine runX_le (leS_pp 2 42 (.agg [.imm (.string (bs ((x6.getD ((IntKind.wrap .i64 ((x6.length : Int) - (1 : Int))).toNat) default).1))), .imm (.string (bs ((x6.getD ((IntKind.wrap .i64 ((x6.length : Int) - (1 : Int))).toNat) default).2)))]) false rfl (fun E u h => Rep.close _ _ _ (by first | rfl | (simp only [closedT]; exact closedL_map _ (fun _ => by first | rfl | (simp only [go_sem]; done)) _)) h)) ?_
       simp -implicitDefEqProofs (config := { decide := true }) only [ppL, ppT, ppO, ppL_s, Own.pp, List.set_cons_zero, List.set_cons_succ, List.map_cons, List.map_nil, Option.map_some, Option.map_none, Nat.reduceMul, Nat.reduceAdd, ↓reduceIte]
       refine runX_draw2C mixed [1, 4, 5, 6, 7] (by kernel_rfl) fun C hC => ?_
       try simp -implicitDefEqProofs (maxSteps := 4000000) (disch := first | omega | decide | (simp only [go_sem]; omega)) only [go_sem, ↓reduceIte]
       repeat (with_reducible refine And.intro (by first | assumption | omega | (simp; done) | (simp; omega)) ?_)
       rcases iteB_some h with ⟨c19, h⟩ | ⟨c19, h⟩
       ·refine guardE_T c19 ?_
        try simp -implicitDefEqProofs (maxSteps := 4000000) (disch := first | omega | decide | (simp only [go_sem]; omega)) only [go_sem, ↓reduceIte]
        repeat (with_reducible refine And.intro (by first | assumption | omega | (simp; done) | (simp; omega)) ?_)
        refine toEnd hC ?_
        refine endX_seq ?_
        refine runX_ret ?_
        refine endX_q ?_
        obtain rfl := Option.some.inj h
        show RetW _ _ _ _ _
        simp only [RetW]
        (try simp -implicitDefEqProofs (maxSteps := 4000000) (disch := first | omega | decide | (simp only [go_sem]; omega)) only [go_sem, ↓reduceIte])
        (try simp (disch := omega) only [if_pos, Nat.sub_zero])
        first | exact leT_refl _ | (refine ⟨rfl, ?_⟩; first | exact leT_refl _ | exact leT_sl | exact leT_sln | exact leT_nil | (refine leT_tup (by repeat (first | exact leL_refl _ | refine leL_cons (by first | exact leT_refl _ | exact leT_virt | exact leT_junk _ | exact leT_sl | exact leT_sln | exact leT_nil | (refine leT_agg (by repeat (first | exact leL_refl _ | refine leL_cons (by first | exact leT_refl _ | exact leT_sl | exact leT_sln | exact leT_nil) ?_)))) ?_))) | (refine leT_agg (by repeat (first | exact leL_refl _ | refine leL_cons (by first | exact leT_refl _ | exact leT_virt | exact leT_junk _ | exact leT_sl | exact leT_sln | exact leT_nil | (refine leT_agg (by repeat (first | exact leL_refl _ | refine leL_cons (by first | exact leT_refl _ | exact leT_sl | exact leT_sln | exact leT_nil) ?_)))) ?_)))) | (first | exact leT_refl _ | exact leT_sl | exact leT_sln | exact leT_nil | (refine leT_tup (by repeat (first | exact leL_refl _ | refine leL_cons (by first | exact leT_refl _ | exact leT_virt | exact leT_junk _ | exact leT_sl | exact leT_sln | exact leT_nil | (refine leT_agg (by repeat (first | exact leL_refl _ | refine leL_cons (by first | exact leT_refl _ | exact leT_sl | exact leT_sln | exact leT_nil) ?_)))) ?_))) | (refine leT_agg (by repeat (first | exact leL_refl _ | refine leL_cons (by first | exact leT_refl _ | exact leT_virt | exact leT_junk _ | exact leT_sl | exact leT_sln | exact leT_nil | (refine leT_agg (by repeat (first | exact leL_refl _ | refine leL_cons (by first | exact leT_refl _ | exact leT_sl | exact leT_sln | exact leT_nil) ?_)))) ?_)))) | (simp only [List.append_assoc, List.cons_append, List.nil_append]; exact leT_refl _) | (rw [List.take_of_length_le (by first | (simp; done) | (simp; omega))]; (try simp only [List.append_assoc, List.cons_append, List.nil_append]); exact leT_refl _) | ((try simp (disch := first | omega | (simp; done) | (simp; omega)) only [if_pos, Nat.sub_zero, List.take_of_length_le]); (try simp only [List.append_assoc, List.cons_append, List.nil_append]); first | exact leT_refl _ | exact ⟨rfl, leT_refl _⟩)
       ·refine guardE_F c19 ?_
        try simp -implicitDefEqProofs (maxSteps := 4000000) (disch := first | omega | decide | (simp only [go_sem]; omega)) only [go_sem, ↓reduceIte]
        repeat (with_reducible refine And.intro (by first | assumption | omega | (simp; done) | (simp; omega)) ?_)
        refine toEnd hC ?_
        refine endX_seq ?_
        refine runX_ret ?_
        refine endX_q ?_
        obtain rfl := Option.some.inj h
        show RetW _ _ _ _ _
        simp only [RetW]
        (try simp -implicitDefEqProofs (maxSteps := 4000000) (disch := first | omega | decide | (simp only [go_sem]; omega)) only [go_sem, ↓reduceIte])
        (try simp (disch := omega) only [if_pos, Nat.sub_zero])
        first | exact leT_refl _ | (refine ⟨rfl, ?_⟩; first | exact leT_refl _ | exact leT_sl | exact leT_sln | exact leT_nil | (refine leT_tup (by repeat (first | exact leL_refl _ | refine leL_cons (by first | exact leT_refl _ | exact leT_virt | exact leT_junk _ | exact leT_sl | exact leT_sln | exact leT_nil | (refine leT_agg (by repeat (first | exact leL_refl _ | refine leL_cons (by first | exact leT_refl _ | exact leT_sl | exact leT_sln | exact leT_nil) ?_)))) ?_))) | (refine leT_agg (by repeat (first | exact leL_refl _ | refine leL_cons (by first | exact leT_refl _ | exact leT_virt | exact leT_junk _ | exact leT_sl | exact leT_sln | exact leT_nil | (refine leT_agg (by repeat (first | exact leL_refl _ | refine leL_cons (by first | exact leT_refl _ | exact leT_sl | exact leT_sln | exact leT_nil) ?_)))) ?_)))) | (first | exact leT_refl _ | exact leT_sl | exact leT_sln | exact leT_nil | (refine leT_tup (by repeat (first | exact leL_refl _ | refine leL_cons (by first | exact leT_refl _ | exact leT_virt | exact leT_junk _ | exact leT_sl | exact leT_sln | exact leT_nil | (refine leT_agg (by repeat (first | exact leL_refl _ | refine leL_cons (by first | exact leT_refl _ | exact leT_sl | exact leT_sln | exact leT_nil) ?_)))) ?_))) | (refine leT_agg (by repeat (first | exact leL_refl _ | refine leL_cons (by first | exact leT_refl _ | exact leT_virt | exact leT_junk _ | exact leT_sl | exact leT_sln | exact leT_nil | (refine leT_agg (by repeat (first | exact leL_refl _ | refine leL_cons (by first | exact leT_refl _ | exact leT_sl | exact leT_sln | exact leT_nil) ?_)))) ?_)))) | (simp only [List.append_assoc, List.cons_append, List.nil_append]; exact leT_refl _) | (rw [List.take_of_length_le (by first | (simp; done) | (simp; omega))]; (try simp only [List.append_assoc, List.cons_append, List.nil_append]); exact leT_refl _) | ((try simp (disch := first | omega | (simp; done) | (simp; omega)) only [if_pos, Nat.sub_zero, List.take_of_length_le]); (try simp only [List.append_assoc, List.cons_append, List.nil_append]); first | exact leT_refl _ | exact ⟨rfl, leT_refl _⟩)
end Go.Proofs.YtdjgldjebcoihaaDoorX

set_option linter.unusedVariables false
set_option linter.unusedSimpArgs false
namespace Go.Proofs.YtdjgldjebcoihaaDoorX
open Go Go.RowKit Go.Proofs
set_option maxRecDepth 100000
/-! ### slices.Clone: a row of its own, of the same elements -/
-- FRESH uint8
def F24 (n : Nat) (a0 : List (Int)) : Option (List (Int)) := if a0.length ≤ 1000000000 then some a0 else none
section
open Go.Lib
set_option maxHeartbeats 2000000 in
set_option maxRecDepth 100000 in
theorem cln24_row (a : Addr) (n c : Nat) (news : List Value) (w : World) (hl : news.length = n * 1) (hn : n ≤ 1000000000) (hc : ∀ j u, news[j]? = some u → w.cell? (a.add j) = some u) (h1 : ∀ u ∈ news, u.oneCell' = true) :
  Calls Tryd.prog 24 #[.slice (some a) n c] w fun e w' => ∃ v', e = .returned v' ∧ w'.ownsRow w.heap.size 5 1 v' n news ∧ Below w.heap.size w w' := by
 have q22 : ∀ (w : World) (a : Option Addr) (n c n' c' : Nat), (binOp .eql 23 (.slice a n c) (.slice none n' c')).run Tryd.prog w = .ok (.bool a.isNone) w := fun w a n c n' c' => Lib.run_eql_slice_nil w _ _ a n c n' c' Tryd.underlying23
 have u22 : ∀ w, Sem.run Tryd.prog (underlying 23) w = .ok (TypeDesc.slice 5) w := fun w => run_underlying Tryd.underlying23
 have z22 := Tryd.sizeOf5
 have A : Aside (∀ j u, news[j]? = some u → w.cell? (a.add j) = some u) := hc
 clear hc
 have hi : Tryd.prog.info? 5 = some ((Tryd.prog.info? 5).getD default) := by kernel_rfl
 have hz0 : ((Tryd.prog.info? 5).getD default).zero = some (.int .u8 0) := by kernel_rfl
 have hz1 : ((Tryd.prog.info? 5).getD default).size = 1 := by kernel_rfl
 have hz2 : ((Tryd.prog.info? 5).getD default).bytes = 1 := by kernel_rfl
 generalize ((Tryd.prog.info? 5).getD default) = i0 at hi hz0 hz1 hz2
 go_enter Tryd.func24, Tryd.ntmps24
 go_wp2_with (at_builtin; refine wpList_append_own _ rfl _ _ 23 rfl w.heap.size 5 i0 (.int .u8 0) 1 1 Tryd.underlying23 hi hz0 hz1 hz2 rfl (by decide) _ _ _ rfl (World.ownsRow_made w #[] 0 (Nat.le_refl _) (Nat.zero_le _) (by simp)) a n c news rfl ?qc1 ?qc2 ?qc3 ?qc4 ?qc5 ?qc6 ?_)
 case qc1 => exact hl
 case qc2 =>
  intro j u hj
  exact Lib.cell?_alloc_some _ (A.out j u hj)
 case qc3 => exact h1
 case qc4 => rw [Nat.zero_add]; unfold maxLen; omega
 case qc5 => rw [Nat.zero_add]; omega
 case qc6 => simp
 intro v' w1 hown hgrow hnil
 go_wp2
 go_ret
 exact ⟨v', rfl, by simpa using hown, ((Below.refl _ w).alloc (Nat.le_refl _) _).grown hgrow (by simp) (by intro k hk; simp [Value.ownBlock] at hk; omega)⟩
set_option maxHeartbeats 1000000 in
theorem cln24_nil (n c : Nat) (w : World) :
  Calls Tryd.prog 24 #[.slice none n c] w fun e w' => e = .returned (.slice none 0 0) ∧ w' = w := by
 have q22 : ∀ (w : World) (a : Option Addr) (n c n' c' : Nat), (binOp .eql 23 (.slice a n c) (.slice none n' c')).run Tryd.prog w = .ok (.bool a.isNone) w := fun w a n c n' c' => Lib.run_eql_slice_nil w _ _ a n c n' c' Tryd.underlying23
 go_enter Tryd.func24, Tryd.ntmps24
 go_wp2
 go_ret
 exact ⟨rfl, rfl⟩
end
theorem F24_ok (n : Nat) (a0 : List (Int)) (r : List (Int)) (h : F24 n a0 = some r) : FnR Tryd.prog 24 [some (.buf 5 1 [] 0)] [.sl 1 false (List.map (eI .u8) a0)] (.rsl 0 1 0 r.length) [some (.buf 5 1 (List.map (eI .u8) r) 0)] := by
 unfold F24 at h
 split at h
 case isFalse => cases h
 rename_i hh
 obtain rfl := Option.some.inj h
 have hlen : (List.map (eI .u8) a0).length = a0.length := List.length_map _
 rw [← hlen]
 refine FnR.fresh ⟨Tryd.f24, Tryd.func24, by kernel_rfl, rfl⟩ rfl fun E vs hv => ?_
 rw [← hlen] at hh
 clear hlen
 generalize List.map (eI .u8) a0 = l at hv hh
 obtain ⟨q⟩ := vs
 simp only [RepL, Rep] at hv
 obtain ⟨v, vs', e1, ⟨a, cap, c, rfl, h2, _, h4, h5⟩, rfl⟩ := hv
 have e1 : q = [_] := e1
 subst e1
 cases a with
 | none =>
  have hc : c = [] := by
   cases c with
   | nil => rfl
   | cons x c => obtain ⟨b, o, e, _⟩ := h5 0 x rfl; cases e
  have hl : l = [] := by
   have := h4.length
   rw [hc] at this
   cases l with
   | nil => rfl
   | cons x l => simp at this
  subst hc hl
  refine (cln24_nil _ _ E.w).mono ?_
  rintro e w' ⟨rfl, rfl⟩
  exact ⟨_, [], rfl, World.ownsRow_nil _ _ _ _, Below.refl _ _, h4⟩
 | some a =>
  refine (cln24_row a l.length cap c E.w h4.length (by omega) (fun j u hj => ?_) (fun u hu => ?_)).mono ?_
  ·obtain ⟨b, o, e, h6, _⟩ := h5 j u hj
   cases e
   rw [Addr.add_lit]; exact h6
  ·have := h4.leafs u hu
   cases u <;> first | rfl | cases this
  ·rintro e w' ⟨v', rfl, ho, hb⟩
   exact ⟨v', c, rfl, ho, hb, h4⟩
end Go.Proofs.YtdjgldjebcoihaaDoorX

set_option linter.unusedVariables false
set_option linter.unusedSimpArgs false
namespace Go.Proofs.YtdjgldjebcoihaaDoorX
open Go Go.RowKit Go.Proofs
set_option maxRecDepth 100000
attribute [local go_sem ↓] stepsK_build stepsK_bs appendS
attribute [local go_sem] String.reduceEq String.reduceNe reduceCtorEq Int.reduceEq Nat.reduceAdd Nat.reduceSub Nat.reduceMul Nat.reduceLT Nat.reduceLeDiff Nat.reduceEqDiff Nat.reduceBEq Int.reduceToNat Int.reduceLT Int.reduceLE Int.reduceGT Int.reduceGE Int.reduceAdd Int.reduceSub Int.reduceMul Int.reduceNeg Int.reduceBEq Int.reduceBNe Int.reducePow Int.reduceDiv Int.reduceMod Int.reduceTDiv Int.reduceTMod Int.reduceNatCast
/-! ### bytes.Equal -/
def F25 (n : Nat) (a0 : List (Int)) (a1 : List (Int)) : Option (Bool) := some ((a0.map toB) == (a1.map toB))
set_option maxHeartbeats 4000000 in
theorem F25_ok : ∀ (n : Nat) (a0 : List (Int)) (a1 : List (Int)) (r : Bool), F25 n a0 a1 = some r → FnC Tryd.prog 25 [.sl 1 false (List.map byteT a0), .sl 1 false (List.map byteT a1)] (.imm (.bool r))
 | n, a0, a1, r, h => by
  unfold F25 at h
  refine FnC.goX mixed Tryd.func25 (by kernel_rfl) rfl ?_
  simp only [Tryd.ntmps25, List.length_cons, List.length_nil, List.replicate, List.cons_append, List.nil_append, Nat.reduceAdd, Nat.reduceSub]
  refine runX_seq ?_
  refine runX_regionC fun C hC => ?_
  try simp -implicitDefEqProofs (maxSteps := 4000000) (disch := first | omega | decide | (simp only [go_sem]; omega)) only [go_sem, ↓reduceIte]
  repeat (with_reducible refine And.intro (by first | assumption | omega | (simp; done) | (simp; omega)) ?_)
  refine toEnd hC ?_
  refine endX_seq ?_
  refine runX_seq ?_
  refine runX_regionC fun C hC => ?_
  try simp -implicitDefEqProofs (maxSteps := 4000000) (disch := first | omega | decide | (simp only [go_sem]; omega)) only [go_sem, ↓reduceIte]
  repeat (with_reducible refine And.intro (by first | assumption | omega | (simp; done) | (simp; omega)) ?_)
  refine toEnd hC ?_
  refine endX_seq ?_
  refine runX_ret ?_
  refine endX_q ?_
  obtain rfl := Option.some.inj h
  show RetW _ _ _ _ _
  simp only [RetW]
  (try simp -implicitDefEqProofs (maxSteps := 4000000) (disch := first | omega | decide | (simp only [go_sem]; omega)) only [go_sem, ↓reduceIte])
  (try simp (disch := omega) only [if_pos, Nat.sub_zero])
  exact leT_refl _
end Go.Proofs.YtdjgldjebcoihaaDoorX

set_option linter.unusedVariables false
set_option linter.unusedSimpArgs false
namespace Go.Proofs.YtdjgldjebcoihaaDoorX
open Go Go.RowKit Go.Proofs
set_option maxRecDepth 100000
attribute [local go_sem ↓] stepsK_build stepsK_bs appendS
attribute [local go_sem] String.reduceEq String.reduceNe reduceCtorEq Int.reduceEq Nat.reduceAdd Nat.reduceSub Nat.reduceMul Nat.reduceLT Nat.reduceLeDiff Nat.reduceEqDiff Nat.reduceBEq Int.reduceToNat Int.reduceLT Int.reduceLE Int.reduceGT Int.reduceGE Int.reduceAdd Int.reduceSub Int.reduceMul Int.reduceNeg Int.reduceBEq Int.reduceBNe Int.reducePow Int.reduceDiv Int.reduceMod Int.reduceTDiv Int.reduceTMod Int.reduceNatCast
/-! ### reply.Read -/
def F11_S1 (a0 : List (Int)) (a1 : Bool) (v7 : ((Int) × (List ((List UInt8) × (List UInt8))) × (List (Int))) × (Int) × (Bool)) (x15 : Int) (x16 : List (Int)) : St := ⟨[.sl 1 false (List.map byteT a0), .imm (.bool a1), .junk, .junk, .ref 0 0 0 0, .junk, .junk, .junk, .junk, .junk, .junk, .imm (.int .i64 x15), .ref 3 0 0 0, .junk, .junk, .junk, .junk, .junk, .junk, .junk, .junk, .junk, .junk, .junk, .junk, .junk, .junk, .junk, .junk, .junk, .junk, .junk, .junk, .junk, .junk, .junk, .junk, .junk, .junk, .junk, .junk, .junk, .junk, .junk, .junk, .junk, .junk, .junk, .junk, .junk, .junk, .junk, .junk, .junk, .junk, .junk, .junk, .junk, .junk, .junk, .junk, .junk, .junk, .junk, .junk, .junk, .junk, .junk, .junk, .junk, .junk, .junk, .junk, .junk, .junk, .junk, .junk, .junk, .junk, .junk, .junk, .junk, .junk, .junk, .junk], [some (.box 25 (.agg [.imm (.int .i64 (0 : Int)), .sl 0 true [], .sl 0 true []]) false), none, none, some (.box 25 (.agg [.imm (.int .i64 v7.1.1), .sl 2 false (List.map eT41 v7.1.2.1), .rsl 4 1 0 x16.length]) false), some (.buf 5 1 (List.map byteT x16) 0)]⟩
def F11_S2 (a0 : List (Int)) (a1 : Bool) (v24 : ((Int) × (List ((List UInt8) × (List UInt8))) × (List (Int))) × (Int) × (Bool)) (x32 : Int) (x33 : List (Int)) : St := ⟨[.sl 1 false (List.map byteT a0), .imm (.bool a1), .junk, .junk, .ref 0 0 0 0, .junk, .junk, .junk, .junk, .junk, .junk, .imm (.int .i64 x32), .ref 3 0 0 0, .junk, .junk, .junk, .junk, .junk, .junk, .junk, .junk, .junk, .junk, .junk, .junk, .junk, .junk, .junk, .junk, .junk, .junk, .junk, .junk, .junk, .junk, .junk, .junk, .junk, .junk, .junk, .junk, .junk, .junk, .junk, .junk, .junk, .junk, .junk, .junk, .junk, .junk, .junk, .junk, .junk, .junk, .junk, .junk, .junk, .junk, .junk, .junk, .junk, .junk, .junk, .junk, .junk, .junk, .junk, .junk, .junk, .junk, .junk, .junk, .junk, .junk, .junk, .junk, .junk, .junk, .junk, .junk, .junk, .junk, .junk, .junk], [some (.box 25 (.agg [.imm (.int .i64 (0 : Int)), .sl 0 true [], .sl 0 true []]) false), none, none, some (.box 25 (.agg [.imm (.int .i64 v24.1.1), .sl 2 false (List.map eT41 v24.1.2.1), .rsl 4 1 0 x33.length]) false), some (.buf 5 1 (List.map byteT x33) 0)]⟩
def F11_J1 (n : Nat) (a0 : List (Int)) (a1 : Bool) (v7 : ((Int) × (List ((List UInt8) × (List UInt8))) × (List (Int))) × (Int) × (Bool)) (x15 : Int) (x16 : List (Int)) : Option (((Int) × (List ((List UInt8) × (List UInt8))) × (List (Int))) × (Int) × (Int)) := (F7 n (v7.1.1, v7.1.2.1, x16) a1).bind fun v17 => grd (0 ≤ x15 ∧ x15 ≤ (a0.length : Int)) ((F25 n v17 (a0.take x15.toNat)).bind fun v19 => iteB (!v19) (some (((0 : Int), [], []), (0 : Int), (11 : Int))) (iteB a1 (some ((v7.1.1, v7.1.2.1, []), x15, (0 : Int))) (some ((v7.1.1, v7.1.2.1, x16), x15, (0 : Int)))))
def F11_J2 (n : Nat) (a0 : List (Int)) (a1 : Bool) (v24 : ((Int) × (List ((List UInt8) × (List UInt8))) × (List (Int))) × (Int) × (Bool)) (x32 : Int) (x33 : List (Int)) : Option (((Int) × (List ((List UInt8) × (List UInt8))) × (List (Int))) × (Int) × (Int)) := (F7 n (v24.1.1, v24.1.2.1, x33) a1).bind fun v34 => grd (0 ≤ x32 ∧ x32 ≤ (a0.length : Int)) ((F25 n v34 (a0.take x32.toNat)).bind fun v36 => iteB (!v36) (some (((0 : Int), [], []), (0 : Int), (11 : Int))) (iteB a1 (some ((v24.1.1, v24.1.2.1, []), x32, (0 : Int))) (some ((v24.1.1, v24.1.2.1, x33), x32, (0 : Int)))))
def F11 (n : Nat) (a0 : List (Int)) (a1 : Bool) : Option (((Int) × (List ((List UInt8) × (List UInt8))) × (List (Int))) × (Int) × (Int)) := (F22 n a0 [(13 : Int), (10 : Int), (13 : Int), (10 : Int)]).bind fun v1 => iteB (decide ((65536 : Int) < v1)) (some (((0 : Int), [], []), (0 : Int), (11 : Int))) (iteB (decide (v1 < (0 : Int))) (iteB (decide ((65536 : Int) < (a0.length : Int))) (some (((0 : Int), [], []), (0 : Int), (11 : Int))) (iteB (decide (v1 < (0 : Int))) (some (((0 : Int), [], []), (0 : Int), (10 : Int))) (grd (0 ≤ v1 ∧ v1 ≤ (a0.length : Int)) ((F23 n ((a0.take v1.toNat).map toB)).bind fun v7 => iteB (!v7.2.2) (some (((0 : Int), [], []), (0 : Int), (11 : Int))) (iteB a1 (grd (0 ≤ (if (65536 : Int) < v7.2.1 then (65536 : Int) else v7.2.1) ∧ (if (65536 : Int) < v7.2.1 then (65536 : Int) else v7.2.1) ≤ (if (65536 : Int) < v7.2.1 then (65536 : Int) else v7.2.1) ∧ (if (65536 : Int) < v7.2.1 then (65536 : Int) else v7.2.1) ≤ 1099511627776) (F11_J1 n a0 a1 v7 (IntKind.wrap .i64 (v1 + (4 : Int))) (List.replicate (if (65536 : Int) < v7.2.1 then (65536 : Int) else v7.2.1).toNat (0 : Int)))) (iteB (decide ((IntKind.wrap .i64 ((a0.length : Int) - (IntKind.wrap .i64 (v1 + (4 : Int))))) < v7.2.1)) (some (((0 : Int), [], []), (0 : Int), (10 : Int))) (grd (0 ≤ (IntKind.wrap .i64 (v1 + (4 : Int))) ∧ (IntKind.wrap .i64 (v1 + (4 : Int))) ≤ (IntKind.wrap .i64 ((IntKind.wrap .i64 (v1 + (4 : Int))) + v7.2.1)) ∧ (IntKind.wrap .i64 ((IntKind.wrap .i64 (v1 + (4 : Int))) + v7.2.1)) ≤ (a0.length : Int)) ((F24 n ((a0.take (IntKind.wrap .i64 ((IntKind.wrap .i64 (v1 + (4 : Int))) + v7.2.1)).toNat).drop (IntKind.wrap .i64 (v1 + (4 : Int))).toNat)).bind fun v14 => F11_J1 n a0 a1 v7 (IntKind.wrap .i64 ((IntKind.wrap .i64 (v1 + (4 : Int))) + v7.2.1)) v14)))))))) (iteB (decide (v1 < (0 : Int))) (some (((0 : Int), [], []), (0 : Int), (10 : Int))) (grd (0 ≤ v1 ∧ v1 ≤ (a0.length : Int)) ((F23 n ((a0.take v1.toNat).map toB)).bind fun v24 => iteB (!v24.2.2) (some (((0 : Int), [], []), (0 : Int), (11 : Int))) (iteB a1 (grd (0 ≤ (if (65536 : Int) < v24.2.1 then (65536 : Int) else v24.2.1) ∧ (if (65536 : Int) < v24.2.1 then (65536 : Int) else v24.2.1) ≤ (if (65536 : Int) < v24.2.1 then (65536 : Int) else v24.2.1) ∧ (if (65536 : Int) < v24.2.1 then (65536 : Int) else v24.2.1) ≤ 1099511627776) (F11_J2 n a0 a1 v24 (IntKind.wrap .i64 (v1 + (4 : Int))) (List.replicate (if (65536 : Int) < v24.2.1 then (65536 : Int) else v24.2.1).toNat (0 : Int)))) (iteB (decide ((IntKind.wrap .i64 ((a0.length : Int) - (IntKind.wrap .i64 (v1 + (4 : Int))))) < v24.2.1)) (some (((0 : Int), [], []), (0 : Int), (10 : Int))) (grd (0 ≤ (IntKind.wrap .i64 (v1 + (4 : Int))) ∧ (IntKind.wrap .i64 (v1 + (4 : Int))) ≤ (IntKind.wrap .i64 ((IntKind.wrap .i64 (v1 + (4 : Int))) + v24.2.1)) ∧ (IntKind.wrap .i64 ((IntKind.wrap .i64 (v1 + (4 : Int))) + v24.2.1)) ≤ (a0.length : Int)) ((F24 n ((a0.take (IntKind.wrap .i64 ((IntKind.wrap .i64 (v1 + (4 : Int))) + v24.2.1)).toNat).drop (IntKind.wrap .i64 (v1 + (4 : Int))).toNat)).bind fun v31 => F11_J2 n a0 a1 v24 (IntKind.wrap .i64 ((IntKind.wrap .i64 (v1 + (4 : Int))) + v24.2.1)) v31))))))))
set_option maxHeartbeats 4000000 in
theorem F11_ok : ∀ (n : Nat) (a0 : List (Int)) (a1 : Bool) (r : ((Int) × (List ((List UInt8) × (List UInt8))) × (List (Int))) × (Int) × (Int)), F11 n a0 a1 = some r → FnC Tryd.prog 11 [.sl 1 false (List.map byteT a0), .imm (.bool a1)] (.tup [.agg [.imm (.int .i64 r.1.1), .sl 2 false (List.map eT41 r.1.2.1), .sl 1 false (List.map byteT r.1.2.2)], .imm (.int .i64 r.2.1), .imm (.int .i64 r.2.2)])
 | n, a0, a1, r, h => by
  unfold F11 at h
  refine FnC.goX mixed Tryd.func11 (by kernel_rfl) rfl ?_
  simp only [Tryd.ntmps11, List.length_cons, List.length_nil, List.replicate, List.cons_append, List.nil_append, Nat.reduceAdd, Nat.reduceSub]
  refine runX_seq ?_
  refine runX_regionC fun C hC => ?_
  try simp -implicitDefEqProofs (maxSteps := 4000000) (disch := first | omega | decide | (simp only [go_sem]; omega)) only [go_sem, ↓reduceIte]
  repeat (with_reducible refine And.intro (by first | assumption | omega | (simp; done) | (simp; omega)) ?_)
  refine toEnd hC ?_
  refine endX_seq ?_
  refine runX_seq ?_
  refine runX_regionC fun C hC => ?_
  try simp -implicitDefEqProofs (maxSteps := 4000000) (disch := first | omega | decide | (simp only [go_sem]; omega)) only [go_sem, ↓reduceIte]
  repeat (with_reducible refine And.intro (by first | assumption | omega | (simp; done) | (simp; omega)) ?_)
  refine bs_go <| buildX_lock 5 1 (List.map byteT ([(13 : Int), (10 : Int), (13 : Int), (10 : Int)] : List (Int))) (by kernel_rfl) (by (try simp -implicitDefEqProofs (maxSteps := 4000000) (disch := first | omega | decide | (simp only [go_sem]; omega)) only [go_sem, ↓reduceIte]); first | done | rfl) ?_
  obtain ⟨v1, h1, h⟩ := bnd_some h
  try simp -implicitDefEqProofs (maxSteps := 4000000) (disch := first | omega | decide | (simp only [go_sem]; omega)) only [go_sem, ↓reduceIte]
  repeat (with_reducible refine And.intro (by first | assumption | omega | (simp; done) | (simp; omega)) ?_)
  refine callG_X (by first | rfl | (simp only [go_sem]; done) | (simp only [closedL, closedT, Bool.and_true]; exact closedL_map _ (fun _ => by first | rfl | (simp only [go_sem]; done)) _)) (F22_ok n a0 [(13 : Int), (10 : Int), (13 : Int), (10 : Int)] _ h1) (by repeat (first | exact leL_refl _ | refine leL_cons (by first | exact leT_refl _ | exact leT_sl | exact leT_sln | (refine leT_slX (by repeat (first | exact leE_refl _ | refine leE_cons (by first | exact leT_refl _ | exact leT_sl | (refine leT_agg (by repeat (first | exact leL_refl _ | refine leL_cons (by first | exact leT_refl _ | exact leT_sl | exact leT_sln) ?_)))) ?_)) rfl) | (refine leT_agg (by repeat (first | exact leL_refl _ | refine leL_cons (by first | exact leT_refl _ | exact leT_sl | exact leT_sln | (refine leT_slX (by repeat (first | exact leE_refl _ | refine leE_cons (by first | exact leT_refl _ | exact leT_sl | (refine leT_agg (by repeat (first | exact leL_refl _ | refine leL_cons (by first | exact leT_refl _ | exact leT_sl | exact leT_sln) ?_)))) ?_)) rfl)) ?_)))) ?_)) ?_
  try simp -implicitDefEqProofs (maxSteps := 4000000) (disch := first | omega | decide | (simp only [go_sem]; omega)) only [go_sem, ↓reduceIte]
  repeat (with_reducible refine And.intro (by first | assumption | omega | (simp; done) | (simp; omega)) ?_)
  refine toEnd hC ?_
  refine endX_seq ?_
  refine runX_seq ?_
  refine runX_seq ?_
  refine runX_regionC fun C hC => ?_
  try simp -implicitDefEqProofs (maxSteps := 4000000) (disch := first | omega | decide | (simp only [go_sem]; omega)) only [go_sem, ↓reduceIte]
  repeat (with_reducible refine And.intro (by first | assumption | omega | (simp; done) | (simp; omega)) ?_)
  rcases iteB_some h with ⟨c2, h⟩ | ⟨c2, h⟩
  ·refine guardK_F c2 ?_
   try simp -implicitDefEqProofs (maxSteps := 4000000) (disch := first | omega | decide | (simp only [go_sem]; omega)) only [go_sem, ↓reduceIte]
   repeat (with_reducible refine And.intro (by first | assumption | omega | (simp; done) | (simp; omega)) ?_)
   refine toEnd hC ?_
   refine endX_seq ?_
   refine runX_condT rfl rfl ?_
   refine runX_seq ?_
   refine runX_regionC fun C hC => ?_
   simp only [runK_region, runK_draw, liteL, liteL2, dstsL, gL, List.getD_cons_zero, List.getD_cons_succ]
   try simp -implicitDefEqProofs (maxSteps := 4000000) (disch := first | omega | decide | (simp only [go_sem]; omega)) only [go_sem, ↓reduceIte]
   repeat (with_reducible refine And.intro (by first | assumption | omega | (simp; done) | (simp; omega)) ?_)
   refine bldG_of [.imm (.int .i64 (0 : Int)), .sl 0 true [], .sl 0 true []] (by kernel_rfl) ?_
   try simp -implicitDefEqProofs (maxSteps := 4000000) (disch := first | omega | decide | (simp only [go_sem]; omega)) only [go_sem, ↓reduceIte]
   repeat (with_reducible refine And.intro (by first | assumption | omega | (simp; done) | (simp; omega)) ?_)
   refine toEnd hC ?_
   refine endX_seq ?_
   refine runX_ret ?_
   refine endX_seqR ?_
   refine endX_q ?_
   obtain rfl := Option.some.inj h
   show RetW _ _ _ _ _
   simp only [RetW]
   (try simp -implicitDefEqProofs (maxSteps := 4000000) (disch := first | omega | decide | (simp only [go_sem]; omega)) only [go_sem, ↓reduceIte])
   (try simp (disch := omega) only [if_pos, Nat.sub_zero])
   first | exact leT_refl _ | (refine ⟨rfl, ?_⟩; first | exact leT_refl _ | exact leT_sl | exact leT_sln | exact leT_nil | (refine leT_tup (by repeat (first | exact leL_refl _ | refine leL_cons (by first | exact leT_refl _ | exact leT_virt | exact leT_junk _ | exact leT_sl | exact leT_sln | exact leT_nil | (refine leT_agg (by repeat (first | exact leL_refl _ | refine leL_cons (by first | exact leT_refl _ | exact leT_sl | exact leT_sln | exact leT_nil) ?_)))) ?_))) | (refine leT_agg (by repeat (first | exact leL_refl _ | refine leL_cons (by first | exact leT_refl _ | exact leT_virt | exact leT_junk _ | exact leT_sl | exact leT_sln | exact leT_nil | (refine leT_agg (by repeat (first | exact leL_refl _ | refine leL_cons (by first | exact leT_refl _ | exact leT_sl | exact leT_sln | exact leT_nil) ?_)))) ?_)))) | (first | exact leT_refl _ | exact leT_sl | exact leT_sln | exact leT_nil | (refine leT_tup (by repeat (first | exact leL_refl _ | refine leL_cons (by first | exact leT_refl _ | exact leT_virt | exact leT_junk _ | exact leT_sl | exact leT_sln | exact leT_nil | (refine leT_agg (by repeat (first | exact leL_refl _ | refine leL_cons (by first | exact leT_refl _ | exact leT_sl | exact leT_sln | exact leT_nil) ?_)))) ?_))) | (refine leT_agg (by repeat (first | exact leL_refl _ | refine leL_cons (by first | exact leT_refl _ | exact leT_virt | exact leT_junk _ | exact leT_sl | exact leT_sln | exact leT_nil | (refine leT_agg (by repeat (first | exact leL_refl _ | refine leL_cons (by first | exact leT_refl _ | exact leT_sl | exact leT_sln | exact leT_nil) ?_)))) ?_)))) | (simp only [List.append_assoc, List.cons_append, List.nil_append]; exact leT_refl _) | (rw [List.take_of_length_le (by first | (simp; done) | (simp; omega))]; (try simp only [List.append_assoc, List.cons_append, List.nil_append]); exact leT_refl _) | ((try simp (disch := first | omega | (simp; done) | (simp; omega)) only [if_pos, Nat.sub_zero, List.take_of_length_le]); (try simp only [List.append_assoc, List.cons_append, List.nil_append]); first | exact leT_refl _ | exact ⟨rfl, leT_refl _⟩)
  ·refine guardK_T c2 ?_
   try simp -implicitDefEqProofs (maxSteps := 4000000) (disch := first | omega | decide | (simp only [go_sem]; omega)) only [go_sem, ↓reduceIte]
   repeat (with_reducible refine And.intro (by first | assumption | omega | (simp; done) | (simp; omega)) ?_)
   rcases iteB_some h with ⟨c3, h⟩ | ⟨c3, h⟩
   ·refine guardK_T c3 ?_
    try simp -implicitDefEqProofs (maxSteps := 4000000) (disch := first | omega | decide | (simp only [go_sem]; omega)) only [go_sem, ↓reduceIte]
    repeat (with_reducible refine And.intro (by first | assumption | omega | (simp; done) | (simp; omega)) ?_)
    refine toEnd hC ?_
    refine endX_seq ?_
    rcases iteB_some h with ⟨c4, h⟩ | ⟨c4, h⟩
    ·refine runX_condT rfl c4 ?_
     refine runX_seq ?_
     refine runX_regionC fun C hC => ?_
     simp only [runK_region, runK_draw, liteL, liteL2, dstsL, gL, List.getD_cons_zero, List.getD_cons_succ]
     try simp -implicitDefEqProofs (maxSteps := 4000000) (disch := first | omega | decide | (simp only [go_sem]; omega)) only [go_sem, ↓reduceIte]
     repeat (with_reducible refine And.intro (by first | assumption | omega | (simp; done) | (simp; omega)) ?_)
     refine bldG_of [.imm (.int .i64 (0 : Int)), .sl 0 true [], .sl 0 true []] (by kernel_rfl) ?_
     try simp -implicitDefEqProofs (maxSteps := 4000000) (disch := first | omega | decide | (simp only [go_sem]; omega)) only [go_sem, ↓reduceIte]
     repeat (with_reducible refine And.intro (by first | assumption | omega | (simp; done) | (simp; omega)) ?_)
     refine toEnd hC ?_
     refine endX_seq ?_
     refine runX_ret ?_
     refine endX_seqR ?_
     refine endX_q ?_
     obtain rfl := Option.some.inj h
     show RetW _ _ _ _ _
     simp only [RetW]
     (try simp -implicitDefEqProofs (maxSteps := 4000000) (disch := first | omega | decide | (simp only [go_sem]; omega)) only [go_sem, ↓reduceIte])
     (try simp (disch := omega) only [if_pos, Nat.sub_zero])
     first | exact leT_refl _ | (refine ⟨rfl, ?_⟩; first | exact leT_refl _ | exact leT_sl | exact leT_sln | exact leT_nil | (refine leT_tup (by repeat (first | exact leL_refl _ | refine leL_cons (by first | exact leT_refl _ | exact leT_virt | exact leT_junk _ | exact leT_sl | exact leT_sln | exact leT_nil | (refine leT_agg (by repeat (first | exact leL_refl _ | refine leL_cons (by first | exact leT_refl _ | exact leT_sl | exact leT_sln | exact leT_nil) ?_)))) ?_))) | (refine leT_agg (by repeat (first | exact leL_refl _ | refine leL_cons (by first | exact leT_refl _ | exact leT_virt | exact leT_junk _ | exact leT_sl | exact leT_sln | exact leT_nil | (refine leT_agg (by repeat (first | exact leL_refl _ | refine leL_cons (by first | exact leT_refl _ | exact leT_sl | exact leT_sln | exact leT_nil) ?_)))) ?_)))) | (first | exact leT_refl _ | exact leT_sl | exact leT_sln | exact leT_nil | (refine leT_tup (by repeat (first | exact leL_refl _ | refine leL_cons (by first | exact leT_refl _ | exact leT_virt | exact leT_junk _ | exact leT_sl | exact leT_sln | exact leT_nil | (refine leT_agg (by repeat (first | exact leL_refl _ | refine leL_cons (by first | exact leT_refl _ | exact leT_sl | exact leT_sln | exact leT_nil) ?_)))) ?_))) | (refine leT_agg (by repeat (first | exact leL_refl _ | refine leL_cons (by first | exact leT_refl _ | exact leT_virt | exact leT_junk _ | exact leT_sl | exact leT_sln | exact leT_nil | (refine leT_agg (by repeat (first | exact leL_refl _ | refine leL_cons (by first | exact leT_refl _ | exact leT_sl | exact leT_sln | exact leT_nil) ?_)))) ?_)))) | (simp only [List.append_assoc, List.cons_append, List.nil_append]; exact leT_refl _) | (rw [List.take_of_length_le (by first | (simp; done) | (simp; omega))]; (try simp only [List.append_assoc, List.cons_append, List.nil_append]); exact leT_refl _) | ((try simp (disch := first | omega | (simp; done) | (simp; omega)) only [if_pos, Nat.sub_zero, List.take_of_length_le]); (try simp only [List.append_assoc, List.cons_append, List.nil_append]); first | exact leT_refl _ | exact ⟨rfl, leT_refl _⟩)
    ·refine runX_condF rfl c4 ?_
     refine runX_skip ?_
     refine endX_seq ?_
     refine runX_seq ?_
     refine runX_seq ?_
     refine runX_regionC fun C hC => ?_
     try simp -implicitDefEqProofs (maxSteps := 4000000) (disch := first | omega | decide | (simp only [go_sem]; omega)) only [go_sem, ↓reduceIte]
     repeat (with_reducible refine And.intro (by first | assumption | omega | (simp; done) | (simp; omega)) ?_)
     refine toEnd hC ?_
     refine endX_seq ?_
     rcases iteB_some h with ⟨c5, h⟩ | ⟨c5, h⟩
     ·refine runX_condT rfl c5 ?_
      refine runX_seq ?_
      refine runX_regionC fun C hC => ?_
      simp only [runK_region, runK_draw, liteL, liteL2, dstsL, gL, List.getD_cons_zero, List.getD_cons_succ]
      try simp -implicitDefEqProofs (maxSteps := 4000000) (disch := first | omega | decide | (simp only [go_sem]; omega)) only [go_sem, ↓reduceIte]
      repeat (with_reducible refine And.intro (by first | assumption | omega | (simp; done) | (simp; omega)) ?_)
      refine bldG_of [.imm (.int .i64 (0 : Int)), .sl 0 true [], .sl 0 true []] (by kernel_rfl) ?_
      try simp -implicitDefEqProofs (maxSteps := 4000000) (disch := first | omega | decide | (simp only [go_sem]; omega)) only [go_sem, ↓reduceIte]
      repeat (with_reducible refine And.intro (by first | assumption | omega | (simp; done) | (simp; omega)) ?_)
      refine toEnd hC ?_
      refine endX_seq ?_
      refine runX_ret ?_
      refine endX_seqR ?_
      refine endX_q ?_
      obtain rfl := Option.some.inj h
      show RetW _ _ _ _ _
      simp only [RetW]
      (try simp -implicitDefEqProofs (maxSteps := 4000000) (disch := first | omega | decide | (simp only [go_sem]; omega)) only [go_sem, ↓reduceIte])
      (try simp (disch := omega) only [if_pos, Nat.sub_zero])
      first | exact leT_refl _ | (refine ⟨rfl, ?_⟩; first | exact leT_refl _ | exact leT_sl | exact leT_sln | exact leT_nil | (refine leT_tup (by repeat (first | exact leL_refl _ | refine leL_cons (by first | exact leT_refl _ | exact leT_virt | exact leT_junk _ | exact leT_sl | exact leT_sln | exact leT_nil | (refine leT_agg (by repeat (first | exact leL_refl _ | refine leL_cons (by first | exact leT_refl _ | exact leT_sl | exact leT_sln | exact leT_nil) ?_)))) ?_))) | (refine leT_agg (by repeat (first | exact leL_refl _ | refine leL_cons (by first | exact leT_refl _ | exact leT_virt | exact leT_junk _ | exact leT_sl | exact leT_sln | exact leT_nil | (refine leT_agg (by repeat (first | exact leL_refl _ | refine leL_cons (by first | exact leT_refl _ | exact leT_sl | exact leT_sln | exact leT_nil) ?_)))) ?_)))) | (first | exact leT_refl _ | exact leT_sl | exact leT_sln | exact leT_nil | (refine leT_tup (by repeat (first | exact leL_refl _ | refine leL_cons (by first | exact leT_refl _ | exact leT_virt | exact leT_junk _ | exact leT_sl | exact leT_sln | exact leT_nil | (refine leT_agg (by repeat (first | exact leL_refl _ | refine leL_cons (by first | exact leT_refl _ | exact leT_sl | exact leT_sln | exact leT_nil) ?_)))) ?_))) | (refine leT_agg (by repeat (first | exact leL_refl _ | refine leL_cons (by first | exact leT_refl _ | exact leT_virt | exact leT_junk _ | exact leT_sl | exact leT_sln | exact leT_nil | (refine leT_agg (by repeat (first | exact leL_refl _ | refine leL_cons (by first | exact leT_refl _ | exact leT_sl | exact leT_sln | exact leT_nil) ?_)))) ?_)))) | (simp only [List.append_assoc, List.cons_append, List.nil_append]; exact leT_refl _) | (rw [List.take_of_length_le (by first | (simp; done) | (simp; omega))]; (try simp only [List.append_assoc, List.cons_append, List.nil_append]); exact leT_refl _) | ((try simp (disch := first | omega | (simp; done) | (simp; omega)) only [if_pos, Nat.sub_zero, List.take_of_length_le]); (try simp only [List.append_assoc, List.cons_append, List.nil_append]); first | exact leT_refl _ | exact ⟨rfl, leT_refl _⟩)
     ·refine runX_condF rfl c5 ?_
      refine runX_skip ?_
      refine endX_seq ?_
      refine runX_seq ?_
      refine runX_regionC fun C hC => ?_
      obtain ⟨g6, h⟩ := grd_some h
      obtain ⟨v7, h7, h⟩ := bnd_some h
      try simp -implicitDefEqProofs (maxSteps := 4000000) (disch := first | omega | decide | (simp only [go_sem]; omega)) only [go_sem, ↓reduceIte]
      repeat (with_reducible refine And.intro (by first | assumption | omega | (simp; done) | (simp; omega)) ?_)
      refine callG_X (by first | rfl | (simp only [go_sem]; done) | (simp only [closedL, closedT, Bool.and_true]; exact closedL_map _ (fun _ => by first | rfl | (simp only [go_sem]; done)) _)) (F23_ok n ((a0.take v1.toNat).map toB) _ h7) (by repeat (first | exact leL_refl _ | refine leL_cons (by first | exact leT_refl _ | exact leT_virt | exact leT_junk _ | exact leT_sl | exact leT_sln | exact leT_nil | (refine leT_agg (by repeat (first | exact leL_refl _ | refine leL_cons (by first | exact leT_refl _ | exact leT_sl | exact leT_sln | exact leT_nil) ?_)))) ?_)) ?_
      try simp -implicitDefEqProofs (maxSteps := 4000000) (disch := first | omega | decide | (simp only [go_sem]; omega)) only [go_sem, ↓reduceIte]
      repeat (with_reducible refine And.intro (by first | assumption | omega | (simp; done) | (simp; omega)) ?_)
      refine toEnd hC ?_
      refine endX_seq ?_
      refine runX_seq ?_
      refine runX_seq ?_
      refine runX_regionC fun C hC => ?_
      try simp -implicitDefEqProofs (maxSteps := 4000000) (disch := first | omega | decide | (simp only [go_sem]; omega)) only [go_sem, ↓reduceIte]
      repeat (with_reducible refine And.intro (by first | assumption | omega | (simp; done) | (simp; omega)) ?_)
      refine toEnd hC ?_
      refine endX_seq ?_
      rcases iteB_some h with ⟨c8, h⟩ | ⟨c8, h⟩
      ·refine runX_condT rfl c8 ?_
       refine runX_seq ?_
       refine runX_regionC fun C hC => ?_
       simp only [runK_region, runK_draw, liteL, liteL2, dstsL, gL, List.getD_cons_zero, List.getD_cons_succ]
       try simp -implicitDefEqProofs (maxSteps := 4000000) (disch := first | omega | decide | (simp only [go_sem]; omega)) only [go_sem, ↓reduceIte]
       repeat (with_reducible refine And.intro (by first | assumption | omega | (simp; done) | (simp; omega)) ?_)
       refine bldG_of [.imm (.int .i64 (0 : Int)), .sl 0 true [], .sl 0 true []] (by kernel_rfl) ?_
       try simp -implicitDefEqProofs (maxSteps := 4000000) (disch := first | omega | decide | (simp only [go_sem]; omega)) only [go_sem, ↓reduceIte]
       repeat (with_reducible refine And.intro (by first | assumption | omega | (simp; done) | (simp; omega)) ?_)
       refine toEnd hC ?_
       refine endX_seq ?_
       refine runX_ret ?_
       refine endX_seqR ?_
       refine endX_q ?_
       obtain rfl := Option.some.inj h
       show RetW _ _ _ _ _
       simp only [RetW]
       (try simp -implicitDefEqProofs (maxSteps := 4000000) (disch := first | omega | decide | (simp only [go_sem]; omega)) only [go_sem, ↓reduceIte])
       (try simp (disch := omega) only [if_pos, Nat.sub_zero])
       first | exact leT_refl _ | (refine ⟨rfl, ?_⟩; first | exact leT_refl _ | exact leT_sl | exact leT_sln | exact leT_nil | (refine leT_tup (by repeat (first | exact leL_refl _ | refine leL_cons (by first | exact leT_refl _ | exact leT_virt | exact leT_junk _ | exact leT_sl | exact leT_sln | exact leT_nil | (refine leT_agg (by repeat (first | exact leL_refl _ | refine leL_cons (by first | exact leT_refl _ | exact leT_sl | exact leT_sln | exact leT_nil) ?_)))) ?_))) | (refine leT_agg (by repeat (first | exact leL_refl _ | refine leL_cons (by first | exact leT_refl _ | exact leT_virt | exact leT_junk _ | exact leT_sl | exact leT_sln | exact leT_nil | (refine leT_agg (by repeat (first | exact leL_refl _ | refine leL_cons (by first | exact leT_refl _ | exact leT_sl | exact leT_sln | exact leT_nil) ?_)))) ?_)))) | (first | exact leT_refl _ | exact leT_sl | exact leT_sln | exact leT_nil | (refine leT_tup (by repeat (first | exact leL_refl _ | refine leL_cons (by first | exact leT_refl _ | exact leT_virt | exact leT_junk _ | exact leT_sl | exact leT_sln | exact leT_nil | (refine leT_agg (by repeat (first | exact leL_refl _ | refine leL_cons (by first | exact leT_refl _ | exact leT_sl | exact leT_sln | exact leT_nil) ?_)))) ?_))) | (refine leT_agg (by repeat (first | exact leL_refl _ | refine leL_cons (by first | exact leT_refl _ | exact leT_virt | exact leT_junk _ | exact leT_sl | exact leT_sln | exact leT_nil | (refine leT_agg (by repeat (first | exact leL_refl _ | refine leL_cons (by first | exact leT_refl _ | exact leT_sl | exact leT_sln | exact leT_nil) ?_)))) ?_)))) | (simp only [List.append_assoc, List.cons_append, List.nil_append]; exact leT_refl _) | (rw [List.take_of_length_le (by first | (simp; done) | (simp; omega))]; (try simp only [List.append_assoc, List.cons_append, List.nil_append]); exact leT_refl _) | ((try simp (disch := first | omega | (simp; done) | (simp; omega)) only [if_pos, Nat.sub_zero, List.take_of_length_le]); (try simp only [List.append_assoc, List.cons_append, List.nil_append]); first | exact leT_refl _ | exact ⟨rfl, leT_refl _⟩)
      ·refine runX_condF rfl c8 ?_
       refine runX_skip ?_
       refine endX_seq ?_
       refine runX_seq ?_
       refine runX_regionC fun C hC => ?_
       try simp -implicitDefEqProofs (maxSteps := 4000000) (disch := first | omega | decide | (simp only [go_sem]; omega)) only [go_sem, ↓reduceIte]
       repeat (with_reducible refine And.intro (by first | assumption | omega | (simp; done) | (simp; omega)) ?_)
       refine toEnd hC ?_
       refine endX_seq ?_
       refine runX_seq ?_
       refine runX_regionC fun C hC => ?_
       try simp -implicitDefEqProofs (maxSteps := 4000000) (disch := first | omega | decide | (simp only [go_sem]; omega)) only [go_sem, ↓reduceIte]
       repeat (with_reducible refine And.intro (by first | assumption | omega | (simp; done) | (simp; omega)) ?_)
       refine toEnd hC ?_
       refine endX_seq ?_
       refine runX_seq ?_
       refine runX_regionC fun C hC => ?_
       try simp -implicitDefEqProofs (maxSteps := 4000000) (disch := first | omega | decide | (simp only [go_sem]; omega)) only [go_sem, ↓reduceIte]
       repeat (with_reducible refine And.intro (by first | assumption | omega | (simp; done) | (simp; omega)) ?_)
       refine toEnd hC ?_
       refine endX_seq ?_
       refine runX_meet [0, 1, 4, 11, 12] (fun S => ∃ (x15 : Int) (x16 : List (Int)), S = F11_S1 a0 a1 v7 x15 x16 ∧ F11_J1 n a0 a1 v7 x15 x16 = some r) ?_ ?_
       ·refine runX_seq ?_
        refine runX_regionC fun C hC => ?_
        try simp -implicitDefEqProofs (maxSteps := 4000000) (disch := first | omega | decide | (simp only [go_sem]; omega)) only [go_sem, ↓reduceIte]
        repeat (with_reducible refine And.intro (by first | assumption | omega | (simp; done) | (simp; omega)) ?_)
        refine toEnd hC ?_
        refine endX_seq ?_
        rcases iteB_some h with ⟨c9, h⟩ | ⟨c9, h⟩
        ·refine runX_condT rfl c9 ?_
         refine runX_seq ?_
         refine runX_regionC fun C hC => ?_
         try simp -implicitDefEqProofs (maxSteps := 4000000) (disch := first | omega | decide | (simp only [go_sem]; omega)) only [go_sem, ↓reduceIte]
         repeat (with_reducible refine And.intro (by first | assumption | omega | (simp; done) | (simp; omega)) ?_)
         refine toEnd hC ?_
         refine endX_seq ?_
         refine runX_regionC fun C hC => ?_
         obtain ⟨g10, h⟩ := grd_some h
         have e11 : List.replicate (if (65536 : Int) < v7.2.1 then (65536 : Int) else v7.2.1).toNat (T.imm (.int .u8 (0 : Int))) = List.map byteT (List.replicate (if (65536 : Int) < v7.2.1 then (65536 : Int) else v7.2.1).toNat (0 : Int)) := rep_u8 (if (65536 : Int) < v7.2.1 then (65536 : Int) else v7.2.1).toNat (0 : Int)
         try simp -implicitDefEqProofs (maxSteps := 4000000) (disch := first | omega | decide | (simp only [go_sem]; omega)) only [go_sem, ↓reduceIte, e11]
         repeat (with_reducible refine And.intro (by first | assumption | omega | (simp; done) | (simp; omega)) ?_)
         refine toEnd hC ?_
         refine endX_q (meetQ_normal ⟨F11_S1 a0 a1 v7 (IntKind.wrap .i64 (v1 + (4 : Int))) (List.replicate (if (65536 : Int) < v7.2.1 then (65536 : Int) else v7.2.1).toNat (0 : Int)), ?_, (IntKind.wrap .i64 (v1 + (4 : Int))), (List.replicate (if (65536 : Int) < v7.2.1 then (65536 : Int) else v7.2.1).toNat (0 : Int)), rfl, h⟩)
         simp only [F11_S1]
         (try simp -implicitDefEqProofs (maxSteps := 4000000) (disch := first | omega | decide | (simp only [go_sem]; omega)) only [go_sem, ↓reduceIte])
         first | exact leS_refl _ | (refine leS_le ?_ ?_ <;> first | exact leL_refl _ | exact leOs_refl _ | (simp only [List.append_assoc, List.cons_append, List.nil_append]; exact leOs_refl _) | (repeat (first | exact leL_refl _ | refine leL_cons (by first | exact leT_refl _ | exact leT_virt | exact leT_junk _ | exact leT_sl | exact leT_sln | exact leT_nil | (refine leT_agg (by repeat (first | exact leL_refl _ | refine leL_cons (by first | exact leT_refl _ | exact leT_sl | exact leT_sln | exact leT_nil) ?_)))) ?_)))
        ·refine runX_condF rfl c9 ?_
         refine runX_seq ?_
         refine runX_seq ?_
         refine runX_regionC fun C hC => ?_
         try simp -implicitDefEqProofs (maxSteps := 4000000) (disch := first | omega | decide | (simp only [go_sem]; omega)) only [go_sem, ↓reduceIte]
         repeat (with_reducible refine And.intro (by first | assumption | omega | (simp; done) | (simp; omega)) ?_)
         refine toEnd hC ?_
         refine endX_seq ?_
         rcases iteB_some h with ⟨c12, h⟩ | ⟨c12, h⟩
         ·refine runX_condT rfl c12 ?_
          refine runX_seq ?_
          refine runX_regionC fun C hC => ?_
          simp only [runK_region, runK_draw, liteL, liteL2, dstsL, gL, List.getD_cons_zero, List.getD_cons_succ]
          try simp -implicitDefEqProofs (maxSteps := 4000000) (disch := first | omega | decide | (simp only [go_sem]; omega)) only [go_sem, ↓reduceIte]
          repeat (with_reducible refine And.intro (by first | assumption | omega | (simp; done) | (simp; omega)) ?_)
          refine bldG_of [.imm (.int .i64 (0 : Int)), .sl 0 true [], .sl 0 true []] (by kernel_rfl) ?_
          try simp -implicitDefEqProofs (maxSteps := 4000000) (disch := first | omega | decide | (simp only [go_sem]; omega)) only [go_sem, ↓reduceIte]
          repeat (with_reducible refine And.intro (by first | assumption | omega | (simp; done) | (simp; omega)) ?_)
          refine toEnd hC ?_
          refine endX_seq ?_
          refine runX_ret ?_
          refine endX_seqR ?_
          refine endX_q (meetQ_ret ?_)
          refine endX_seqR ?_
          refine endX_q ?_
          obtain rfl := Option.some.inj h
          show RetW _ _ _ _ _
          simp only [RetW]
          (try simp -implicitDefEqProofs (maxSteps := 4000000) (disch := first | omega | decide | (simp only [go_sem]; omega)) only [go_sem, ↓reduceIte])
          (try simp (disch := omega) only [if_pos, Nat.sub_zero])
          first | exact leT_refl _ | (refine ⟨rfl, ?_⟩; first | exact leT_refl _ | exact leT_sl | exact leT_sln | exact leT_nil | (refine leT_tup (by repeat (first | exact leL_refl _ | refine leL_cons (by first | exact leT_refl _ | exact leT_virt | exact leT_junk _ | exact leT_sl | exact leT_sln | exact leT_nil | (refine leT_agg (by repeat (first | exact leL_refl _ | refine leL_cons (by first | exact leT_refl _ | exact leT_sl | exact leT_sln | exact leT_nil) ?_)))) ?_))) | (refine leT_agg (by repeat (first | exact leL_refl _ | refine leL_cons (by first | exact leT_refl _ | exact leT_virt | exact leT_junk _ | exact leT_sl | exact leT_sln | exact leT_nil | (refine leT_agg (by repeat (first | exact leL_refl _ | refine leL_cons (by first | exact leT_refl _ | exact leT_sl | exact leT_sln | exact leT_nil) ?_)))) ?_)))) | (first | exact leT_refl _ | exact leT_sl | exact leT_sln | exact leT_nil | (refine leT_tup (by repeat (first | exact leL_refl _ | refine leL_cons (by first | exact leT_refl _ | exact leT_virt | exact leT_junk _ | exact leT_sl | exact leT_sln | exact leT_nil | (refine leT_agg (by repeat (first | exact leL_refl _ | refine leL_cons (by first | exact leT_refl _ | exact leT_sl | exact leT_sln | exact leT_nil) ?_)))) ?_))) | (refine leT_agg (by repeat (first | exact leL_refl _ | refine leL_cons (by first | exact leT_refl _ | exact leT_virt | exact leT_junk _ | exact leT_sl | exact leT_sln | exact leT_nil | (refine leT_agg (by repeat (first | exact leL_refl _ | refine leL_cons (by first | exact leT_refl _ | exact leT_sl | exact leT_sln | exact leT_nil) ?_)))) ?_)))) | (simp only [List.append_assoc, List.cons_append, List.nil_append]; exact leT_refl _) | (rw [List.take_of_length_le (by first | (simp; done) | (simp; omega))]; (try simp only [List.append_assoc, List.cons_append, List.nil_append]); exact leT_refl _) | ((try simp (disch := first | omega | (simp; done) | (simp; omega)) only [if_pos, Nat.sub_zero, List.take_of_length_le]); (try simp only [List.append_assoc, List.cons_append, List.nil_append]); first | exact leT_refl _ | exact ⟨rfl, leT_refl _⟩)
         ·refine runX_condF rfl c12 ?_
          refine runX_skip ?_
          refine endX_seq ?_
          refine runX_seq ?_
          refine runX_add 5 1 ?_
          try simp only [List.cons_append, List.nil_append]
          refine runX_regionC fun C hC => ?_
          obtain ⟨g13, h⟩ := grd_some h
          obtain ⟨v14, h14, h⟩ := bnd_some h
          try simp -implicitDefEqProofs (maxSteps := 4000000) (disch := first | omega | decide | (simp only [go_sem]; omega)) only [go_sem, ↓reduceIte]
          repeat (with_reducible refine And.intro (by first | assumption | omega | (simp; done) | (simp; omega)) ?_)
          refine callR_X [4] (F24_ok n ((a0.take (IntKind.wrap .i64 ((IntKind.wrap .i64 (v1 + (4 : Int))) + v7.2.1)).toNat).drop (IntKind.wrap .i64 (v1 + (4 : Int))).toNat) _ h14) (by decide) (by (try simp -implicitDefEqProofs (maxSteps := 4000000) (disch := first | omega | decide | (simp only [go_sem]; omega)) only [go_sem, ↓reduceIte]); repeat (first | exact trivial | refine And.intro ?_ ?_ | exact fun _ => trivial | exact fun _ _ => trivial | exact fun _ _ h => h | rfl | decide)) (by (try simp -implicitDefEqProofs (maxSteps := 4000000) (disch := first | omega | decide | (simp only [go_sem]; omega)) only [go_sem, ↓reduceIte]); repeat (first | exact leL_refl _ | refine leL_cons (by first | exact leT_refl _ | exact leT_virt | exact leT_junk _ | exact leT_sl | exact leT_sln | exact leT_nil | (refine leT_agg (by repeat (first | exact leL_refl _ | refine leL_cons (by first | exact leT_refl _ | exact leT_sl | exact leT_sln | exact leT_nil) ?_)))) ?_)) ?_
          try simp -implicitDefEqProofs (maxSteps := 4000000) (disch := first | omega | decide | (simp only [go_sem]; omega)) only [go_sem, ↓reduceIte]
          repeat (with_reducible refine And.intro (by first | assumption | omega | (simp; done) | (simp; omega)) ?_)
          refine toEnd hC ?_
          refine endX_seq ?_
          refine runX_regionC fun C hC => ?_
          try simp -implicitDefEqProofs (maxSteps := 4000000) (disch := first | omega | decide | (simp only [go_sem]; omega)) only [go_sem, ↓reduceIte]
          repeat (with_reducible refine And.intro (by first | assumption | omega | (simp; done) | (simp; omega)) ?_)
          refine toEnd hC ?_
          refine endX_q (meetQ_normal ⟨F11_S1 a0 a1 v7 (IntKind.wrap .i64 ((IntKind.wrap .i64 (v1 + (4 : Int))) + v7.2.1)) v14, ?_, (IntKind.wrap .i64 ((IntKind.wrap .i64 (v1 + (4 : Int))) + v7.2.1)), v14, rfl, h⟩)
          simp only [F11_S1]
          (try simp -implicitDefEqProofs (maxSteps := 4000000) (disch := first | omega | decide | (simp only [go_sem]; omega)) only [go_sem, ↓reduceIte])
          first | exact leS_refl _ | (refine leS_le ?_ ?_ <;> first | exact leL_refl _ | exact leOs_refl _ | (simp only [List.append_assoc, List.cons_append, List.nil_append]; exact leOs_refl _) | (repeat (first | exact leL_refl _ | refine leL_cons (by first | exact leT_refl _ | exact leT_virt | exact leT_junk _ | exact leT_sl | exact leT_sln | exact leT_nil | (refine leT_agg (by repeat (first | exact leL_refl _ | refine leL_cons (by first | exact leT_refl _ | exact leT_sl | exact leT_sln | exact leT_nil) ?_)))) ?_)))
       ·clear h
        rintro S ⟨x15, x16, rfl, h⟩
        rw [F11_J1] at h
        simp only [F11_S1]
        refine runX_seq ?_
        refine runX_seq ?_
        refine runX_drawC mixed (by kernel_rfl) fun C hC => ?_
        obtain ⟨v17, h17, h⟩ := bnd_some h
        try simp -implicitDefEqProofs (maxSteps := 4000000) (disch := first | omega | decide | (simp only [go_sem]; omega)) only [go_sem, ↓reduceIte]
        repeat (with_reducible refine And.intro (by first | assumption | omega | (simp; done) | (simp; omega)) ?_)
        refine callD_X (F7_ok n (v7.1.1, v7.1.2.1, x16) a1 _ h17) (by repeat (first | exact leL_refl _ | refine leL_cons (by first | exact leT_refl _ | exact leT_virt | exact leT_junk _ | exact leT_sl | exact leT_sln | exact leT_nil | (refine leT_agg (by repeat (first | exact leL_refl _ | refine leL_cons (by first | exact leT_refl _ | exact leT_sl | exact leT_sln | exact leT_nil) ?_)))) ?_)) ?_
        obtain ⟨g18, h⟩ := grd_some h
        obtain ⟨v19, h19, h⟩ := bnd_some h
        try simp -implicitDefEqProofs (maxSteps := 4000000) (disch := first | omega | decide | (simp only [go_sem]; omega)) only [go_sem, ↓reduceIte]
        repeat (with_reducible refine And.intro (by first | assumption | omega | (simp; done) | (simp; omega)) ?_)
        refine callD_X (F25_ok n v17 (a0.take x15.toNat) _ h19) (by repeat (first | exact leL_refl _ | refine leL_cons (by first | exact leT_refl _ | exact leT_virt | exact leT_junk _ | exact leT_sl | exact leT_sln | exact leT_nil | (refine leT_agg (by repeat (first | exact leL_refl _ | refine leL_cons (by first | exact leT_refl _ | exact leT_sl | exact leT_sln | exact leT_nil) ?_)))) ?_)) ?_
        try simp -implicitDefEqProofs (maxSteps := 4000000) (disch := first | omega | decide | (simp only [go_sem]; omega)) only [go_sem, ↓reduceIte]
        repeat (with_reducible refine And.intro (by first | assumption | omega | (simp; done) | (simp; omega)) ?_)
        refine toEnd hC ?_
        refine endX_seq ?_
        rcases iteB_some h with ⟨c20, h⟩ | ⟨c20, h⟩
        ·refine runX_condT rfl c20 ?_
         refine runX_seq ?_
         refine runX_regionC fun C hC => ?_
         simp only [runK_region, runK_draw, liteL, liteL2, dstsL, gL, List.getD_cons_zero, List.getD_cons_succ]
         try simp -implicitDefEqProofs (maxSteps := 4000000) (disch := first | omega | decide | (simp only [go_sem]; omega)) only [go_sem, ↓reduceIte]
         repeat (with_reducible refine And.intro (by first | assumption | omega | (simp; done) | (simp; omega)) ?_)
         refine bldG_of [.imm (.int .i64 (0 : Int)), .sl 0 true [], .sl 0 true []] (by kernel_rfl) ?_
         try simp -implicitDefEqProofs (maxSteps := 4000000) (disch := first | omega | decide | (simp only [go_sem]; omega)) only [go_sem, ↓reduceIte]
         repeat (with_reducible refine And.intro (by first | assumption | omega | (simp; done) | (simp; omega)) ?_)
         refine toEnd hC ?_
         refine endX_seq ?_
         refine runX_ret ?_
         refine endX_seqR ?_
         refine endX_q ?_
         obtain rfl := Option.some.inj h
         show RetW _ _ _ _ _
         simp only [RetW]
         (try simp -implicitDefEqProofs (maxSteps := 4000000) (disch := first | omega | decide | (simp only [go_sem]; omega)) only [go_sem, ↓reduceIte])
         (try simp (disch := omega) only [if_pos, Nat.sub_zero])
         first | exact leT_refl _ | (refine ⟨rfl, ?_⟩; first | exact leT_refl _ | exact leT_sl | exact leT_sln | exact leT_nil | (refine leT_tup (by repeat (first | exact leL_refl _ | refine leL_cons (by first | exact leT_refl _ | exact leT_virt | exact leT_junk _ | exact leT_sl | exact leT_sln | exact leT_nil | (refine leT_agg (by repeat (first | exact leL_refl _ | refine leL_cons (by first | exact leT_refl _ | exact leT_sl | exact leT_sln | exact leT_nil) ?_)))) ?_))) | (refine leT_agg (by repeat (first | exact leL_refl _ | refine leL_cons (by first | exact leT_refl _ | exact leT_virt | exact leT_junk _ | exact leT_sl | exact leT_sln | exact leT_nil | (refine leT_agg (by repeat (first | exact leL_refl _ | refine leL_cons (by first | exact leT_refl _ | exact leT_sl | exact leT_sln | exact leT_nil) ?_)))) ?_)))) | (first | exact leT_refl _ | exact leT_sl | exact leT_sln | exact leT_nil | (refine leT_tup (by repeat (first | exact leL_refl _ | refine leL_cons (by first | exact leT_refl _ | exact leT_virt | exact leT_junk _ | exact leT_sl | exact leT_sln | exact leT_nil | (refine leT_agg (by repeat (first | exact leL_refl _ | refine leL_cons (by first | exact leT_refl _ | exact leT_sl | exact leT_sln | exact leT_nil) ?_)))) ?_))) | (refine leT_agg (by repeat (first | exact leL_refl _ | refine leL_cons (by first | exact leT_refl _ | exact leT_virt | exact leT_junk _ | exact leT_sl | exact leT_sln | exact leT_nil | (refine leT_agg (by repeat (first | exact leL_refl _ | refine leL_cons (by first | exact leT_refl _ | exact leT_sl | exact leT_sln | exact leT_nil) ?_)))) ?_)))) | (simp only [List.append_assoc, List.cons_append, List.nil_append]; exact leT_refl _) | (rw [List.take_of_length_le (by first | (simp; done) | (simp; omega))]; (try simp only [List.append_assoc, List.cons_append, List.nil_append]); exact leT_refl _) | ((try simp (disch := first | omega | (simp; done) | (simp; omega)) only [if_pos, Nat.sub_zero, List.take_of_length_le]); (try simp only [List.append_assoc, List.cons_append, List.nil_append]); first | exact leT_refl _ | exact ⟨rfl, leT_refl _⟩)
        ·refine runX_condF rfl c20 ?_
         refine runX_skip ?_
         refine endX_seq ?_
         refine runX_seq ?_
         refine runX_seq ?_
         refine runX_regionC fun C hC => ?_
         try simp -implicitDefEqProofs (maxSteps := 4000000) (disch := first | omega | decide | (simp only [go_sem]; omega)) only [go_sem, ↓reduceIte]
         repeat (with_reducible refine And.intro (by first | assumption | omega | (simp; done) | (simp; omega)) ?_)
         refine toEnd hC ?_
         refine endX_seq ?_
         rcases iteB_some h with ⟨c21, h⟩ | ⟨c21, h⟩
         ·refine runX_condT rfl c21 ?_
          refine runX_regionC fun C hC => ?_
          try simp -implicitDefEqProofs (maxSteps := 4000000) (disch := first | omega | decide | (simp only [go_sem]; omega)) only [go_sem, ↓reduceIte]
          repeat (with_reducible refine And.intro (by first | assumption | omega | (simp; done) | (simp; omega)) ?_)
          refine toEnd hC ?_
          refine endX_seq ?_
          refine runX_seq ?_
          refine runX_regionC fun C hC => ?_
          try simp -implicitDefEqProofs (maxSteps := 4000000) (disch := first | omega | decide | (simp only [go_sem]; omega)) only [go_sem, ↓reduceIte]
          repeat (with_reducible refine And.intro (by first | assumption | omega | (simp; done) | (simp; omega)) ?_)
          refine toEnd hC ?_
          refine endX_seq ?_
          refine runX_ret ?_
          refine endX_q ?_
          obtain rfl := Option.some.inj h
          show RetW _ _ _ _ _
          simp only [RetW]
          (try simp -implicitDefEqProofs (maxSteps := 4000000) (disch := first | omega | decide | (simp only [go_sem]; omega)) only [go_sem, ↓reduceIte])
          (try simp (disch := omega) only [if_pos, Nat.sub_zero])
          first | exact leT_refl _ | (refine ⟨rfl, ?_⟩; first | exact leT_refl _ | exact leT_sl | exact leT_sln | exact leT_nil | (refine leT_tup (by repeat (first | exact leL_refl _ | refine leL_cons (by first | exact leT_refl _ | exact leT_virt | exact leT_junk _ | exact leT_sl | exact leT_sln | exact leT_nil | (refine leT_agg (by repeat (first | exact leL_refl _ | refine leL_cons (by first | exact leT_refl _ | exact leT_sl | exact leT_sln | exact leT_nil) ?_)))) ?_))) | (refine leT_agg (by repeat (first | exact leL_refl _ | refine leL_cons (by first | exact leT_refl _ | exact leT_virt | exact leT_junk _ | exact leT_sl | exact leT_sln | exact leT_nil | (refine leT_agg (by repeat (first | exact leL_refl _ | refine leL_cons (by first | exact leT_refl _ | exact leT_sl | exact leT_sln | exact leT_nil) ?_)))) ?_)))) | (first | exact leT_refl _ | exact leT_sl | exact leT_sln | exact leT_nil | (refine leT_tup (by repeat (first | exact leL_refl _ | refine leL_cons (by first | exact leT_refl _ | exact leT_virt | exact leT_junk _ | exact leT_sl | exact leT_sln | exact leT_nil | (refine leT_agg (by repeat (first | exact leL_refl _ | refine leL_cons (by first | exact leT_refl _ | exact leT_sl | exact leT_sln | exact leT_nil) ?_)))) ?_))) | (refine leT_agg (by repeat (first | exact leL_refl _ | refine leL_cons (by first | exact leT_refl _ | exact leT_virt | exact leT_junk _ | exact leT_sl | exact leT_sln | exact leT_nil | (refine leT_agg (by repeat (first | exact leL_refl _ | refine leL_cons (by first | exact leT_refl _ | exact leT_sl | exact leT_sln | exact leT_nil) ?_)))) ?_)))) | (simp only [List.append_assoc, List.cons_append, List.nil_append]; exact leT_refl _) | (rw [List.take_of_length_le (by first | (simp; done) | (simp; omega))]; (try simp only [List.append_assoc, List.cons_append, List.nil_append]); exact leT_refl _) | ((try simp (disch := first | omega | (simp; done) | (simp; omega)) only [if_pos, Nat.sub_zero, List.take_of_length_le]); (try simp only [List.append_assoc, List.cons_append, List.nil_append]); first | exact leT_refl _ | exact ⟨rfl, leT_refl _⟩)
         ·refine runX_condF rfl c21 ?_
          refine runX_skip ?_
          refine endX_seq ?_
          refine runX_seq ?_
          refine runX_regionC fun C hC => ?_
          try simp -implicitDefEqProofs (maxSteps := 4000000) (disch := first | omega | decide | (simp only [go_sem]; omega)) only [go_sem, ↓reduceIte]
          repeat (with_reducible refine And.intro (by first | assumption | omega | (simp; done) | (simp; omega)) ?_)
          refine toEnd hC ?_
          refine endX_seq ?_
          refine runX_ret ?_
          refine endX_q ?_
          obtain rfl := Option.some.inj h
          show RetW _ _ _ _ _
          simp only [RetW]
          (try simp -implicitDefEqProofs (maxSteps := 4000000) (disch := first | omega | decide | (simp only [go_sem]; omega)) only [go_sem, ↓reduceIte])
          (try simp (disch := omega) only [if_pos, Nat.sub_zero])
          first | exact leT_refl _ | (refine ⟨rfl, ?_⟩; first | exact leT_refl _ | exact leT_sl | exact leT_sln | exact leT_nil | (refine leT_tup (by repeat (first | exact leL_refl _ | refine leL_cons (by first | exact leT_refl _ | exact leT_virt | exact leT_junk _ | exact leT_sl | exact leT_sln | exact leT_nil | (refine leT_agg (by repeat (first | exact leL_refl _ | refine leL_cons (by first | exact leT_refl _ | exact leT_sl | exact leT_sln | exact leT_nil) ?_)))) ?_))) | (refine leT_agg (by repeat (first | exact leL_refl _ | refine leL_cons (by first | exact leT_refl _ | exact leT_virt | exact leT_junk _ | exact leT_sl | exact leT_sln | exact leT_nil | (refine leT_agg (by repeat (first | exact leL_refl _ | refine leL_cons (by first | exact leT_refl _ | exact leT_sl | exact leT_sln | exact leT_nil) ?_)))) ?_)))) | (first | exact leT_refl _ | exact leT_sl | exact leT_sln | exact leT_nil | (refine leT_tup (by repeat (first | exact leL_refl _ | refine leL_cons (by first | exact leT_refl _ | exact leT_virt | exact leT_junk _ | exact leT_sl | exact leT_sln | exact leT_nil | (refine leT_agg (by repeat (first | exact leL_refl _ | refine leL_cons (by first | exact leT_refl _ | exact leT_sl | exact leT_sln | exact leT_nil) ?_)))) ?_))) | (refine leT_agg (by repeat (first | exact leL_refl _ | refine leL_cons (by first | exact leT_refl _ | exact leT_virt | exact leT_junk _ | exact leT_sl | exact leT_sln | exact leT_nil | (refine leT_agg (by repeat (first | exact leL_refl _ | refine leL_cons (by first | exact leT_refl _ | exact leT_sl | exact leT_sln | exact leT_nil) ?_)))) ?_)))) | (simp only [List.append_assoc, List.cons_append, List.nil_append]; exact leT_refl _) | (rw [List.take_of_length_le (by first | (simp; done) | (simp; omega))]; (try simp only [List.append_assoc, List.cons_append, List.nil_append]); exact leT_refl _) | ((try simp (disch := first | omega | (simp; done) | (simp; omega)) only [if_pos, Nat.sub_zero, List.take_of_length_le]); (try simp only [List.append_assoc, List.cons_append, List.nil_append]); first | exact leT_refl _ | exact ⟨rfl, leT_refl _⟩)
   ·refine guardK_F c3 ?_
    try simp -implicitDefEqProofs (maxSteps := 4000000) (disch := first | omega | decide | (simp only [go_sem]; omega)) only [go_sem, ↓reduceIte]
    repeat (with_reducible refine And.intro (by first | assumption | omega | (simp; done) | (simp; omega)) ?_)
    refine toEnd hC ?_
    refine endX_seq ?_
    refine runX_condF rfl rfl ?_
    refine runX_skip ?_
    refine endX_seq ?_
    refine runX_seq ?_
    refine runX_seq ?_
    refine runX_regionC fun C hC => ?_
    try simp -implicitDefEqProofs (maxSteps := 4000000) (disch := first | omega | decide | (simp only [go_sem]; omega)) only [go_sem, ↓reduceIte]
    repeat (with_reducible refine And.intro (by first | assumption | omega | (simp; done) | (simp; omega)) ?_)
    refine toEnd hC ?_
    refine endX_seq ?_
    rcases iteB_some h with ⟨c22, h⟩ | ⟨c22, h⟩
    ·refine runX_condT rfl c22 ?_
     refine runX_seq ?_
     refine runX_regionC fun C hC => ?_
     simp only [runK_region, runK_draw, liteL, liteL2, dstsL, gL, List.getD_cons_zero, List.getD_cons_succ]
     try simp -implicitDefEqProofs (maxSteps := 4000000) (disch := first | omega | decide | (simp only [go_sem]; omega)) only [go_sem, ↓reduceIte]
     repeat (with_reducible refine And.intro (by first | assumption | omega | (simp; done) | (simp; omega)) ?_)
     refine bldG_of [.imm (.int .i64 (0 : Int)), .sl 0 true [], .sl 0 true []] (by kernel_rfl) ?_
     try simp -implicitDefEqProofs (maxSteps := 4000000) (disch := first | omega | decide | (simp only [go_sem]; omega)) only [go_sem, ↓reduceIte]
     repeat (with_reducible refine And.intro (by first | assumption | omega | (simp; done) | (simp; omega)) ?_)
     refine toEnd hC ?_
     refine endX_seq ?_
     refine runX_ret ?_
     refine endX_seqR ?_
     refine endX_q ?_
     obtain rfl := Option.some.inj h
     show RetW _ _ _ _ _
     simp only [RetW]
     (try simp -implicitDefEqProofs (maxSteps := 4000000) (disch := first | omega | decide | (simp only [go_sem]; omega)) only [go_sem, ↓reduceIte])
     (try simp (disch := omega) only [if_pos, Nat.sub_zero])
     first | exact leT_refl _ | (refine ⟨rfl, ?_⟩; first | exact leT_refl _ | exact leT_sl | exact leT_sln | exact leT_nil | (refine leT_tup (by repeat (first | exact leL_refl _ | refine leL_cons (by first | exact leT_refl _ | exact leT_virt | exact leT_junk _ | exact leT_sl | exact leT_sln | exact leT_nil | (refine leT_agg (by repeat (first | exact leL_refl _ | refine leL_cons (by first | exact leT_refl _ | exact leT_sl | exact leT_sln | exact leT_nil) ?_)))) ?_))) | (refine leT_agg (by repeat (first | exact leL_refl _ | refine leL_cons (by first | exact leT_refl _ | exact leT_virt | exact leT_junk _ | exact leT_sl | exact leT_sln | exact leT_nil | (refine leT_agg (by repeat (first | exact leL_refl _ | refine leL_cons (by first | exact leT_refl _ | exact leT_sl | exact leT_sln | exact leT_nil) ?_)))) ?_)))) | (first | exact leT_refl _ | exact leT_sl | exact leT_sln | exact leT_nil | (refine leT_tup (by repeat (first | exact leL_refl _ | refine leL_cons (by first | exact leT_refl _ | exact leT_virt | exact leT_junk _ | exact leT_sl | exact leT_sln | exact leT_nil | (refine leT_agg (by repeat (first | exact leL_refl _ | refine leL_cons (by first | exact leT_refl _ | exact leT_sl | exact leT_sln | exact leT_nil) ?_)))) ?_))) | (refine leT_agg (by repeat (first | exact leL_refl _ | refine leL_cons (by first | exact leT_refl _ | exact leT_virt | exact leT_junk _ | exact leT_sl | exact leT_sln | exact leT_nil | (refine leT_agg (by repeat (first | exact leL_refl _ | refine leL_cons (by first | exact leT_refl _ | exact leT_sl | exact leT_sln | exact leT_nil) ?_)))) ?_)))) | (simp only [List.append_assoc, List.cons_append, List.nil_append]; exact leT_refl _) | (rw [List.take_of_length_le (by first | (simp; done) | (simp; omega))]; (try simp only [List.append_assoc, List.cons_append, List.nil_append]); exact leT_refl _) | ((try simp (disch := first | omega | (simp; done) | (simp; omega)) only [if_pos, Nat.sub_zero, List.take_of_length_le]); (try simp only [List.append_assoc, List.cons_append, List.nil_append]); first | exact leT_refl _ | exact ⟨rfl, leT_refl _⟩)
    ·refine runX_condF rfl c22 ?_
     refine runX_skip ?_
     refine endX_seq ?_
     refine runX_seq ?_
     refine runX_regionC fun C hC => ?_
     obtain ⟨g23, h⟩ := grd_some h
     obtain ⟨v24, h24, h⟩ := bnd_some h
     try simp -implicitDefEqProofs (maxSteps := 4000000) (disch := first | omega | decide | (simp only [go_sem]; omega)) only [go_sem, ↓reduceIte]
     repeat (with_reducible refine And.intro (by first | assumption | omega | (simp; done) | (simp; omega)) ?_)
     refine callG_X (by first | rfl | (simp only [go_sem]; done) | (simp only [closedL, closedT, Bool.and_true]; exact closedL_map _ (fun _ => by first | rfl | (simp only [go_sem]; done)) _)) (F23_ok n ((a0.take v1.toNat).map toB) _ h24) (by repeat (first | exact leL_refl _ | refine leL_cons (by first | exact leT_refl _ | exact leT_virt | exact leT_junk _ | exact leT_sl | exact leT_sln | exact leT_nil | (refine leT_agg (by repeat (first | exact leL_refl _ | refine leL_cons (by first | exact leT_refl _ | exact leT_sl | exact leT_sln | exact leT_nil) ?_)))) ?_)) ?_
     try simp -implicitDefEqProofs (maxSteps := 4000000) (disch := first | omega | decide | (simp only [go_sem]; omega)) only [go_sem, ↓reduceIte]
     repeat (with_reducible refine And.intro (by first | assumption | omega | (simp; done) | (simp; omega)) ?_)
     refine toEnd hC ?_
     refine endX_seq ?_
     refine runX_seq ?_
     refine runX_seq ?_
     refine runX_regionC fun C hC => ?_
     try simp -implicitDefEqProofs (maxSteps := 4000000) (disch := first | omega | decide | (simp only [go_sem]; omega)) only [go_sem, ↓reduceIte]
     repeat (with_reducible refine And.intro (by first | assumption | omega | (simp; done) | (simp; omega)) ?_)
     refine toEnd hC ?_
     refine endX_seq ?_
     rcases iteB_some h with ⟨c25, h⟩ | ⟨c25, h⟩
     ·refine runX_condT rfl c25 ?_
      refine runX_seq ?_
      refine runX_regionC fun C hC => ?_
      simp only [runK_region, runK_draw, liteL, liteL2, dstsL, gL, List.getD_cons_zero, List.getD_cons_succ]
      try simp -implicitDefEqProofs (maxSteps := 4000000) (disch := first | omega | decide | (simp only [go_sem]; omega)) only [go_sem, ↓reduceIte]
      repeat (with_reducible refine And.intro (by first | assumption | omega | (simp; done) | (simp; omega)) ?_)
      refine bldG_of [.imm (.int .i64 (0 : Int)), .sl 0 true [], .sl 0 true []] (by kernel_rfl) ?_
      try simp -implicitDefEqProofs (maxSteps := 4000000) (disch := first | omega | decide | (simp only [go_sem]; omega)) only [go_sem, ↓reduceIte]
      repeat (with_reducible refine And.intro (by first | assumption | omega | (simp; done) | (simp; omega)) ?_)
      refine toEnd hC ?_
      refine endX_seq ?_
      refine runX_ret ?_
      refine endX_seqR ?_
      refine endX_q ?_
      obtain rfl := Option.some.inj h
      show RetW _ _ _ _ _
      simp only [RetW]
      (try simp -implicitDefEqProofs (maxSteps := 4000000) (disch := first | omega | decide | (simp only [go_sem]; omega)) only [go_sem, ↓reduceIte])
      (try simp (disch := omega) only [if_pos, Nat.sub_zero])
      first | exact leT_refl _ | (refine ⟨rfl, ?_⟩; first | exact leT_refl _ | exact leT_sl | exact leT_sln | exact leT_nil | (refine leT_tup (by repeat (first | exact leL_refl _ | refine leL_cons (by first | exact leT_refl _ | exact leT_virt | exact leT_junk _ | exact leT_sl | exact leT_sln | exact leT_nil | (refine leT_agg (by repeat (first | exact leL_refl _ | refine leL_cons (by first | exact leT_refl _ | exact leT_sl | exact leT_sln | exact leT_nil) ?_)))) ?_))) | (refine leT_agg (by repeat (first | exact leL_refl _ | refine leL_cons (by first | exact leT_refl _ | exact leT_virt | exact leT_junk _ | exact leT_sl | exact leT_sln | exact leT_nil | (refine leT_agg (by repeat (first | exact leL_refl _ | refine leL_cons (by first | exact leT_refl _ | exact leT_sl | exact leT_sln | exact leT_nil) ?_)))) ?_)))) | (first | exact leT_refl _ | exact leT_sl | exact leT_sln | exact leT_nil | (refine leT_tup (by repeat (first | exact leL_refl _ | refine leL_cons (by first | exact leT_refl _ | exact leT_virt | exact leT_junk _ | exact leT_sl | exact leT_sln | exact leT_nil | (refine leT_agg (by repeat (first | exact leL_refl _ | refine leL_cons (by first | exact leT_refl _ | exact leT_sl | exact leT_sln | exact leT_nil) ?_)))) ?_))) | (refine leT_agg (by repeat (first | exact leL_refl _ | refine leL_cons (by first | exact leT_refl _ | exact leT_virt | exact leT_junk _ | exact leT_sl | exact leT_sln | exact leT_nil | (refine leT_agg (by repeat (first | exact leL_refl _ | refine leL_cons (by first | exact leT_refl _ | exact leT_sl | exact leT_sln | exact leT_nil) ?_)))) ?_)))) | (simp only [List.append_assoc, List.cons_append, List.nil_append]; exact leT_refl _) | (rw [List.take_of_length_le (by first | (simp; done) | (simp; omega))]; (try simp only [List.append_assoc, List.cons_append, List.nil_append]); exact leT_refl _) | ((try simp (disch := first | omega | (simp; done) | (simp; omega)) only [if_pos, Nat.sub_zero, List.take_of_length_le]); (try simp only [List.append_assoc, List.cons_append, List.nil_append]); first | exact leT_refl _ | exact ⟨rfl, leT_refl _⟩)
     ·refine runX_condF rfl c25 ?_
      refine runX_skip ?_
      refine endX_seq ?_
      refine runX_seq ?_
      refine runX_regionC fun C hC => ?_
      try simp -implicitDefEqProofs (maxSteps := 4000000) (disch := first | omega | decide | (simp only [go_sem]; omega)) only [go_sem, ↓reduceIte]
      repeat (with_reducible refine And.intro (by first | assumption | omega | (simp; done) | (simp; omega)) ?_)
      refine toEnd hC ?_
      refine endX_seq ?_
      refine runX_seq ?_
      refine runX_regionC fun C hC => ?_
      try simp -implicitDefEqProofs (maxSteps := 4000000) (disch := first | omega | decide | (simp only [go_sem]; omega)) only [go_sem, ↓reduceIte]
      repeat (with_reducible refine And.intro (by first | assumption | omega | (simp; done) | (simp; omega)) ?_)
      refine toEnd hC ?_
      refine endX_seq ?_
      refine runX_seq ?_
      refine runX_regionC fun C hC => ?_
      try simp -implicitDefEqProofs (maxSteps := 4000000) (disch := first | omega | decide | (simp only [go_sem]; omega)) only [go_sem, ↓reduceIte]
      repeat (with_reducible refine And.intro (by first | assumption | omega | (simp; done) | (simp; omega)) ?_)
      refine toEnd hC ?_
      refine endX_seq ?_
      refine runX_meet [0, 1, 4, 11, 12] (fun S => ∃ (x32 : Int) (x33 : List (Int)), S = F11_S2 a0 a1 v24 x32 x33 ∧ F11_J2 n a0 a1 v24 x32 x33 = some r) ?_ ?_
      ·refine runX_seq ?_
       refine runX_regionC fun C hC => ?_
       try simp -implicitDefEqProofs (maxSteps := 4000000) (disch := first | omega | decide | (simp only [go_sem]; omega)) only [go_sem, ↓reduceIte]
       repeat (with_reducible refine And.intro (by first | assumption | omega | (simp; done) | (simp; omega)) ?_)
       refine toEnd hC ?_
       refine endX_seq ?_
       rcases iteB_some h with ⟨c26, h⟩ | ⟨c26, h⟩
       ·refine runX_condT rfl c26 ?_
        refine runX_seq ?_
        refine runX_regionC fun C hC => ?_
        try simp -implicitDefEqProofs (maxSteps := 4000000) (disch := first | omega | decide | (simp only [go_sem]; omega)) only [go_sem, ↓reduceIte]
        repeat (with_reducible refine And.intro (by first | assumption | omega | (simp; done) | (simp; omega)) ?_)
        refine toEnd hC ?_
        refine endX_seq ?_
        refine runX_regionC fun C hC => ?_
        obtain ⟨g27, h⟩ := grd_some h
        have e28 : List.replicate (if (65536 : Int) < v24.2.1 then (65536 : Int) else v24.2.1).toNat (T.imm (.int .u8 (0 : Int))) = List.map byteT (List.replicate (if (65536 : Int) < v24.2.1 then (65536 : Int) else v24.2.1).toNat (0 : Int)) := rep_u8 (if (65536 : Int) < v24.2.1 then (65536 : Int) else v24.2.1).toNat (0 : Int)
        try simp -implicitDefEqProofs (maxSteps := 4000000) (disch := first | omega | decide | (simp only [go_sem]; omega)) only [go_sem, ↓reduceIte, e28]
        repeat (with_reducible refine And.intro (by first | assumption | omega | (simp; done) | (simp; omega)) ?_)
        refine toEnd hC ?_
        refine endX_q (meetQ_normal ⟨F11_S2 a0 a1 v24 (IntKind.wrap .i64 (v1 + (4 : Int))) (List.replicate (if (65536 : Int) < v24.2.1 then (65536 : Int) else v24.2.1).toNat (0 : Int)), ?_, (IntKind.wrap .i64 (v1 + (4 : Int))), (List.replicate (if (65536 : Int) < v24.2.1 then (65536 : Int) else v24.2.1).toNat (0 : Int)), rfl, h⟩)
        simp only [F11_S2]
        (try simp -implicitDefEqProofs (maxSteps := 4000000) (disch := first | omega | decide | (simp only [go_sem]; omega)) only [go_sem, ↓reduceIte])
        first | exact leS_refl _ | (refine leS_le ?_ ?_ <;> first | exact leL_refl _ | exact leOs_refl _ | (simp only [List.append_assoc, List.cons_append, List.nil_append]; exact leOs_refl _) | (repeat (first | exact leL_refl _ | refine leL_cons (by first | exact leT_refl _ | exact leT_virt | exact leT_junk _ | exact leT_sl | exact leT_sln | exact leT_nil | (refine leT_agg (by repeat (first | exact leL_refl _ | refine leL_cons (by first | exact leT_refl _ | exact leT_sl | exact leT_sln | exact leT_nil) ?_)))) ?_)))
       ·refine runX_condF rfl c26 ?_
        refine runX_seq ?_
        refine runX_seq ?_
        refine runX_regionC fun C hC => ?_
        try simp -implicitDefEqProofs (maxSteps := 4000000) (disch := first | omega | decide | (simp only [go_sem]; omega)) only [go_sem, ↓reduceIte]
        repeat (with_reducible refine And.intro (by first | assumption | omega | (simp; done) | (simp; omega)) ?_)
        refine toEnd hC ?_
        refine endX_seq ?_
        rcases iteB_some h with ⟨c29, h⟩ | ⟨c29, h⟩
        ·refine runX_condT rfl c29 ?_
         refine runX_seq ?_
         refine runX_regionC fun C hC => ?_
         simp only [runK_region, runK_draw, liteL, liteL2, dstsL, gL, List.getD_cons_zero, List.getD_cons_succ]
         try simp -implicitDefEqProofs (maxSteps := 4000000) (disch := first | omega | decide | (simp only [go_sem]; omega)) only [go_sem, ↓reduceIte]
         repeat (with_reducible refine And.intro (by first | assumption | omega | (simp; done) | (simp; omega)) ?_)
         refine bldG_of [.imm (.int .i64 (0 : Int)), .sl 0 true [], .sl 0 true []] (by kernel_rfl) ?_
         try simp -implicitDefEqProofs (maxSteps := 4000000) (disch := first | omega | decide | (simp only [go_sem]; omega)) only [go_sem, ↓reduceIte]
         repeat (with_reducible refine And.intro (by first | assumption | omega | (simp; done) | (simp; omega)) ?_)
         refine toEnd hC ?_
         refine endX_seq ?_
         refine runX_ret ?_
         refine endX_seqR ?_
         refine endX_q (meetQ_ret ?_)
         refine endX_seqR ?_
         refine endX_q ?_
         obtain rfl := Option.some.inj h
         show RetW _ _ _ _ _
         simp only [RetW]
         (try simp -implicitDefEqProofs (maxSteps := 4000000) (disch := first | omega | decide | (simp only [go_sem]; omega)) only [go_sem, ↓reduceIte])
         (try simp (disch := omega) only [if_pos, Nat.sub_zero])
         first | exact leT_refl _ | (refine ⟨rfl, ?_⟩; first | exact leT_refl _ | exact leT_sl | exact leT_sln | exact leT_nil | (refine leT_tup (by repeat (first | exact leL_refl _ | refine leL_cons (by first | exact leT_refl _ | exact leT_virt | exact leT_junk _ | exact leT_sl | exact leT_sln | exact leT_nil | (refine leT_agg (by repeat (first | exact leL_refl _ | refine leL_cons (by first | exact leT_refl _ | exact leT_sl | exact leT_sln | exact leT_nil) ?_)))) ?_))) | (refine leT_agg (by repeat (first | exact leL_refl _ | refine leL_cons (by first | exact leT_refl _ | exact leT_virt | exact leT_junk _ | exact leT_sl | exact leT_sln | exact leT_nil | (refine leT_agg (by repeat (first | exact leL_refl _ | refine leL_cons (by first | exact leT_refl _ | exact leT_sl | exact leT_sln | exact leT_nil) ?_)))) ?_)))) | (first | exact leT_refl _ | exact leT_sl | exact leT_sln | exact leT_nil | (refine leT_tup (by repeat (first | exact leL_refl _ | refine leL_cons (by first | exact leT_refl _ | exact leT_virt | exact leT_junk _ | exact leT_sl | exact leT_sln | exact leT_nil | (refine leT_agg (by repeat (first | exact leL_refl _ | refine leL_cons (by first | exact leT_refl _ | exact leT_sl | exact leT_sln | exact leT_nil) ?_)))) ?_))) | (refine leT_agg (by repeat (first | exact leL_refl _ | refine leL_cons (by first | exact leT_refl _ | exact leT_virt | exact leT_junk _ | exact leT_sl | exact leT_sln | exact leT_nil | (refine leT_agg (by repeat (first | exact leL_refl _ | refine leL_cons (by first | exact leT_refl _ | exact leT_sl | exact leT_sln | exact leT_nil) ?_)))) ?_)))) | (simp only [List.append_assoc, List.cons_append, List.nil_append]; exact leT_refl _) | (rw [List.take_of_length_le (by first | (simp; done) | (simp; omega))]; (try simp only [List.append_assoc, List.cons_append, List.nil_append]); exact leT_refl _) | ((try simp (disch := first | omega | (simp; done) | (simp; omega)) only [if_pos, Nat.sub_zero, List.take_of_length_le]); (try simp only [List.append_assoc, List.cons_append, List.nil_append]); first | exact leT_refl _ | exact ⟨rfl, leT_refl _⟩)
        ·refine runX_condF rfl c29 ?_
         refine runX_skip ?_
         refine endX_seq ?_
         refine runX_seq ?_
         refine runX_add 5 1 ?_
         try simp only [List.cons_append, List.nil_append]
         refine runX_regionC fun C hC => ?_
         obtain ⟨g30, h⟩ := grd_some h
         obtain ⟨v31, h31, h⟩ := bnd_some h
         try simp -implicitDefEqProofs (maxSteps := 4000000) (disch := first | omega | decide | (simp only [go_sem]; omega)) only [go_sem, ↓reduceIte]
         repeat (with_reducible refine And.intro (by first | assumption | omega | (simp; done) | (simp; omega)) ?_)
         refine callR_X [4] (F24_ok n ((a0.take (IntKind.wrap .i64 ((IntKind.wrap .i64 (v1 + (4 : Int))) + v24.2.1)).toNat).drop (IntKind.wrap .i64 (v1 + (4 : Int))).toNat) _ h31) (by decide) (by (try simp -implicitDefEqProofs (maxSteps := 4000000) (disch := first | omega | decide | (simp only [go_sem]; omega)) only [go_sem, ↓reduceIte]); repeat (first | exact trivial | refine And.intro ?_ ?_ | exact fun _ => trivial | exact fun _ _ => trivial | exact fun _ _ h => h | rfl | decide)) (by (try simp -implicitDefEqProofs (maxSteps := 4000000) (disch := first | omega | decide | (simp only [go_sem]; omega)) only [go_sem, ↓reduceIte]); repeat (first | exact leL_refl _ | refine leL_cons (by first | exact leT_refl _ | exact leT_virt | exact leT_junk _ | exact leT_sl | exact leT_sln | exact leT_nil | (refine leT_agg (by repeat (first | exact leL_refl _ | refine leL_cons (by first | exact leT_refl _ | exact leT_sl | exact leT_sln | exact leT_nil) ?_)))) ?_)) ?_
         try simp -implicitDefEqProofs (maxSteps := 4000000) (disch := first | omega | decide | (simp only [go_sem]; omega)) only [go_sem, ↓reduceIte]
         repeat (with_reducible refine And.intro (by first | assumption | omega | (simp; done) | (simp; omega)) ?_)
         refine toEnd hC ?_
         refine endX_seq ?_
         refine runX_regionC fun C hC => ?_
         try simp -implicitDefEqProofs (maxSteps := 4000000) (disch := first | omega | decide | (simp only [go_sem]; omega)) only [go_sem, ↓reduceIte]
         repeat (with_reducible refine And.intro (by first | assumption | omega | (simp; done) | (simp; omega)) ?_)
         refine toEnd hC ?_
         refine endX_q (meetQ_normal ⟨F11_S2 a0 a1 v24 (IntKind.wrap .i64 ((IntKind.wrap .i64 (v1 + (4 : Int))) + v24.2.1)) v31, ?_, (IntKind.wrap .i64 ((IntKind.wrap .i64 (v1 + (4 : Int))) + v24.2.1)), v31, rfl, h⟩)
         simp only [F11_S2]
         (try simp -implicitDefEqProofs (maxSteps := 4000000) (disch := first | omega | decide | (simp only [go_sem]; omega)) only [go_sem, ↓reduceIte])
         first | exact leS_refl _ | (refine leS_le ?_ ?_ <;> first | exact leL_refl _ | exact leOs_refl _ | (simp only [List.append_assoc, List.cons_append, List.nil_append]; exact leOs_refl _) | (repeat (first | exact leL_refl _ | refine leL_cons (by first | exact leT_refl _ | exact leT_virt | exact leT_junk _ | exact leT_sl | exact leT_sln | exact leT_nil | (refine leT_agg (by repeat (first | exact leL_refl _ | refine leL_cons (by first | exact leT_refl _ | exact leT_sl | exact leT_sln | exact leT_nil) ?_)))) ?_)))
      ·clear h
       rintro S ⟨x32, x33, rfl, h⟩
       rw [F11_J2] at h
       simp only [F11_S2]
       refine runX_seq ?_
       refine runX_seq ?_
       refine runX_drawC mixed (by kernel_rfl) fun C hC => ?_
       obtain ⟨v34, h34, h⟩ := bnd_some h
       try simp -implicitDefEqProofs (maxSteps := 4000000) (disch := first | omega | decide | (simp only [go_sem]; omega)) only [go_sem, ↓reduceIte]
       repeat (with_reducible refine And.intro (by first | assumption | omega | (simp; done) | (simp; omega)) ?_)
       refine callD_X (F7_ok n (v24.1.1, v24.1.2.1, x33) a1 _ h34) (by repeat (first | exact leL_refl _ | refine leL_cons (by first | exact leT_refl _ | exact leT_virt | exact leT_junk _ | exact leT_sl | exact leT_sln | exact leT_nil | (refine leT_agg (by repeat (first | exact leL_refl _ | refine leL_cons (by first | exact leT_refl _ | exact leT_sl | exact leT_sln | exact leT_nil) ?_)))) ?_)) ?_
       obtain ⟨g35, h⟩ := grd_some h
       obtain ⟨v36, h36, h⟩ := bnd_some h
       try simp -implicitDefEqProofs (maxSteps := 4000000) (disch := first | omega | decide | (simp only [go_sem]; omega)) only [go_sem, ↓reduceIte]
       repeat (with_reducible refine And.intro (by first | assumption | omega | (simp; done) | (simp; omega)) ?_)
       refine callD_X (F25_ok n v34 (a0.take x32.toNat) _ h36) (by repeat (first | exact leL_refl _ | refine leL_cons (by first | exact leT_refl _ | exact leT_virt | exact leT_junk _ | exact leT_sl | exact leT_sln | exact leT_nil | (refine leT_agg (by repeat (first | exact leL_refl _ | refine leL_cons (by first | exact leT_refl _ | exact leT_sl | exact leT_sln | exact leT_nil) ?_)))) ?_)) ?_
       try simp -implicitDefEqProofs (maxSteps := 4000000) (disch := first | omega | decide | (simp only [go_sem]; omega)) only [go_sem, ↓reduceIte]
       repeat (with_reducible refine And.intro (by first | assumption | omega | (simp; done) | (simp; omega)) ?_)
       refine toEnd hC ?_
       refine endX_seq ?_
       rcases iteB_some h with ⟨c37, h⟩ | ⟨c37, h⟩
       ·refine runX_condT rfl c37 ?_
        refine runX_seq ?_
        refine runX_regionC fun C hC => ?_
        simp only [runK_region, runK_draw, liteL, liteL2, dstsL, gL, List.getD_cons_zero, List.getD_cons_succ]
        try simp -implicitDefEqProofs (maxSteps := 4000000) (disch := first | omega | decide | (simp only [go_sem]; omega)) only [go_sem, ↓reduceIte]
        repeat (with_reducible refine And.intro (by first | assumption | omega | (simp; done) | (simp; omega)) ?_)
        refine bldG_of [.imm (.int .i64 (0 : Int)), .sl 0 true [], .sl 0 true []] (by kernel_rfl) ?_
        try simp -implicitDefEqProofs (maxSteps := 4000000) (disch := first | omega | decide | (simp only [go_sem]; omega)) only [go_sem, ↓reduceIte]
        repeat (with_reducible refine And.intro (by first | assumption | omega | (simp; done) | (simp; omega)) ?_)
        refine toEnd hC ?_
        refine endX_seq ?_
        refine runX_ret ?_
        refine endX_seqR ?_
        refine endX_q ?_
        obtain rfl := Option.some.inj h
        show RetW _ _ _ _ _
        simp only [RetW]
        (try simp -implicitDefEqProofs (maxSteps := 4000000) (disch := first | omega | decide | (simp only [go_sem]; omega)) only [go_sem, ↓reduceIte])
        (try simp (disch := omega) only [if_pos, Nat.sub_zero])
        first | exact leT_refl _ | (refine ⟨rfl, ?_⟩; first | exact leT_refl _ | exact leT_sl | exact leT_sln | exact leT_nil | (refine leT_tup (by repeat (first | exact leL_refl _ | refine leL_cons (by first | exact leT_refl _ | exact leT_virt | exact leT_junk _ | exact leT_sl | exact leT_sln | exact leT_nil | (refine leT_agg (by repeat (first | exact leL_refl _ | refine leL_cons (by first | exact leT_refl _ | exact leT_sl | exact leT_sln | exact leT_nil) ?_)))) ?_))) | (refine leT_agg (by repeat (first | exact leL_refl _ | refine leL_cons (by first | exact leT_refl _ | exact leT_virt | exact leT_junk _ | exact leT_sl | exact leT_sln | exact leT_nil | (refine leT_agg (by repeat (first | exact leL_refl _ | refine leL_cons (by first | exact leT_refl _ | exact leT_sl | exact leT_sln | exact leT_nil) ?_)))) ?_)))) | (first | exact leT_refl _ | exact leT_sl | exact leT_sln | exact leT_nil | (refine leT_tup (by repeat (first | exact leL_refl _ | refine leL_cons (by first | exact leT_refl _ | exact leT_virt | exact leT_junk _ | exact leT_sl | exact leT_sln | exact leT_nil | (refine leT_agg (by repeat (first | exact leL_refl _ | refine leL_cons (by first | exact leT_refl _ | exact leT_sl | exact leT_sln | exact leT_nil) ?_)))) ?_))) | (refine leT_agg (by repeat (first | exact leL_refl _ | refine leL_cons (by first | exact leT_refl _ | exact leT_virt | exact leT_junk _ | exact leT_sl | exact leT_sln | exact leT_nil | (refine leT_agg (by repeat (first | exact leL_refl _ | refine leL_cons (by first | exact leT_refl _ | exact leT_sl | exact leT_sln | exact leT_nil) ?_)))) ?_)))) | (simp only [List.append_assoc, List.cons_append, List.nil_append]; exact leT_refl _) | (rw [List.take_of_length_le (by first | (simp; done) | (simp; omega))]; (try simp only [List.append_assoc, List.cons_append, List.nil_append]); exact leT_refl _) | ((try simp (disch := first | omega | (simp; done) | (simp; omega)) only [if_pos, Nat.sub_zero, List.take_of_length_le]); (try simp only [List.append_assoc, List.cons_append, List.nil_append]); first | exact leT_refl _ | exact ⟨rfl, leT_refl _⟩)
       ·refine runX_condF rfl c37 ?_
        refine runX_skip ?_
        refine endX_seq ?_
        refine runX_seq ?_
        refine runX_seq ?_
        refine runX_regionC fun C hC => ?_
        try simp -implicitDefEqProofs (maxSteps := 4000000) (disch := first | omega | decide | (simp only [go_sem]; omega)) only [go_sem, ↓reduceIte]
        repeat (with_reducible refine And.intro (by first | assumption | omega | (simp; done) | (simp; omega)) ?_)
        refine toEnd hC ?_
        refine endX_seq ?_
        rcases iteB_some h with ⟨c38, h⟩ | ⟨c38, h⟩
        ·refine runX_condT rfl c38 ?_
         refine runX_regionC fun C hC => ?_
         try simp -implicitDefEqProofs (maxSteps := 4000000) (disch := first | omega | decide | (simp only [go_sem]; omega)) only [go_sem, ↓reduceIte]
         repeat (with_reducible refine And.intro (by first | assumption | omega | (simp; done) | (simp; omega)) ?_)
         refine toEnd hC ?_
         refine endX_seq ?_
         refine runX_seq ?_
         refine runX_regionC fun C hC => ?_
         try simp -implicitDefEqProofs (maxSteps := 4000000) (disch := first | omega | decide | (simp only [go_sem]; omega)) only [go_sem, ↓reduceIte]
         repeat (with_reducible refine And.intro (by first | assumption | omega | (simp; done) | (simp; omega)) ?_)
         refine toEnd hC ?_
         refine endX_seq ?_
         refine runX_ret ?_
         refine endX_q ?_
         obtain rfl := Option.some.inj h
         show RetW _ _ _ _ _
         simp only [RetW]
         (try simp -implicitDefEqProofs (maxSteps := 4000000) (disch := first | omega | decide | (simp only [go_sem]; omega)) only [go_sem, ↓reduceIte])
         (try simp (disch := omega) only [if_pos, Nat.sub_zero])
         first | exact leT_refl _ | (refine ⟨rfl, ?_⟩; first | exact leT_refl _ | exact leT_sl | exact leT_sln | exact leT_nil | (refine leT_tup (by repeat (first | exact leL_refl _ | refine leL_cons (by first | exact leT_refl _ | exact leT_virt | exact leT_junk _ | exact leT_sl | exact leT_sln | exact leT_nil | (refine leT_agg (by repeat (first | exact leL_refl _ | refine leL_cons (by first | exact leT_refl _ | exact leT_sl | exact leT_sln | exact leT_nil) ?_)))) ?_))) | (refine leT_agg (by repeat (first | exact leL_refl _ | refine leL_cons (by first | exact leT_refl _ | exact leT_virt | exact leT_junk _ | exact leT_sl | exact leT_sln | exact leT_nil | (refine leT_agg (by repeat (first | exact leL_refl _ | refine leL_cons (by first | exact leT_refl _ | exact leT_sl | exact leT_sln | exact leT_nil) ?_)))) ?_)))) | (first | exact leT_refl _ | exact leT_sl | exact leT_sln | exact leT_nil | (refine leT_tup (by repeat (first | exact leL_refl _ | refine leL_cons (by first | exact leT_refl _ | exact leT_virt | exact leT_junk _ | exact leT_sl | exact leT_sln | exact leT_nil | (refine leT_agg (by repeat (first | exact leL_refl _ | refine leL_cons (by first | exact leT_refl _ | exact leT_sl | exact leT_sln | exact leT_nil) ?_)))) ?_))) | (refine leT_agg (by repeat (first | exact leL_refl _ | refine leL_cons (by first | exact leT_refl _ | exact leT_virt | exact leT_junk _ | exact leT_sl | exact leT_sln | exact leT_nil | (refine leT_agg (by repeat (first | exact leL_refl _ | refine leL_cons (by first | exact leT_refl _ | exact leT_sl | exact leT_sln | exact leT_nil) ?_)))) ?_)))) | (simp only [List.append_assoc, List.cons_append, List.nil_append]; exact leT_refl _) | (rw [List.take_of_length_le (by first | (simp; done) | (simp; omega))]; (try simp only [List.append_assoc, List.cons_append, List.nil_append]); exact leT_refl _) | ((try simp (disch := first | omega | (simp; done) | (simp; omega)) only [if_pos, Nat.sub_zero, List.take_of_length_le]); (try simp only [List.append_assoc, List.cons_append, List.nil_append]); first | exact leT_refl _ | exact ⟨rfl, leT_refl _⟩)
        ·refine runX_condF rfl c38 ?_
         refine runX_skip ?_
         refine endX_seq ?_
         refine runX_seq ?_
         refine runX_regionC fun C hC => ?_
         try simp -implicitDefEqProofs (maxSteps := 4000000) (disch := first | omega | decide | (simp only [go_sem]; omega)) only [go_sem, ↓reduceIte]
         repeat (with_reducible refine And.intro (by first | assumption | omega | (simp; done) | (simp; omega)) ?_)
         refine toEnd hC ?_
         refine endX_seq ?_
         refine runX_ret ?_
         refine endX_q ?_
         obtain rfl := Option.some.inj h
         show RetW _ _ _ _ _
         simp only [RetW]
         (try simp -implicitDefEqProofs (maxSteps := 4000000) (disch := first | omega | decide | (simp only [go_sem]; omega)) only [go_sem, ↓reduceIte])
         (try simp (disch := omega) only [if_pos, Nat.sub_zero])
         first | exact leT_refl _ | (refine ⟨rfl, ?_⟩; first | exact leT_refl _ | exact leT_sl | exact leT_sln | exact leT_nil | (refine leT_tup (by repeat (first | exact leL_refl _ | refine leL_cons (by first | exact leT_refl _ | exact leT_virt | exact leT_junk _ | exact leT_sl | exact leT_sln | exact leT_nil | (refine leT_agg (by repeat (first | exact leL_refl _ | refine leL_cons (by first | exact leT_refl _ | exact leT_sl | exact leT_sln | exact leT_nil) ?_)))) ?_))) | (refine leT_agg (by repeat (first | exact leL_refl _ | refine leL_cons (by first | exact leT_refl _ | exact leT_virt | exact leT_junk _ | exact leT_sl | exact leT_sln | exact leT_nil | (refine leT_agg (by repeat (first | exact leL_refl _ | refine leL_cons (by first | exact leT_refl _ | exact leT_sl | exact leT_sln | exact leT_nil) ?_)))) ?_)))) | (first | exact leT_refl _ | exact leT_sl | exact leT_sln | exact leT_nil | (refine leT_tup (by repeat (first | exact leL_refl _ | refine leL_cons (by first | exact leT_refl _ | exact leT_virt | exact leT_junk _ | exact leT_sl | exact leT_sln | exact leT_nil | (refine leT_agg (by repeat (first | exact leL_refl _ | refine leL_cons (by first | exact leT_refl _ | exact leT_sl | exact leT_sln | exact leT_nil) ?_)))) ?_))) | (refine leT_agg (by repeat (first | exact leL_refl _ | refine leL_cons (by first | exact leT_refl _ | exact leT_virt | exact leT_junk _ | exact leT_sl | exact leT_sln | exact leT_nil | (refine leT_agg (by repeat (first | exact leL_refl _ | refine leL_cons (by first | exact leT_refl _ | exact leT_sl | exact leT_sln | exact leT_nil) ?_)))) ?_)))) | (simp only [List.append_assoc, List.cons_append, List.nil_append]; exact leT_refl _) | (rw [List.take_of_length_le (by first | (simp; done) | (simp; omega))]; (try simp only [List.append_assoc, List.cons_append, List.nil_append]); exact leT_refl _) | ((try simp (disch := first | omega | (simp; done) | (simp; omega)) only [if_pos, Nat.sub_zero, List.take_of_length_le]); (try simp only [List.append_assoc, List.cons_append, List.nil_append]); first | exact leT_refl _ | exact ⟨rfl, leT_refl _⟩)
end Go.Proofs.YtdjgldjebcoihaaDoorX

set_option linter.unusedVariables false
set_option linter.unusedSimpArgs false
namespace Go.Proofs.YtdjgldjebcoihaaDoorX
open Go Go.RowKit Go.Proofs
set_option maxRecDepth 100000
attribute [local go_sem ↓] stepsK_build stepsK_bs appendS
attribute [local go_sem] String.reduceEq String.reduceNe reduceCtorEq Int.reduceEq Nat.reduceAdd Nat.reduceSub Nat.reduceMul Nat.reduceLT Nat.reduceLeDiff Nat.reduceEqDiff Nat.reduceBEq Int.reduceToNat Int.reduceLT Int.reduceLE Int.reduceGT Int.reduceGE Int.reduceAdd Int.reduceSub Int.reduceMul Int.reduceNeg Int.reduceBEq Int.reduceBNe Int.reducePow Int.reduceDiv Int.reduceMod Int.reduceTDiv Int.reduceTMod Int.reduceNatCast
/-! ### shadowboxlaw43.ReplyReads -/
def F5_S1 (x3 : List (Int)) : St := ⟨[.sl 1 false (List.map byteT x3), .junk, .junk, .junk, .junk, .junk, .junk, .junk, .junk, .junk, .junk, .junk, .junk, .junk, .junk, .junk, .junk, .junk, .junk, .junk, .junk, .junk, .junk, .junk, .junk, .junk, .junk, .junk, .junk, .junk, .junk, .junk, .junk, .junk, .junk, .junk, .junk, .junk, .junk, .junk, .junk, .junk, .junk, .junk, .junk, .junk, .junk, .junk, .junk, .junk, .junk, .junk, .junk, .junk, .junk, .junk, .junk, .junk, .junk, .junk, .junk, .junk, .junk, .junk], []⟩
def F5_J1 (n : Nat) (x3 : List (Int)) : Option (Bool) := (F11 n x3 false).bind fun v4 => iteB (v4.2.2 != (0 : Int)) (iteB (v4.2.1 == (0 : Int)) (iteB (v4.1.1 == (0 : Int)) (iteB ((v4.1.2.2.length : Int) == (0 : Int)) (iteB (v4.2.2 == (10 : Int)) ((F9 n (200 : Int)).bind fun v10 => some (v10 == ([79, 75] : List UInt8))) (iteB (v4.2.2 == (11 : Int)) ((F9 n (200 : Int)).bind fun v12 => some (v12 == ([79, 75] : List UInt8))) (some false))) (some false)) (some false)) (some false)) (iteB (decide (v4.2.1 ≤ (x3.length : Int))) ((F7 n (v4.1.1, v4.1.2.1, v4.1.2.2) false).bind fun v14 => grd (0 ≤ v4.2.1 ∧ v4.2.1 ≤ (x3.length : Int)) (iteB ((v14.map toB) == ((x3.take v4.2.1.toNat).map toB)) ((F9 n v4.1.1).bind fun v17 => some (!(v17 == []))) (some false))) (some false))
def F5 (n : Nat) (a0 : List (Int)) : Option (Bool) := iteB (decide ((5000 : Int) < (a0.length : Int))) (grd ((5000 : Int) ≤ (a0.length : Int)) (F5_J1 n (a0.take 5000))) (F5_J1 n a0)
set_option maxHeartbeats 4000000 in
theorem F5_ok : ∀ (n : Nat) (a0 : List (Int)) (r : Bool), F5 n a0 = some r → FnC Tryd.prog 5 [.sl 1 false (List.map byteT a0)] (.imm (.bool r))
 | n, a0, r, h => by
  unfold F5 at h
  refine FnC.goX mixed Tryd.func5 (by kernel_rfl) rfl ?_
  simp only [Tryd.ntmps5, List.length_cons, List.length_nil, List.replicate, List.cons_append, List.nil_append, Nat.reduceAdd, Nat.reduceSub]
  refine runX_seq ?_
  refine runX_regionC fun C hC => ?_
  try simp -implicitDefEqProofs (maxSteps := 4000000) (disch := first | omega | decide | (simp only [go_sem]; omega)) only [go_sem, ↓reduceIte]
  repeat (with_reducible refine And.intro (by first | assumption | omega | (simp; done) | (simp; omega)) ?_)
  refine toEnd hC ?_
  refine endX_seq ?_
  refine runX_meet [0] (fun S => ∃ (x3 : List (Int)), S = F5_S1 x3 ∧ F5_J1 n x3 = some r) ?_ ?_
  ·refine runX_seq ?_
   refine runX_regionC fun C hC => ?_
   try simp -implicitDefEqProofs (maxSteps := 4000000) (disch := first | omega | decide | (simp only [go_sem]; omega)) only [go_sem, ↓reduceIte]
   repeat (with_reducible refine And.intro (by first | assumption | omega | (simp; done) | (simp; omega)) ?_)
   refine toEnd hC ?_
   refine endX_seq ?_
   rcases iteB_some h with ⟨c1, h⟩ | ⟨c1, h⟩
   ·refine runX_condT rfl c1 ?_
    refine runX_regionC fun C hC => ?_
    obtain ⟨g2, h⟩ := grd_some h
    try simp -implicitDefEqProofs (maxSteps := 4000000) (disch := first | omega | decide | (simp only [go_sem]; omega)) only [go_sem, ↓reduceIte]
    repeat (with_reducible refine And.intro (by first | assumption | omega | (simp; done) | (simp; omega)) ?_)
    refine toEnd hC ?_
    refine endX_q (meetQ_normal ⟨F5_S1 (a0.take 5000), ?_, (a0.take 5000), rfl, h⟩)
    simp only [F5_S1]
    (try simp -implicitDefEqProofs (maxSteps := 4000000) (disch := first | omega | decide | (simp only [go_sem]; omega)) only [go_sem, ↓reduceIte])
    first | exact leS_refl _ | (refine leS_le ?_ ?_ <;> first | exact leL_refl _ | exact leOs_refl _ | (simp only [List.append_assoc, List.cons_append, List.nil_append]; exact leOs_refl _) | (repeat (first | exact leL_refl _ | refine leL_cons (by first | exact leT_refl _ | exact leT_virt | exact leT_junk _ | exact leT_sl | exact leT_sln | exact leT_nil | (refine leT_agg (by repeat (first | exact leL_refl _ | refine leL_cons (by first | exact leT_refl _ | exact leT_sl | exact leT_sln | exact leT_nil) ?_)))) ?_)))
   ·refine runX_condF rfl c1 ?_
    refine runX_skip ?_
    refine endX_q (meetQ_normal ⟨F5_S1 a0, ?_, a0, rfl, h⟩)
    simp only [F5_S1]
    (try simp -implicitDefEqProofs (maxSteps := 4000000) (disch := first | omega | decide | (simp only [go_sem]; omega)) only [go_sem, ↓reduceIte])
    first | exact leS_refl _ | (refine leS_le ?_ ?_ <;> first | exact leL_refl _ | exact leOs_refl _ | (simp only [List.append_assoc, List.cons_append, List.nil_append]; exact leOs_refl _) | (repeat (first | exact leL_refl _ | refine leL_cons (by first | exact leT_refl _ | exact leT_virt | exact leT_junk _ | exact leT_sl | exact leT_sln | exact leT_nil | (refine leT_agg (by repeat (first | exact leL_refl _ | refine leL_cons (by first | exact leT_refl _ | exact leT_sl | exact leT_sln | exact leT_nil) ?_)))) ?_)))
  ·clear h
   rintro S ⟨x3, rfl, h⟩
   rw [F5_J1] at h
   simp only [F5_S1]
   refine runX_seq ?_
   refine runX_regionC fun C hC => ?_
   obtain ⟨v4, h4, h⟩ := bnd_some h
   try simp -implicitDefEqProofs (maxSteps := 4000000) (disch := first | omega | decide | (simp only [go_sem]; omega)) only [go_sem, ↓reduceIte]
   repeat (with_reducible refine And.intro (by first | assumption | omega | (simp; done) | (simp; omega)) ?_)
   refine callG_X (by first | rfl | (simp only [go_sem]; done) | (simp only [closedL, closedT, Bool.and_true]; exact closedL_map _ (fun _ => by first | rfl | (simp only [go_sem]; done)) _)) (F11_ok n x3 false _ h4) (by repeat (first | exact leL_refl _ | refine leL_cons (by first | exact leT_refl _ | exact leT_virt | exact leT_junk _ | exact leT_sl | exact leT_sln | exact leT_nil | (refine leT_agg (by repeat (first | exact leL_refl _ | refine leL_cons (by first | exact leT_refl _ | exact leT_sl | exact leT_sln | exact leT_nil) ?_)))) ?_)) ?_
   try simp -implicitDefEqProofs (maxSteps := 4000000) (disch := first | omega | decide | (simp only [go_sem]; omega)) only [go_sem, ↓reduceIte]
   repeat (with_reducible refine And.intro (by first | assumption | omega | (simp; done) | (simp; omega)) ?_)
   refine toEnd hC ?_
   refine endX_seq ?_
   refine runX_seq ?_
   refine runX_seq ?_
   refine runX_regionC fun C hC => ?_
   try simp -implicitDefEqProofs (maxSteps := 4000000) (disch := first | omega | decide | (simp only [go_sem]; omega)) only [go_sem, ↓reduceIte]
   repeat (with_reducible refine And.intro (by first | assumption | omega | (simp; done) | (simp; omega)) ?_)
   refine toEnd hC ?_
   refine endX_seq ?_
   rcases iteB_some h with ⟨c5, h⟩ | ⟨c5, h⟩
   ·refine runX_condT rfl c5 ?_
    refine runX_seq ?_
    refine runX_regionC fun C hC => ?_
    try simp -implicitDefEqProofs (maxSteps := 4000000) (disch := first | omega | decide | (simp only [go_sem]; omega)) only [go_sem, ↓reduceIte]
    repeat (with_reducible refine And.intro (by first | assumption | omega | (simp; done) | (simp; omega)) ?_)
    rcases iteB_some h with ⟨c6, h⟩ | ⟨c6, h⟩
    ·refine guardK_T c6 ?_
     try simp -implicitDefEqProofs (maxSteps := 4000000) (disch := first | omega | decide | (simp only [go_sem]; omega)) only [go_sem, ↓reduceIte]
     repeat (with_reducible refine And.intro (by first | assumption | omega | (simp; done) | (simp; omega)) ?_)
     rcases iteB_some h with ⟨c7, h⟩ | ⟨c7, h⟩
     ·refine guardK_T c7 ?_
      try simp -implicitDefEqProofs (maxSteps := 4000000) (disch := first | omega | decide | (simp only [go_sem]; omega)) only [go_sem, ↓reduceIte]
      repeat (with_reducible refine And.intro (by first | assumption | omega | (simp; done) | (simp; omega)) ?_)
      rcases iteB_some h with ⟨c8, h⟩ | ⟨c8, h⟩
      ·refine guardK_T c8 ?_
       try simp -implicitDefEqProofs (maxSteps := 4000000) (disch := first | omega | decide | (simp only [go_sem]; omega)) only [go_sem, ↓reduceIte]
       repeat (with_reducible refine And.intro (by first | assumption | omega | (simp; done) | (simp; omega)) ?_)
       rcases iteB_some h with ⟨c9, h⟩ | ⟨c9, h⟩
       ·refine guardK_F c9 ?_
        obtain ⟨v10, h10, h⟩ := bnd_some h
        try simp -implicitDefEqProofs (maxSteps := 4000000) (disch := first | omega | decide | (simp only [go_sem]; omega)) only [go_sem, ↓reduceIte]
        repeat (with_reducible refine And.intro (by first | assumption | omega | (simp; done) | (simp; omega)) ?_)
        refine callG_X (by first | rfl | (simp only [go_sem]; done) | (simp only [closedL, closedT, Bool.and_true]; exact closedL_map _ (fun _ => by first | rfl | (simp only [go_sem]; done)) _)) (F9_ok n (200 : Int) _ h10) (by repeat (first | exact leL_refl _ | refine leL_cons (by first | exact leT_refl _ | exact leT_virt | exact leT_junk _ | exact leT_sl | exact leT_sln | exact leT_nil | (refine leT_agg (by repeat (first | exact leL_refl _ | refine leL_cons (by first | exact leT_refl _ | exact leT_sl | exact leT_sln | exact leT_nil) ?_)))) ?_)) ?_
        try simp -implicitDefEqProofs (maxSteps := 4000000) (disch := first | omega | decide | (simp only [go_sem]; omega)) only [go_sem, ↓reduceIte]
        repeat (with_reducible refine And.intro (by first | assumption | omega | (simp; done) | (simp; omega)) ?_)
        refine toEnd hC ?_
        refine endX_seq ?_
        refine runX_ret ?_
        refine endX_seqR ?_
        refine endX_q ?_
        obtain rfl := Option.some.inj h
        show RetW _ _ _ _ _
        simp only [RetW]
        (try simp -implicitDefEqProofs (maxSteps := 4000000) (disch := first | omega | decide | (simp only [go_sem]; omega)) only [go_sem, ↓reduceIte])
        (try simp (disch := omega) only [if_pos, Nat.sub_zero])
        exact leT_refl _
       ·refine guardK_T c9 ?_
        try simp -implicitDefEqProofs (maxSteps := 4000000) (disch := first | omega | decide | (simp only [go_sem]; omega)) only [go_sem, ↓reduceIte]
        repeat (with_reducible refine And.intro (by first | assumption | omega | (simp; done) | (simp; omega)) ?_)
        rcases iteB_some h with ⟨c11, h⟩ | ⟨c11, h⟩
        ·refine guardK_T c11 ?_
         obtain ⟨v12, h12, h⟩ := bnd_some h
         try simp -implicitDefEqProofs (maxSteps := 4000000) (disch := first | omega | decide | (simp only [go_sem]; omega)) only [go_sem, ↓reduceIte]
         repeat (with_reducible refine And.intro (by first | assumption | omega | (simp; done) | (simp; omega)) ?_)
         refine callG_X (by first | rfl | (simp only [go_sem]; done) | (simp only [closedL, closedT, Bool.and_true]; exact closedL_map _ (fun _ => by first | rfl | (simp only [go_sem]; done)) _)) (F9_ok n (200 : Int) _ h12) (by repeat (first | exact leL_refl _ | refine leL_cons (by first | exact leT_refl _ | exact leT_virt | exact leT_junk _ | exact leT_sl | exact leT_sln | exact leT_nil | (refine leT_agg (by repeat (first | exact leL_refl _ | refine leL_cons (by first | exact leT_refl _ | exact leT_sl | exact leT_sln | exact leT_nil) ?_)))) ?_)) ?_
         try simp -implicitDefEqProofs (maxSteps := 4000000) (disch := first | omega | decide | (simp only [go_sem]; omega)) only [go_sem, ↓reduceIte]
         repeat (with_reducible refine And.intro (by first | assumption | omega | (simp; done) | (simp; omega)) ?_)
         refine toEnd hC ?_
         refine endX_seq ?_
         refine runX_ret ?_
         refine endX_seqR ?_
         refine endX_q ?_
         obtain rfl := Option.some.inj h
         show RetW _ _ _ _ _
         simp only [RetW]
         (try simp -implicitDefEqProofs (maxSteps := 4000000) (disch := first | omega | decide | (simp only [go_sem]; omega)) only [go_sem, ↓reduceIte])
         (try simp (disch := omega) only [if_pos, Nat.sub_zero])
         exact leT_refl _
        ·refine guardK_F c11 ?_
         try simp -implicitDefEqProofs (maxSteps := 4000000) (disch := first | omega | decide | (simp only [go_sem]; omega)) only [go_sem, ↓reduceIte]
         repeat (with_reducible refine And.intro (by first | assumption | omega | (simp; done) | (simp; omega)) ?_)
         refine toEnd hC ?_
         refine endX_seq ?_
         refine runX_ret ?_
         refine endX_seqR ?_
         refine endX_q ?_
         obtain rfl := Option.some.inj h
         show RetW _ _ _ _ _
         simp only [RetW]
         (try simp -implicitDefEqProofs (maxSteps := 4000000) (disch := first | omega | decide | (simp only [go_sem]; omega)) only [go_sem, ↓reduceIte])
         (try simp (disch := omega) only [if_pos, Nat.sub_zero])
         exact leT_refl _
      ·refine guardK_F c8 ?_
       try simp -implicitDefEqProofs (maxSteps := 4000000) (disch := first | omega | decide | (simp only [go_sem]; omega)) only [go_sem, ↓reduceIte]
       repeat (with_reducible refine And.intro (by first | assumption | omega | (simp; done) | (simp; omega)) ?_)
       refine toEnd hC ?_
       refine endX_seq ?_
       refine runX_ret ?_
       refine endX_seqR ?_
       refine endX_q ?_
       obtain rfl := Option.some.inj h
       show RetW _ _ _ _ _
       simp only [RetW]
       (try simp -implicitDefEqProofs (maxSteps := 4000000) (disch := first | omega | decide | (simp only [go_sem]; omega)) only [go_sem, ↓reduceIte])
       (try simp (disch := omega) only [if_pos, Nat.sub_zero])
       exact leT_refl _
     ·refine guardK_F c7 ?_
      try simp -implicitDefEqProofs (maxSteps := 4000000) (disch := first | omega | decide | (simp only [go_sem]; omega)) only [go_sem, ↓reduceIte]
      repeat (with_reducible refine And.intro (by first | assumption | omega | (simp; done) | (simp; omega)) ?_)
      refine toEnd hC ?_
      refine endX_seq ?_
      refine runX_ret ?_
      refine endX_seqR ?_
      refine endX_q ?_
      obtain rfl := Option.some.inj h
      show RetW _ _ _ _ _
      simp only [RetW]
      (try simp -implicitDefEqProofs (maxSteps := 4000000) (disch := first | omega | decide | (simp only [go_sem]; omega)) only [go_sem, ↓reduceIte])
      (try simp (disch := omega) only [if_pos, Nat.sub_zero])
      exact leT_refl _
    ·refine guardK_F c6 ?_
     try simp -implicitDefEqProofs (maxSteps := 4000000) (disch := first | omega | decide | (simp only [go_sem]; omega)) only [go_sem, ↓reduceIte]
     repeat (with_reducible refine And.intro (by first | assumption | omega | (simp; done) | (simp; omega)) ?_)
     refine toEnd hC ?_
     refine endX_seq ?_
     refine runX_ret ?_
     refine endX_seqR ?_
     refine endX_q ?_
     obtain rfl := Option.some.inj h
     show RetW _ _ _ _ _
     simp only [RetW]
     (try simp -implicitDefEqProofs (maxSteps := 4000000) (disch := first | omega | decide | (simp only [go_sem]; omega)) only [go_sem, ↓reduceIte])
     (try simp (disch := omega) only [if_pos, Nat.sub_zero])
     exact leT_refl _
   ·refine runX_condF rfl c5 ?_
    refine runX_skip ?_
    refine endX_seq ?_
    refine runX_seq ?_
    refine runX_drawC mixed (by kernel_rfl) fun C hC => ?_
    try simp -implicitDefEqProofs (maxSteps := 4000000) (disch := first | omega | decide | (simp only [go_sem]; omega)) only [go_sem, ↓reduceIte]
    repeat (with_reducible refine And.intro (by first | assumption | omega | (simp; done) | (simp; omega)) ?_)
    rcases iteB_some h with ⟨c13, h⟩ | ⟨c13, h⟩
    ·refine guardD_T c13 ?_
     obtain ⟨v14, h14, h⟩ := bnd_some h
     try simp -implicitDefEqProofs (maxSteps := 4000000) (disch := first | omega | decide | (simp only [go_sem]; omega)) only [go_sem, ↓reduceIte]
     repeat (with_reducible refine And.intro (by first | assumption | omega | (simp; done) | (simp; omega)) ?_)
     refine callD_X (F7_ok n (v4.1.1, v4.1.2.1, v4.1.2.2) false _ h14) (by repeat (first | exact leL_refl _ | refine leL_cons (by first | exact leT_refl _ | exact leT_virt | exact leT_junk _ | exact leT_sl | exact leT_sln | exact leT_nil | (refine leT_agg (by repeat (first | exact leL_refl _ | refine leL_cons (by first | exact leT_refl _ | exact leT_sl | exact leT_sln | exact leT_nil) ?_)))) ?_)) ?_
     obtain ⟨g15, h⟩ := grd_some h
     try simp -implicitDefEqProofs (maxSteps := 4000000) (disch := first | omega | decide | (simp only [go_sem]; omega)) only [go_sem, ↓reduceIte]
     repeat (with_reducible refine And.intro (by first | assumption | omega | (simp; done) | (simp; omega)) ?_)
     rcases iteB_some h with ⟨c16, h⟩ | ⟨c16, h⟩
     ·refine guardD_T c16 ?_
      obtain ⟨v17, h17, h⟩ := bnd_some h
      try simp -implicitDefEqProofs (maxSteps := 4000000) (disch := first | omega | decide | (simp only [go_sem]; omega)) only [go_sem, ↓reduceIte]
      repeat (with_reducible refine And.intro (by first | assumption | omega | (simp; done) | (simp; omega)) ?_)
      refine callD_X (F9_ok n v4.1.1 _ h17) (by repeat (first | exact leL_refl _ | refine leL_cons (by first | exact leT_refl _ | exact leT_virt | exact leT_junk _ | exact leT_sl | exact leT_sln | exact leT_nil | (refine leT_agg (by repeat (first | exact leL_refl _ | refine leL_cons (by first | exact leT_refl _ | exact leT_sl | exact leT_sln | exact leT_nil) ?_)))) ?_)) ?_
      try simp -implicitDefEqProofs (maxSteps := 4000000) (disch := first | omega | decide | (simp only [go_sem]; omega)) only [go_sem, ↓reduceIte]
      repeat (with_reducible refine And.intro (by first | assumption | omega | (simp; done) | (simp; omega)) ?_)
      refine toEnd hC ?_
      refine endX_seq ?_
      refine runX_ret ?_
      refine endX_q ?_
      obtain rfl := Option.some.inj h
      show RetW _ _ _ _ _
      simp only [RetW]
      (try simp -implicitDefEqProofs (maxSteps := 4000000) (disch := first | omega | decide | (simp only [go_sem]; omega)) only [go_sem, ↓reduceIte])
      (try simp (disch := omega) only [if_pos, Nat.sub_zero])
      exact leT_refl _
     ·refine guardD_F c16 ?_
      try simp -implicitDefEqProofs (maxSteps := 4000000) (disch := first | omega | decide | (simp only [go_sem]; omega)) only [go_sem, ↓reduceIte]
      repeat (with_reducible refine And.intro (by first | assumption | omega | (simp; done) | (simp; omega)) ?_)
      refine toEnd hC ?_
      refine endX_seq ?_
      refine runX_ret ?_
      refine endX_q ?_
      obtain rfl := Option.some.inj h
      show RetW _ _ _ _ _
      simp only [RetW]
      (try simp -implicitDefEqProofs (maxSteps := 4000000) (disch := first | omega | decide | (simp only [go_sem]; omega)) only [go_sem, ↓reduceIte])
      (try simp (disch := omega) only [if_pos, Nat.sub_zero])
      exact leT_refl _
    ·refine guardD_F c13 ?_
     try simp -implicitDefEqProofs (maxSteps := 4000000) (disch := first | omega | decide | (simp only [go_sem]; omega)) only [go_sem, ↓reduceIte]
     repeat (with_reducible refine And.intro (by first | assumption | omega | (simp; done) | (simp; omega)) ?_)
     refine toEnd hC ?_
     refine endX_seq ?_
     refine runX_ret ?_
     refine endX_q ?_
     obtain rfl := Option.some.inj h
     show RetW _ _ _ _ _
     simp only [RetW]
     (try simp -implicitDefEqProofs (maxSteps := 4000000) (disch := first | omega | decide | (simp only [go_sem]; omega)) only [go_sem, ↓reduceIte])
     (try simp (disch := omega) only [if_pos, Nat.sub_zero])
     exact leT_refl _
end Go.Proofs.YtdjgldjebcoihaaDoorX

/- Shapes of arguments, as plain values. Of no program. -/
set_option linter.unusedVariables false
namespace Go.Proofs.YtdjgldjebcoihaaDoorX
open Go Go.RowKit
theorem RepR.le {E : Env} {sz : Nat} : ∀ {l l' : List T} {c : List Value}, l.length = l'.length → (∀ i, leT anyE (l.getD i .junk) (l'.getD i .junk)) → RepR E sz l c → RepR E sz l' c
  | [], [], c, _, _, h => h
  | x :: l, y :: l', c, hl, hi, h => by
    simp only [RepR] at h ⊢
    obtain ⟨u, c', h1, h2, h3, h4⟩ := h
    exact ⟨u, c', h1, h2, by simpa using hi 0 E true u trivial (by simpa using h3), RepR.le (by simpa using hl) (fun i => by simpa using hi (i + 1)) h4⟩
  | [], _ :: _, c, hl, _, _ => by simp at hl
  | _ :: _, [], c, hl, _, _ => by simp at hl
theorem leT_slE {sz : Nat} {f : Bool} {l l' : List T} (hl : l.length = l'.length) (h : ∀ i, leT anyE (l.getD i .junk) (l'.getD i .junk)) : leT anyE (.sl sz f l) (.sl sz false l') := fun E cl v hp k => by
  simp only [Rep] at k ⊢
  obtain ⟨a, cap, c, h1, h2, h3, h4, h5⟩ := k
  exact ⟨a, cap, c, by rw [h1, hl], by rw [← hl]; exact h2, (fun h => by cases h), RepR.le hl h h4, h5⟩
theorem elems_shape {α : Type} (enc : α → T) (ok : α → Prop) : ∀ (l : List T), (∀ y ∈ l, ∃ v, leT anyE y (enc v) ∧ ok v) → ∃ vs : List α, vs.length = l.length ∧ (∀ i, leT anyE (l.getD i .junk) ((vs.map enc).getD i .junk)) ∧ ∀ v ∈ vs, ok v
  | [], _ => ⟨[], rfl, fun i => by simp [leT_refl], fun v hv => by simp at hv⟩
  | y :: l, h => by
    obtain ⟨v, h1, h2⟩ := h y (by simp)
    obtain ⟨vs, h3, h4, h5⟩ := elems_shape enc ok l fun z hz => h z (by simp [hz])
    refine ⟨v :: vs, by simp [h3], fun i => ?_, fun w hw => ?_⟩
    · cases i with
      | zero => simpa using h1
      | succ i => simpa using h4 i
    · rcases List.mem_cons.1 hw with rfl | hw
      · exact h2
      · exact h5 w hw
theorem sl_shape {α : Type} (enc : α → T) (ok : α → Prop) (l : List T) (h : ∀ y ∈ l, ∃ v, leT anyE y (enc v) ∧ ok v) {sz : Nat} {f : Bool} : ∃ vs : List α, leT anyE (.sl sz f l) (.sl sz false (vs.map enc)) ∧ vs.length = l.length ∧ ∀ v ∈ vs, ok v := by
  obtain ⟨vs, h1, h2, h3⟩ := elems_shape enc ok l h
  exact ⟨vs, leT_slE (by simp [h1]) h2, h1, h3⟩
end Go.Proofs.YtdjgldjebcoihaaDoorX

set_option linter.unusedVariables false
set_option linter.unusedSimpArgs false
namespace Go.Proofs.YtdjgldjebcoihaaDoorX
open Go Go.RowKit Go.Proofs
set_option maxRecDepth 100000
def okT5 (v : Int) : Prop := (0 : Int) ≤ v ∧ v ≤ 255
def okT23 (v : List (Int)) : Prop := v.length ≤ 9223372036854775807 ∧ ∀ y ∈ v, okT5 y
theorem shp5 : ∀ (n : Nat) (x : T), ShapeW Tryd.prog n 5 x → ∃ v : Int, x = .imm (.int .u8 v) ∧ okT5 v
  | 0, x, h => h.elim
  | n + 1, x, h => by
    simp only [ShapeW, Tryd.underlying5] at h
    obtain ⟨i, rfl, hi⟩ := h
    exact ⟨i, rfl, wf_of hi⟩
theorem shp23 : ∀ (n : Nat) (x : T), ShapeW Tryd.prog n 23 x → ∃ (f : Bool) (l : List T) (v : List (Int)), x = .sl 1 f l ∧ leT anyE x (.sl 1 false (List.map byteT v)) ∧ okT23 v
  | 0, x, h => h.elim
  | n + 1, x, h => by
    simp only [ShapeW, Tryd.underlying23] at h
    obtain ⟨f, l, rfl, hl, he⟩ := h
    rw [cz5]
    obtain ⟨v, h1, h2, h3⟩ := sl_shape byteT okT5 l fun y hy => (by
      obtain ⟨v, hv, hk⟩ := shp5 n y (he y hy)
      exact ⟨v, leT_of hv, hk⟩)
    exact ⟨f, l, v, rfl, h1, by rw [h2]; exact hl, h3⟩
theorem shapedReplyReads (main : ∀ (v0 : List (Int)), okT23 v0 → ∃ n, F5 n v0 = some true) (xs : List T) (h : ShapesW Tryd.prog [23] xs) : FnC Tryd.prog 5 xs (tb true) := by
  obtain ⟨x0, xs0, rfl, ⟨n0, h0⟩, rfl⟩ := h
  obtain ⟨_, _, v0, _, e0, k0⟩ := shp23 _ _ h0
  obtain ⟨N, hN⟩ := main v0 k0
  exact (F5_ok N v0 true hN).le (leL_cons (e0) (leL_nil)) (leT_refl _)
end Go.Proofs.YtdjgldjebcoihaaDoorX

/- Plain functions with fuel: what they come to. Of no program. -/
set_option linter.unusedVariables false
set_option linter.unusedSimpArgs false
namespace Go.Proofs.YtdjgldjebcoihaaDoorX
open Go
def Ev {α : Type} (f : Nat → Option α) (r : α) : Prop := ∃ N, ∀ n, N ≤ n → f n = some r
theorem Ev.pure {α : Type} {r : α} : Ev (fun _ => some r) r := ⟨0, fun _ _ => rfl⟩
theorem Ev.bind {α β : Type} {f : Nat → Option α} {g : Nat → α → Option β} {v : α} {r : β} (h : Ev f v) (h' : Ev (fun n => g n v) r) : Ev (fun n => (f n).bind (g n)) r := by
  obtain ⟨N, h⟩ := h
  obtain ⟨M, h'⟩ := h'
  exact ⟨max N M, fun n hn => by show (f n).bind (g n) = _; rw [h n (by omega)]; exact h' n (by omega)⟩
theorem Ev.step {α : Type} {f : Nat → Option α} {r : α} (h : Ev (fun n => f (n + 1)) r) : Ev f r := by
  obtain ⟨N, h⟩ := h
  refine ⟨N + 1, fun n hn => ?_⟩
  obtain ⟨m, rfl⟩ : ∃ m, n = m + 1 := ⟨n - 1, by omega⟩
  exact h m (by omega)
theorem Ev.congr {α : Type} {f g : Nat → Option α} {r : α} (h : Ev g r) (e : ∀ n, f n = g n) : Ev f r := by
  obtain ⟨N, h⟩ := h
  exact ⟨N, fun n hn => (e n).trans (h n hn)⟩
theorem iteB_t {α : Type} (x y : Option α) : iteB true x y = x := rfl
theorem iteB_f {α : Type} (x y : Option α) : iteB false x y = y := rfl
theorem grd_t {α : Type} {p : Prop} [Decidable p] (x : Option α) (h : p) : grd p x = x := if_pos h
theorem bind_some' {α β : Type} (v : α) (g : α → Option β) : (some v).bind g = g v := rfl
theorem w64 {n : Int} (h : -9223372036854775808 ≤ n ∧ n ≤ 9223372036854775807) : IntKind.wrap .i64 n = n := Go.IntWalk.i64_in _ h
theorem wu8 {n : Int} (h : 0 ≤ n ∧ n ≤ 255) : IntKind.wrap .u8 n = n := Go.IntWalk.u8_in _ h
theorem wu64 {n : Int} (h : 0 ≤ n ∧ n ≤ 18446744073709551615) : IntKind.wrap .u64 n = n := Go.IntWalk.u64_in _ h
theorem u8_lt (a : UInt8) : (0 : Int) ≤ (a.toNat : Int) ∧ (a.toNat : Int) ≤ 255 := by
  have := a.toNat_lt; omega
theorem drop_cons {α : Type} (l : List α) (i : Nat) (d : α) (h : i < l.length) : l.drop i = l.getD i d :: l.drop (i + 1) := by
  rw [List.drop_eq_getElem_cons h, List.getD_eq_getElem?_getD, List.getElem?_eq_getElem h]; rfl
theorem toNat_nat (n : Nat) : ((n : Int)).toNat = n := rfl
end Go.Proofs.YtdjgldjebcoihaaDoorX

/- Bytes as numbers. Of no program. -/
set_option linter.unusedVariables false
set_option linter.unusedSimpArgs false
namespace Go.Proofs.YtdjgldjebcoihaaDoorX
open Go
def Bytes (l : List Int) : Prop := ∀ x ∈ l, 0 ≤ x ∧ x ≤ 255
theorem Bytes.cons {a : Int} {r : List Int} (h : 0 ≤ a ∧ a ≤ 255) (hr : Bytes r) : Bytes (a :: r) := by
  intro x hx
  rcases List.mem_cons.1 hx with rfl | hx
  · exact h
  · exact hr x hx
theorem Bytes.drop {l : List Int} (h : Bytes l) (n : Nat) : Bytes (l.drop n) := fun x hx => h x (List.mem_of_mem_drop hx)
theorem Bytes.append {l r : List Int} (h : Bytes l) (h' : Bytes r) : Bytes (l ++ r) := fun x hx => by
  rcases List.mem_append.1 hx with hx | hx
  · exact h x hx
  · exact h' x hx
def bt (s : List UInt8) (i : Nat) : Int := ((s.getD i 0).toNat : Int)
def ints (s : List UInt8) : List Int := s.map ofB
theorem ints_len (s : List UInt8) : (ints s).length = s.length := by simp [ints]
theorem ints_bytes (s : List UInt8) : Bytes (ints s) := by
  intro x hx
  unfold ints at hx
  obtain ⟨c, _, rfl⟩ := List.mem_map.1 hx
  exact u8_lt c
theorem ints_get (s : List UInt8) (i : Nat) : (ints s).getD i 0 = bt s i := by
  unfold ints bt
  rw [List.getD_eq_getElem?_getD, List.getElem?_map, List.getD_eq_getElem?_getD]
  cases s[i]? <;> rfl
theorem drop_bt (s : List UInt8) (i : Nat) (h : i < s.length) : (ints s).drop i = bt s i :: (ints s).drop (i + 1) := by
  rw [drop_cons (ints s) i 0 (by rw [ints_len]; exact h), ints_get]
theorem ofB_toB {x : Int} (h : 0 ≤ x ∧ x ≤ 255) : ofB (toB x) = x := by
  unfold ofB toB
  rw [UInt8.toNat_ofNat']
  omega
theorem map_toB_eq {l : List Int} (hl : Bytes l) (t : List UInt8) : (l.map toB == t) = decide (l = ints t) := by
  rw [Bool.eq_iff_iff, beq_iff_eq, decide_eq_true_eq]
  constructor
  · rintro rfl
    unfold ints
    rw [List.map_map]
    conv => lhs; rw [← List.map_id l]
    exact List.map_congr_left fun x hx => (ofB_toB (hl x hx)).symm
  · rintro rfl
    unfold ints
    rw [List.map_map]
    conv => rhs; rw [← List.map_id t]
    refine List.map_congr_left fun x _ => ?_
    show UInt8.ofNat ((x.toNat : Int)).toNat = x
    rw [toNat_nat]; simp
theorem of_ints {s : List UInt8} {l : List Int} (h : ints s = l) : s = l.map toB := by
  have hb : Bytes l := h ▸ ints_bytes s
  have := map_toB_eq hb s
  rw [h, decide_eq_true rfl] at this
  exact (beq_iff_eq.1 this).symm
theorem bq {a b : Int} (h : ¬ a = b) : (a == b) = false := beq_eq_false_iff_ne.2 h
theorem bqt {a b : Int} (h : a = b) : (a == b) = true := by rw [h]; exact beq_self_eq_true b
theorem all_bytes {l : List Int} (h : Bytes l) : (l.all fun x => decide (0 ≤ x) && decide (x < 256)) = true := by
  rw [List.all_eq_true]
  intro x hx
  have := h x hx
  simp only [Bool.and_eq_true, decide_eq_true_eq]
  omega
theorem g64 (i : Nat) (h : i ≤ 1000000000) : IntKind.wrap .i64 ((i : Int) + 1) = ((i + 1 : Nat) : Int) := by rw [w64 (by omega)]; omega
theorem Bytes.getD {l : List Int} (h : Bytes l) (i : Nat) : 0 ≤ l.getD i 0 ∧ l.getD i 0 ≤ 255 := by
  rw [List.getD_eq_getElem?_getD]
  cases e : l[i]? with
  | none => exact ⟨by decide, by decide⟩
  | some x => exact h x (List.mem_of_getElem? e)
theorem Bytes.take {l : List Int} (h : Bytes l) (n : Nat) : Bytes (l.take n) := fun x hx => h x (List.mem_of_mem_take hx)
end Go.Proofs.YtdjgldjebcoihaaDoorX

set_option linter.unusedVariables false
set_option linter.unusedSimpArgs false
namespace Go.Proofs.YtdjgldjebcoihaaDoorX
open Go Go.RowKit Go.Proofs
set_option maxRecDepth 100000
attribute [local go_sem ↓] stepsK_build stepsK_bs appendS
attribute [local go_sem] String.reduceEq String.reduceNe reduceCtorEq Int.reduceEq Nat.reduceAdd Nat.reduceSub Nat.reduceMul Nat.reduceLT Nat.reduceLeDiff Nat.reduceEqDiff Nat.reduceBEq Int.reduceToNat Int.reduceLT Int.reduceLE Int.reduceGT Int.reduceGE Int.reduceAdd Int.reduceSub Int.reduceMul Int.reduceNeg Int.reduceBEq Int.reduceBNe Int.reducePow Int.reduceDiv Int.reduceMod Int.reduceTDiv Int.reduceTMod Int.reduceNatCast
end Go.Proofs.YtdjgldjebcoihaaDoorX

/- Words of responses' numbers: the program's and the reference's. -/
set_option linter.unusedVariables false
set_option linter.unusedSimpArgs false
namespace Go.Proofs.YtdjgldjebcoihaaDoorX
open Go
def codesR : List Int := [(200 : Int), (204 : Int), (206 : Int), (304 : Int), (400 : Int), (403 : Int), (404 : Int), (405 : Int), (409 : Int), (412 : Int), (413 : Int), (416 : Int), (431 : Int), (500 : Int), (501 : Int), (507 : Int)]
def wordsR : List (List UInt8) := [([79, 75] : List UInt8), ([78, 111, 32, 67, 111, 110, 116, 101, 110, 116] : List UInt8), ([80, 97, 114, 116, 105, 97, 108, 32, 67, 111, 110, 116, 101, 110, 116] : List UInt8), ([78, 111, 116, 32, 77, 111, 100, 105, 102, 105, 101, 100] : List UInt8), ([66, 97, 100, 32, 82, 101, 113, 117, 101, 115, 116] : List UInt8), ([70, 111, 114, 98, 105, 100, 100, 101, 110] : List UInt8), ([78, 111, 116, 32, 70, 111, 117, 110, 100] : List UInt8), ([77, 101, 116, 104, 111, 100, 32, 78, 111, 116, 32, 65, 108, 108, 111, 119, 101, 100] : List UInt8), ([67, 111, 110, 102, 108, 105, 99, 116] : List UInt8), ([80, 114, 101, 99, 111, 110, 100, 105, 116, 105, 111, 110, 32, 70, 97, 105, 108, 101, 100] : List UInt8), ([67, 111, 110, 116, 101, 110, 116, 32, 84, 111, 111, 32, 76, 97, 114, 103, 101] : List UInt8), ([82, 97, 110, 103, 101, 32, 78, 111, 116, 32, 83, 97, 116, 105, 115, 102, 105, 97, 98, 108, 101] : List UInt8), (82 :: 101 :: 113 :: 117 :: 101 :: 115 :: 116 :: 32 :: 72 :: 101 :: 97 :: 100 :: 101 :: 114 :: 32 :: 70 :: 105 :: 101 :: 108 :: 100 :: 115 :: 32 :: 84 :: 111 :: 111 :: 32 :: 76 :: 97 :: 114 :: 103 :: 101 :: ([] : List UInt8)), ([73, 110, 116, 101, 114, 110, 97, 108, 32, 83, 101, 114, 118, 101, 114, 32, 69, 114, 114, 111, 114] : List UInt8), ([78, 111, 116, 32, 73, 109, 112, 108, 101, 109, 101, 110, 116, 101, 100] : List UInt8), ([73, 110, 115, 117, 102, 102, 105, 99, 105, 101, 110, 116, 32, 83, 116, 111, 114, 97, 103, 101] : List UInt8)]
def findW : List Int → List (List UInt8) → Int → List UInt8
  | k :: ks, w :: ws, c => if k = c then w else findW ks ws c
  | _, _, _ => []
theorem fw_no {k c : Int} {w : List UInt8} {ks : List Int} {ws : List (List UInt8)} (h : ¬ c = k) : findW (k :: ks) (w :: ws) c = findW ks ws c := by
  rw [findW, if_neg (fun e => h e.symm)]
def reasonT (c : Int) : List UInt8 := findW codesR wordsR c
theorem Reason_eq (n : Nat) (c : Int) : F9 n c = some (reasonT c) := by
  rw [F9]
  unfold reasonT codesR wordsR
  by_cases h200 : c = 200
  · subst h200; rfl
  rw [show (c == (200 : Int)) = false from bq h200, iteB_f, fw_no h200]
  by_cases h204 : c = 204
  · subst h204; rfl
  rw [show (c == (204 : Int)) = false from bq h204, iteB_f, fw_no h204]
  by_cases h206 : c = 206
  · subst h206; rfl
  rw [show (c == (206 : Int)) = false from bq h206, iteB_f, fw_no h206]
  by_cases h304 : c = 304
  · subst h304; rfl
  rw [show (c == (304 : Int)) = false from bq h304, iteB_f, fw_no h304]
  by_cases h400 : c = 400
  · subst h400; rfl
  rw [show (c == (400 : Int)) = false from bq h400, iteB_f, fw_no h400]
  by_cases h403 : c = 403
  · subst h403; rfl
  rw [show (c == (403 : Int)) = false from bq h403, iteB_f, fw_no h403]
  by_cases h404 : c = 404
  · subst h404; rfl
  rw [show (c == (404 : Int)) = false from bq h404, iteB_f, fw_no h404]
  by_cases h405 : c = 405
  · subst h405; rfl
  rw [show (c == (405 : Int)) = false from bq h405, iteB_f, fw_no h405]
  by_cases h409 : c = 409
  · subst h409; rfl
  rw [show (c == (409 : Int)) = false from bq h409, iteB_f, fw_no h409]
  by_cases h412 : c = 412
  · subst h412; rfl
  rw [show (c == (412 : Int)) = false from bq h412, iteB_f, fw_no h412]
  by_cases h413 : c = 413
  · subst h413; rfl
  rw [show (c == (413 : Int)) = false from bq h413, iteB_f, fw_no h413]
  by_cases h416 : c = 416
  · subst h416; rfl
  rw [show (c == (416 : Int)) = false from bq h416, iteB_f, fw_no h416]
  by_cases h431 : c = 431
  · subst h431; rfl
  rw [show (c == (431 : Int)) = false from bq h431, iteB_f, fw_no h431]
  by_cases h500 : c = 500
  · subst h500; rfl
  rw [show (c == (500 : Int)) = false from bq h500, iteB_f, fw_no h500]
  by_cases h501 : c = 501
  · subst h501; rfl
  rw [show (c == (501 : Int)) = false from bq h501, iteB_f, fw_no h501]
  by_cases h507 : c = 507
  · subst h507; rfl
  rw [show (c == (507 : Int)) = false from bq h507, iteB_f, fw_no h507]
  rfl
theorem reason_len (c : Int) : (reasonT c).length ≤ 100 := by
  have h : ∀ (ks : List Int) (ws : List (List UInt8)), (∀ w ∈ ws, w.length ≤ 100) → (findW ks ws c).length ≤ 100 := by
    intro ks
    induction ks with
    | nil => intro ws _; rw [findW]; exact Nat.zero_le _; simp
    | cons k ks ih =>
      intro ws hw
      cases ws with
      | nil => rw [findW]; exact Nat.zero_le _; simp
      | cons w ws =>
        rw [findW]
        split
        · exact hw w (by simp)
        · exact ih ws fun x hx => hw x (by simp [hx])
  exact h _ _ (by decide)
theorem reason_code (c : Int) (h : reasonT c ≠ []) : 0 ≤ c ∧ c ≤ 1000 := by
  have key : ∀ (ks : List Int) (ws : List (List UInt8)), findW ks ws c ≠ [] → c ∈ ks := by
    intro ks
    induction ks with
    | nil => intro ws k; rw [findW] at k; exact absurd rfl k; simp
    | cons k ks ih =>
      intro ws hw
      cases ws with
      | nil => rw [findW] at hw; exact absurd rfl hw; simp
      | cons w ws =>
        rw [findW] at hw
        split at hw
        · rename_i e; simp [e]
        · exact List.mem_cons_of_mem _ (ih ws hw)
  have hm := key _ _ h
  exact (show ∀ x ∈ codesR, 0 ≤ x ∧ x ≤ 1000 by decide) c hm
end Go.Proofs.YtdjgldjebcoihaaDoorX

set_option linter.unusedVariables false
set_option linter.unusedSimpArgs false
namespace Go.Proofs.YtdjgldjebcoihaaDoorX
open Go Go.RowKit Go.Proofs
set_option maxRecDepth 100000
attribute [local go_sem ↓] stepsK_build stepsK_bs appendS
attribute [local go_sem] String.reduceEq String.reduceNe reduceCtorEq Int.reduceEq Nat.reduceAdd Nat.reduceSub Nat.reduceMul Nat.reduceLT Nat.reduceLeDiff Nat.reduceEqDiff Nat.reduceBEq Int.reduceToNat Int.reduceLT Int.reduceLE Int.reduceGT Int.reduceGE Int.reduceAdd Int.reduceSub Int.reduceMul Int.reduceNeg Int.reduceBEq Int.reduceBNe Int.reducePow Int.reduceDiv Int.reduceMod Int.reduceTDiv Int.reduceTMod Int.reduceNatCast
end Go.Proofs.YtdjgldjebcoihaaDoorX

set_option linter.unusedVariables false
set_option linter.unusedSimpArgs false
namespace Go.Proofs.YtdjgldjebcoihaaDoorX
open Go Go.RowKit Go.Proofs
set_option maxRecDepth 100000
attribute [local go_sem ↓] stepsK_build stepsK_bs appendS
attribute [local go_sem] String.reduceEq String.reduceNe reduceCtorEq Int.reduceEq Nat.reduceAdd Nat.reduceSub Nat.reduceMul Nat.reduceLT Nat.reduceLeDiff Nat.reduceEqDiff Nat.reduceBEq Int.reduceToNat Int.reduceLT Int.reduceLE Int.reduceGT Int.reduceGE Int.reduceAdd Int.reduceSub Int.reduceMul Int.reduceNeg Int.reduceBEq Int.reduceBNe Int.reducePow Int.reduceDiv Int.reduceMod Int.reduceTDiv Int.reduceTMod Int.reduceNatCast
end Go.Proofs.YtdjgldjebcoihaaDoorX

/- Blanks at both ends: words, and the reference's. -/
set_option linter.unusedVariables false
set_option linter.unusedSimpArgs false
namespace Go.Proofs.YtdjgldjebcoihaaDoorX
open Go
def isBl (c : UInt8) : Bool := c == 32 || c == 9
def trimL : List UInt8 → List UInt8
  | [] => []
  | c :: l => if isBl c = true then trimL l else c :: l
def trimR : List UInt8 → List UInt8
  | [] => []
  | c :: l => if trimR l = [] then (if isBl c = true then [] else [c]) else c :: trimR l
def trimT (s : List UInt8) : List UInt8 := trimL (trimR s)
theorem bl_contains (c : UInt8) : ([32, 9] : List UInt8).contains c = isBl c := by
  simp only [List.contains_cons, List.contains_nil, Bool.or_false, isBl]
theorem trimR_snoc (c : UInt8) : ∀ l : List UInt8, trimR (l ++ [c]) = if isBl c = true then trimR l else l ++ [c]
  | [] => by
    show (if trimR [] = [] then _ else _) = _
    rw [if_pos (show trimR [] = [] from rfl)]; rfl
  | x :: l => by
    rw [show (x :: l) ++ [c] = x :: (l ++ [c]) from rfl, trimR, trimR_snoc c l]
    by_cases h : isBl c = true
    · rw [if_pos h, if_pos h, trimR]
    · rw [if_neg h, if_neg h, if_neg (by simp)]
theorem rev_ind {α : Type} {p : List α → Prop} (h0 : p []) (h1 : ∀ l a, p l → p (l ++ [a])) : ∀ l, p l := by
  intro l
  rw [← List.reverse_reverse l]
  generalize l.reverse = m
  induction m with
  | nil => exact h0
  | cons a m ih => rw [List.reverse_cons]; exact h1 _ _ ih
theorem trimL_len : ∀ l : List UInt8, (trimL l).length ≤ l.length
  | [] => Nat.le_refl _
  | c :: l => by
    have := trimL_len l
    rw [trimL]; split <;> simp <;> omega
theorem trimR_len : ∀ l : List UInt8, (trimR l).length ≤ l.length
  | [] => Nat.le_refl _
  | c :: l => by
    have := trimR_len l
    rw [trimR]; split
    · split <;> simp
    · simp; omega
theorem trimT_len (l : List UInt8) : (trimT l).length ≤ l.length := Nat.le_trans (trimL_len _) (trimR_len _)
end Go.Proofs.YtdjgldjebcoihaaDoorX

/- Blanks at both ends: strings.Trim. -/
set_option linter.unusedVariables false
set_option linter.unusedSimpArgs false
namespace Go.Proofs.YtdjgldjebcoihaaDoorX
open Go
theorem trimL_eq : ∀ l : List UInt8, Lib.trimLeftS l [32, 9] = trimL l
  | [] => rfl
  | c :: l => by
    have ih := trimL_eq l
    unfold Lib.trimLeftS at ih ⊢
    rw [List.dropWhile_cons, bl_contains, ih]
    rfl
theorem trimR_eq (l : List UInt8) : Lib.trimRightS l [32, 9] = trimR l := by
  induction l using rev_ind with
  | h0 => rfl
  | h1 l c ih =>
    unfold Lib.trimRightS at ih ⊢
    rw [List.reverse_append, List.reverse_singleton, List.singleton_append, List.dropWhile_cons, bl_contains, trimR_snoc]
    by_cases h : isBl c = true
    · rw [if_pos h, if_pos h, ih]
    · rw [if_neg h, if_neg h, List.reverse_cons, List.reverse_reverse]
theorem Trim_eq (n : Nat) (s : List UInt8) (hs : s.length ≤ 1000000000) : F47 n s [32, 9] = some (trimT s) := by
  unfold F47 Lib.trimS
  rw [if_pos ⟨by omega, by decide, by decide⟩, trimL_eq, trimR_eq]; rfl
end Go.Proofs.YtdjgldjebcoihaaDoorX

/- strings.Builder, plain. -/
set_option linter.unusedVariables false
set_option linter.unusedSimpArgs false
namespace Go.Proofs.YtdjgldjebcoihaaDoorX
open Go
theorem bld_String (n : Nat) (b : Bool) (l : List Int) (h : Bytes l) (hl : l.length ≤ 549755813888) : F31 n (b, l) = some (l.map toB, (b, l)) := by
  unfold F31
  exact if_pos ⟨hl, all_bytes h⟩
theorem bld_Write (n : Nat) (b : Bool) (l : List Int) (s : List UInt8) (hl : l.length + s.length ≤ 549755813888) : F30 n (b, l) s = some ((s.length : Int), (), true, l ++ ints s) := by
  unfold F30
  rw [show F51 n (b, l) = some (true, l) from rfl, bind_some', grd_t _ hl]
  rfl
end Go.Proofs.YtdjgldjebcoihaaDoorX

/- Texts cut at a byte. -/
set_option linter.unusedVariables false
set_option linter.unusedSimpArgs false
namespace Go.Proofs.YtdjgldjebcoihaaDoorX
open Go
def splitB (c : UInt8) : List UInt8 → List (List UInt8)
  | [] => [[]]
  | x :: l => if x = c then [] :: splitB c l else match splitB c l with
    | [] => [[x]]
    | y :: ys => (x :: y) :: ys
theorem split_ne (c : UInt8) : ∀ l, splitB c l ≠ []
  | [] => by simp [splitB]
  | x :: l => by
    rw [splitB]
    split
    · simp
    · split <;> simp
theorem idx_cases (c : UInt8) : ∀ s : List UInt8, (Lib.indexByte s c = -1 ∧ c ∉ s ∧ s.count c = 0 ∧ splitB c s = [s]) ∨
    ∃ m : Nat, m < s.length ∧ Lib.indexByte s c = (m : Int) ∧ c ∉ s.take m ∧ s = s.take m ++ c :: s.drop (m + 1) ∧ s.count c = 1 + (s.drop (m + 1)).count c ∧ splitB c s = s.take m :: splitB c (s.drop (m + 1))
  | [] => .inl ⟨rfl, by simp, rfl, rfl⟩
  | x :: l => by
    by_cases h : x = c
    · subst h
      refine .inr ⟨0, by simp, ?_, by simp, by simp, by simp; omega, by simp [splitB]⟩
      rw [Lib.indexByte, beq_self_eq_true, if_pos rfl]; rfl
    · have hb : (x == c) = false := by rw [beq_eq_false_iff_ne]; exact h
      rcases idx_cases c l with ⟨h1, h2, h3, h4⟩ | ⟨m, h1, h2, h3, h4, h5, h6⟩
      · refine .inl ⟨?_, ?_, ?_, ?_⟩
        · rw [Lib.indexByte, hb, h1]; rfl
        · simp only [List.mem_cons, not_or]; exact ⟨fun e => h e.symm, h2⟩
        · rw [List.count_cons_of_ne h, h3]
        · rw [splitB, if_neg h, h4]
      · refine .inr ⟨m + 1, by simp; omega, ?_, ?_, ?_, ?_, ?_⟩
        · rw [Lib.indexByte, hb, h2]
          simp only [Bool.false_eq_true, if_false]
          rw [if_neg (by rw [beq_iff_eq]; omega)]; omega
        · rw [List.take_succ_cons]; simp only [List.mem_cons, not_or]; exact ⟨fun e => h e.symm, h3⟩
        · rw [List.take_succ_cons, List.drop_succ_cons, List.cons_append, ← h4]
        · rw [List.count_cons_of_ne h, List.drop_succ_cons, h5]
        · rw [splitB, if_neg h, h6, List.take_succ_cons, List.drop_succ_cons]
theorem Index_eq (n : Nat) (s : List UInt8) (c : UInt8) : F78 n s [c] = some (Lib.indexByte s c) := rfl
def cutB (c : UInt8) (s : List UInt8) : List UInt8 × List UInt8 × Bool := if c ∈ s then (s.take (Lib.indexByte s c).toNat, s.drop ((Lib.indexByte s c).toNat + 1), true) else (s, [], false)
theorem Cut_eq (n : Nat) (s : List UInt8) (c : UInt8) (hs : s.length ≤ 1000000) : F44 n s [c] = some (cutB c s) := by
  unfold cutB
  rw [F44, F59, Index_eq, bind_some', show (([c] : List UInt8).length : Int) = 1 from rfl]
  rcases idx_cases c s with ⟨h1, h2, h3, h4⟩ | ⟨m, h1, h2, h3, h4, h5, h6⟩
  · rw [if_neg h2, h1]; rfl
  · have hm : c ∈ s := by rw [h4]; simp
    rw [if_pos hm, h2, decide_eq_true (by omega), iteB_t, w64 (by omega), grd_t _ (by omega), grd_t _ (by omega), bind_some', show ((m : Int) + 1).toNat = m + 1 by omega, toNat_nat]
end Go.Proofs.YtdjgldjebcoihaaDoorX

set_option linter.unusedVariables false
set_option linter.unusedSimpArgs false
namespace Go.Proofs.YtdjgldjebcoihaaDoorX
open Go Go.RowKit Go.Proofs
set_option maxRecDepth 100000
attribute [local go_sem ↓] stepsK_build stepsK_bs appendS
attribute [local go_sem] String.reduceEq String.reduceNe reduceCtorEq Int.reduceEq Nat.reduceAdd Nat.reduceSub Nat.reduceMul Nat.reduceLT Nat.reduceLeDiff Nat.reduceEqDiff Nat.reduceBEq Int.reduceToNat Int.reduceLT Int.reduceLE Int.reduceGT Int.reduceGE Int.reduceAdd Int.reduceSub Int.reduceMul Int.reduceNeg Int.reduceBEq Int.reduceBNe Int.reducePow Int.reduceDiv Int.reduceMod Int.reduceTDiv Int.reduceTMod Int.reduceNatCast
/-! ### shadowboxref04.Kind -/
def F35 (n : Nat) (a0 : Int) : Option (Int) := iteB (decide ((48 : Int) ≤ a0)) (iteB (decide (a0 ≤ (57 : Int))) (some (1 : Int)) (iteB (decide ((97 : Int) ≤ a0)) (iteB (decide (a0 ≤ (102 : Int))) (some (2 : Int)) (iteB (decide ((103 : Int) ≤ a0)) (iteB (decide (a0 ≤ (122 : Int))) (some (3 : Int)) (iteB (decide ((65 : Int) ≤ a0)) (iteB (decide (a0 ≤ (90 : Int))) (some (4 : Int)) (some (0 : Int))) (some (0 : Int)))) (iteB (decide ((65 : Int) ≤ a0)) (iteB (decide (a0 ≤ (90 : Int))) (some (4 : Int)) (some (0 : Int))) (some (0 : Int))))) (iteB (decide ((103 : Int) ≤ a0)) (iteB (decide (a0 ≤ (122 : Int))) (some (3 : Int)) (iteB (decide ((65 : Int) ≤ a0)) (iteB (decide (a0 ≤ (90 : Int))) (some (4 : Int)) (some (0 : Int))) (some (0 : Int)))) (iteB (decide ((65 : Int) ≤ a0)) (iteB (decide (a0 ≤ (90 : Int))) (some (4 : Int)) (some (0 : Int))) (some (0 : Int)))))) (iteB (decide ((97 : Int) ≤ a0)) (iteB (decide (a0 ≤ (102 : Int))) (some (2 : Int)) (iteB (decide ((103 : Int) ≤ a0)) (iteB (decide (a0 ≤ (122 : Int))) (some (3 : Int)) (iteB (decide ((65 : Int) ≤ a0)) (iteB (decide (a0 ≤ (90 : Int))) (some (4 : Int)) (some (0 : Int))) (some (0 : Int)))) (iteB (decide ((65 : Int) ≤ a0)) (iteB (decide (a0 ≤ (90 : Int))) (some (4 : Int)) (some (0 : Int))) (some (0 : Int))))) (iteB (decide ((103 : Int) ≤ a0)) (iteB (decide (a0 ≤ (122 : Int))) (some (3 : Int)) (iteB (decide ((65 : Int) ≤ a0)) (iteB (decide (a0 ≤ (90 : Int))) (some (4 : Int)) (some (0 : Int))) (some (0 : Int)))) (iteB (decide ((65 : Int) ≤ a0)) (iteB (decide (a0 ≤ (90 : Int))) (some (4 : Int)) (some (0 : Int))) (some (0 : Int)))))
end Go.Proofs.YtdjgldjebcoihaaDoorX

/- The reference's kinds of bytes. -/
set_option linter.unusedVariables false
set_option linter.unusedSimpArgs false
namespace Go.Proofs.YtdjgldjebcoihaaDoorX
open Go
theorem kind_fin : ∀ c : Fin 256, F35 0 (c.val : Int) = some (kindOf (c.val : Int)) := by decide +kernel
theorem rKind_eq (n : Nat) (c : UInt8) : F35 n (c.toNat : Int) = some (kindOf (c.toNat : Int)) := kind_fin ⟨c.toNat, c.toNat_lt⟩
end Go.Proofs.YtdjgldjebcoihaaDoorX

set_option linter.unusedVariables false
set_option linter.unusedSimpArgs false
namespace Go.Proofs.YtdjgldjebcoihaaDoorX
open Go Go.RowKit Go.Proofs
set_option maxRecDepth 100000
attribute [local go_sem ↓] stepsK_build stepsK_bs appendS
attribute [local go_sem] String.reduceEq String.reduceNe reduceCtorEq Int.reduceEq Nat.reduceAdd Nat.reduceSub Nat.reduceMul Nat.reduceLT Nat.reduceLeDiff Nat.reduceEqDiff Nat.reduceBEq Int.reduceToNat Int.reduceLT Int.reduceLE Int.reduceGT Int.reduceGE Int.reduceAdd Int.reduceSub Int.reduceMul Int.reduceNeg Int.reduceBEq Int.reduceBNe Int.reducePow Int.reduceDiv Int.reduceMod Int.reduceTDiv Int.reduceTMod Int.reduceNatCast
def F52_L1 : Nat → (Int) → (Int) → Option (Bool)
 | 0, _, _ => none
 | m1 + 1, a0, x3 => iteB (decide (x3 < (14 : Int))) (grd (0 ≤ x3 ∧ x3 < (14 : Int)) (iteB (((([33, 35, 36, 37, 38, 39, 42, 43, 45, 46, 94, 95, 124, 126] : List UInt8).getD x3.toNat 0).toNat : Int) == a0) (some true) (F52_L1 m1 a0 (IntKind.wrap .i64 (x3 + (1 : Int)))))) (some (a0 == (96 : Int)))
def F52 (n : Nat) (a0 : Int) : Option (Bool) := (F35 n a0).bind fun v1 => iteB (v1 != (0 : Int)) (some true) (F52_L1 n a0 (0 : Int))
end Go.Proofs.YtdjgldjebcoihaaDoorX

set_option linter.unusedVariables false
set_option linter.unusedSimpArgs false
namespace Go.Proofs.YtdjgldjebcoihaaDoorX
open Go Go.RowKit Go.Proofs
set_option maxRecDepth 100000
attribute [local go_sem ↓] stepsK_build stepsK_bs appendS
attribute [local go_sem] String.reduceEq String.reduceNe reduceCtorEq Int.reduceEq Nat.reduceAdd Nat.reduceSub Nat.reduceMul Nat.reduceLT Nat.reduceLeDiff Nat.reduceEqDiff Nat.reduceBEq Int.reduceToNat Int.reduceLT Int.reduceLE Int.reduceGT Int.reduceGE Int.reduceAdd Int.reduceSub Int.reduceMul Int.reduceNeg Int.reduceBEq Int.reduceBNe Int.reducePow Int.reduceDiv Int.reduceMod Int.reduceTDiv Int.reduceTMod Int.reduceNatCast
def F32_L1 : Nat → (List UInt8) → (Int) → Option (Bool)
 | 0, _, _ => none
 | m1 + 1, a0, x1 => iteB (decide (x1 < (a0.length : Int))) (grd (0 ≤ x1 ∧ x1 < (a0.length : Int)) ((F52 m1 ((a0.getD x1.toNat 0).toNat : Int)).bind fun v4 => iteB (!v4) (some false) (F32_L1 m1 a0 (IntKind.wrap .i64 (x1 + (1 : Int)))))) (some (decide ((0 : Int) < (a0.length : Int))))
end Go.Proofs.YtdjgldjebcoihaaDoorX

set_option linter.unusedVariables false
set_option linter.unusedSimpArgs false
namespace Go.Proofs.YtdjgldjebcoihaaDoorX
open Go Go.RowKit Go.Proofs
set_option maxRecDepth 100000
attribute [local go_sem ↓] stepsK_build stepsK_bs appendS
attribute [local go_sem] String.reduceEq String.reduceNe reduceCtorEq Int.reduceEq Nat.reduceAdd Nat.reduceSub Nat.reduceMul Nat.reduceLT Nat.reduceLeDiff Nat.reduceEqDiff Nat.reduceBEq Int.reduceToNat Int.reduceLT Int.reduceLE Int.reduceGT Int.reduceGE Int.reduceAdd Int.reduceSub Int.reduceMul Int.reduceNeg Int.reduceBEq Int.reduceBNe Int.reducePow Int.reduceDiv Int.reduceMod Int.reduceTDiv Int.reduceTMod Int.reduceNatCast
def F33_L1 : Nat → (List UInt8) → (Int) → Option (Bool)
 | 0, _, _ => none
 | m1 + 1, a0, x1 => iteB (decide (x1 < (a0.length : Int))) (grd (0 ≤ x1 ∧ x1 < (a0.length : Int)) (iteB (((a0.getD x1.toNat 0).toNat : Int) != (9 : Int)) (grd (0 ≤ x1 ∧ x1 < (a0.length : Int)) (iteB (decide (((a0.getD x1.toNat 0).toNat : Int) < (32 : Int))) (some false) (grd (0 ≤ x1 ∧ x1 < (a0.length : Int)) (iteB (((a0.getD x1.toNat 0).toNat : Int) == (127 : Int)) (some false) (F33_L1 m1 a0 (IntKind.wrap .i64 (x1 + (1 : Int)))))))) (F33_L1 m1 a0 (IntKind.wrap .i64 (x1 + (1 : Int)))))) (some true)
end Go.Proofs.YtdjgldjebcoihaaDoorX

set_option linter.unusedVariables false
set_option linter.unusedSimpArgs false
namespace Go.Proofs.YtdjgldjebcoihaaDoorX
open Go Go.RowKit Go.Proofs
set_option maxRecDepth 100000
attribute [local go_sem ↓] stepsK_build stepsK_bs appendS
attribute [local go_sem] String.reduceEq String.reduceNe reduceCtorEq Int.reduceEq Nat.reduceAdd Nat.reduceSub Nat.reduceMul Nat.reduceLT Nat.reduceLeDiff Nat.reduceEqDiff Nat.reduceBEq Int.reduceToNat Int.reduceLT Int.reduceLE Int.reduceGT Int.reduceGE Int.reduceAdd Int.reduceSub Int.reduceMul Int.reduceNeg Int.reduceBEq Int.reduceBNe Int.reducePow Int.reduceDiv Int.reduceMod Int.reduceTDiv Int.reduceTMod Int.reduceNatCast
end Go.Proofs.YtdjgldjebcoihaaDoorX

/- Lines of a head: tokens, values, fields, and how they are put; the program's and the reference's. -/
set_option linter.unusedVariables false
set_option linter.unusedSimpArgs false
namespace Go.Proofs.YtdjgldjebcoihaaDoorX
open Go
def sgP : List Int := [33, 35, 36, 37, 38, 39, 42, 43, 45, 46, 94, 95, 96, 124, 126]
def sgR : List UInt8 := [33, 35, 36, 37, 38, 39, 42, 43, 45, 46, 94, 95, 124, 126]
def tokI (x : Int) : Bool := sgP.contains x || (kindOf x != 0)
theorem tok_loop (x : Int) : ∀ (d i : Nat), i + d = 15 → Ev (fun n => F60_L1 n x sgP (i : Int)) ((sgP.drop i).contains x || (kindOf x != 0)) := by
  intro d
  induction d with
  | zero =>
    intro i hi
    obtain rfl : i = 15 := by omega
    exact Ev.step (Ev.pure.congr fun n => by
      rw [F60_L1, decide_eq_false (by omega), iteB_f]; rfl)
  | succ d ih =>
    intro i hi
    have hl : sgP.length = 15 := rfl
    rw [drop_cons sgP i 0 (by omega), List.contains_cons]
    have hg : sgP.getD i default = sgP.getD i 0 := rfl
    by_cases h : sgP.getD i 0 = x
    · refine Ev.step (Ev.pure.congr fun n => ?_)
      rw [F60_L1, decide_eq_true (by omega), iteB_t, toNat_nat, grd_t _ (by omega), hg, h, beq_self_eq_true, iteB_t]; rfl
    · rw [bq (show ¬ x = sgP.getD i 0 from fun e => h e.symm), Bool.false_or]
      refine Ev.step ((ih (i + 1) (by omega)).congr fun n => ?_)
      rw [F60_L1, decide_eq_true (by omega), iteB_t, toNat_nat, grd_t _ (by omega), hg, bq h, iteB_f, g64 i (by omega)]
theorem ev_tok (x : Int) : Ev (fun n => F60 n x) (tokI x) :=
  (tok_loop x 15 0 rfl).congr fun n => rfl
theorem sign_loop (x : Int) : ∀ (d i : Nat), i + d = 14 → Ev (fun n => F52_L1 n x (i : Int)) (((ints sgR).drop i).contains x || (x == 96)) := by
  intro d
  induction d with
  | zero =>
    intro i hi
    obtain rfl : i = 14 := by omega
    exact Ev.step (Ev.pure.congr fun n => by
      rw [F52_L1, decide_eq_false (by omega), iteB_f]; rfl)
  | succ d ih =>
    intro i hi
    have hl : sgR.length = 14 := rfl
    rw [drop_bt sgR i (by omega), List.contains_cons]
    by_cases h : bt sgR i = x
    · refine Ev.step (Ev.pure.congr fun n => ?_)
      rw [F52_L1, decide_eq_true (by omega), iteB_t, toNat_nat, grd_t _ (by omega)]
      show iteB (bt sgR i == x) _ _ = _
      rw [h, beq_self_eq_true, iteB_t]; rfl
    · rw [bq (show ¬ x = bt sgR i from fun e => h e.symm), Bool.false_or]
      refine Ev.step ((ih (i + 1) (by omega)).congr fun n => ?_)
      rw [F52_L1, decide_eq_true (by omega), iteB_t, toNat_nat, grd_t _ (by omega)]
      show iteB (bt sgR i == x) _ _ = _
      rw [bq h, iteB_f, g64 i (by omega)]
theorem tok_fin : ∀ c : Fin 256, (if kindOf (c.val : Int) ≠ 0 then true else (((ints sgR).drop 0).contains (c.val : Int) || ((c.val : Int) == 96))) = tokI (c.val : Int) := by decide +kernel
theorem ev_sign (c : UInt8) : Ev (fun n => F52 n (c.toNat : Int)) (tokI (c.toNat : Int)) := by
  have h := tok_fin ⟨c.toNat, c.toNat_lt⟩
  dsimp only at h
  rw [← h]
  by_cases hk : kindOf (c.toNat : Int) ≠ 0
  · rw [if_pos hk]
    refine Ev.pure.congr fun n => ?_
    rw [F52, rKind_eq, bind_some', show (kindOf (c.toNat : Int) != 0) = true by rw [bne_iff_ne]; exact hk, iteB_t]
  · rw [if_neg hk]
    refine (sign_loop (c.toNat : Int) 14 0 rfl).congr fun n => ?_
    rw [F52, rKind_eq, bind_some', show (kindOf (c.toNat : Int) != 0) = false by rw [bne_eq_false_iff_eq]; exact Decidable.not_not.1 hk, iteB_f]
    rfl
def tokT (s : List UInt8) : Bool := (ints s).all tokI && !(s == [])
theorem Token_loop (s : List UInt8) (hs : s.length ≤ 1000000000) : ∀ (d i : Nat), i + d = s.length →
    Ev (fun n => F45_L1 n s (i : Int)) (((ints s).drop i).all tokI && !(s == [])) ∧ Ev (fun n => F32_L1 n s (i : Int)) (((ints s).drop i).all tokI && !(s == [])) := by
  intro d
  induction d with
  | zero =>
    intro i hi
    rw [List.drop_of_length_le (by rw [ints_len]; omega)]
    refine ⟨Ev.step (Ev.pure.congr fun n => ?_), Ev.step (Ev.pure.congr fun n => ?_)⟩
    · rw [F45_L1, decide_eq_false (by omega), iteB_f]; rfl
    · rw [F32_L1, decide_eq_false (by omega), iteB_f]
      cases s with
      | nil => rfl
      | cons a r => rw [decide_eq_true (by simp)]; rfl
  | succ d ih =>
    intro i hi
    obtain ⟨⟨N1, i1⟩, ⟨N2, i2⟩⟩ := ih (i + 1) (by omega)
    obtain ⟨M1, j1⟩ := ev_tok (bt s i)
    obtain ⟨M2, j2⟩ := ev_sign (s.getD i 0)
    rw [drop_bt s i (by omega), List.all_cons]
    refine ⟨Ev.step ⟨N1 + M1, fun n hn => ?_⟩, Ev.step ⟨N2 + M2, fun n hn => ?_⟩⟩
    · have q1 := i1 n (by omega)
      have q2 := j1 n (by omega)
      dsimp only at q1 q2
      show F45_L1 (n + 1) s (i : Int) = _
      rw [F45_L1, decide_eq_true (by omega), iteB_t, toNat_nat, grd_t _ (by omega), g64 i (by omega)]
      show (F60 n (bt s i)).bind _ = _
      rw [q2, bind_some']
      cases tokI (bt s i) with
      | true => rw [Bool.not_true, iteB_f, q1]; rfl
      | false => rfl
    · have q1 := i2 n (by omega)
      have q2 := j2 n (by omega)
      dsimp only at q1 q2
      show F32_L1 (n + 1) s (i : Int) = _
      rw [F32_L1, decide_eq_true (by omega), iteB_t, toNat_nat, grd_t _ (by omega), g64 i (by omega)]
      rw [q2, bind_some']
      show iteB (!tokI (bt s i)) _ _ = some ((tokI (bt s i) && _) && _)
      cases tokI (bt s i) with
      | true => rw [Bool.not_true, iteB_f, q1]; rfl
      | false => rfl
theorem ev_Token (s : List UInt8) (hs : s.length ≤ 1000000000) : Ev (fun n => F45 n s) (tokT s) := ((Token_loop s hs s.length 0 (by omega)).1).congr fun n => rfl
def valI (x : Int) : Bool := if x = 9 then true else if x < 32 then false else if x = 127 then false else true
def valT (s : List UInt8) : Bool := (ints s).all valI
theorem Value_loop (s : List UInt8) (hs : s.length ≤ 1000000000) : ∀ (d i : Nat), i + d = s.length →
    Ev (fun n => F46_L1 n s (i : Int)) (((ints s).drop i).all valI) ∧ Ev (fun n => F33_L1 n s (i : Int)) (((ints s).drop i).all valI) := by
  intro d
  induction d with
  | zero =>
    intro i hi
    rw [List.drop_of_length_le (by rw [ints_len]; omega)]
    exact ⟨Ev.step (Ev.pure.congr fun n => by rw [F46_L1, decide_eq_false (by omega), iteB_f]; rfl), Ev.step (Ev.pure.congr fun n => by rw [F33_L1, decide_eq_false (by omega), iteB_f]; rfl)⟩
  | succ d ih =>
    intro i hi
    obtain ⟨⟨N1, i1⟩, ⟨N2, i2⟩⟩ := ih (i + 1) (by omega)
    rw [drop_bt s i (by omega), List.all_cons]
    have key : ∀ (x : Int) (A : Option Bool) (q : Bool), A = some q → iteB (x != 9) (iteB (decide (x < 32)) (some false) (iteB (x == 127) (some false) A)) A = some (valI x && q) := by
      intro x A q hA
      subst hA
      unfold valI
      by_cases h9 : x = 9
      · rw [show (x != 9) = false by rw [h9]; rfl, iteB_f, if_pos h9]; rfl
      · rw [show (x != 9) = true by rw [bne, bq h9]; rfl, iteB_t, if_neg h9]
        by_cases h3 : x < 32
        · rw [decide_eq_true h3, iteB_t, if_pos h3]; rfl
        · rw [decide_eq_false h3, iteB_f, if_neg h3]
          by_cases h1 : x = 127
          · rw [bqt h1, iteB_t, if_pos h1]; rfl
          · rw [bq h1, iteB_f, if_neg h1]; rfl
    refine ⟨Ev.step ⟨N1, fun n hn => ?_⟩, Ev.step ⟨N2, fun n hn => ?_⟩⟩
    · have q1 := i1 n (by omega)
      dsimp only at q1
      show F46_L1 (n + 1) s (i : Int) = _
      rw [F46_L1, decide_eq_true (by omega), iteB_t, toNat_nat, grd_t _ (by omega), g64 i (by omega)]
      exact key (bt s i) _ _ q1
    · have q1 := i2 n (by omega)
      dsimp only at q1
      show F33_L1 (n + 1) s (i : Int) = _
      rw [F33_L1, decide_eq_true (by omega), iteB_t, toNat_nat, g64 i (by omega)]
      simp only [grd_t _ (show 0 ≤ (i : Int) ∧ (i : Int) < (s.length : Int) by omega)]
      exact key (bt s i) _ _ q1
theorem ev_Value (s : List UInt8) (hs : s.length ≤ 1000000000) : Ev (fun n => F46 n s) (valT s) := ((Value_loop s hs s.length 0 (by omega)).1).congr fun n => rfl
def lineT (s : List UInt8) : (List UInt8 × List UInt8) × Bool :=
  if (cutB 58 s).2.2 = true ∧ tokT (cutB 58 s).1 = true ∧ valT (cutB 58 s).2.1 = true then (((cutB 58 s).1, trimT (cutB 58 s).2.1), true) else (([], []), false)
theorem cutB_len (c : UInt8) (s : List UInt8) : (cutB c s).1.length ≤ s.length ∧ (cutB c s).2.1.length ≤ s.length := by
  unfold cutB
  split
  · simp only [List.length_take, List.length_drop]; omega
  · simp
theorem ev_Line (s : List UInt8) (hs : s.length ≤ 1000000) : Ev (fun n => F27 n s) (lineT s) := by
  obtain ⟨l1, l2⟩ := cutB_len 58 s
  obtain ⟨N1, e1⟩ := ev_Token (cutB 58 s).1 (by omega)
  obtain ⟨N2, e2⟩ := ev_Value (cutB 58 s).2.1 (by omega)
  refine ⟨N1 + N2, fun n hn => ?_⟩
  have q1 := e1 n (by omega)
  have q2 := e2 n (by omega)
  dsimp only at q1 q2
  show F27 n s = _
  rw [F27, Cut_eq n s 58 hs, bind_some']
  unfold lineT
  cases h1 : (cutB 58 s).2.2 with
  | false => rw [if_neg (by simp)]; rfl
  | true =>
    rw [Bool.not_true, iteB_f, q1, bind_some']
    cases h2 : tokT (cutB 58 s).1 with
    | false => rw [if_neg (by simp)]; rfl
    | true =>
      rw [Bool.not_true, iteB_f, q2, bind_some']
      cases h3 : valT (cutB 58 s).2.1 with
      | false => rw [if_neg (by simp)]; rfl
      | true => rw [Bool.not_true, iteB_f, Trim_eq n _ (by omega), bind_some', if_pos ⟨rfl, rfl, rfl⟩]
end Go.Proofs.YtdjgldjebcoihaaDoorX

set_option linter.unusedVariables false
set_option linter.unusedSimpArgs false
namespace Go.Proofs.YtdjgldjebcoihaaDoorX
open Go Go.RowKit Go.Proofs
set_option maxRecDepth 100000
attribute [local go_sem ↓] stepsK_build stepsK_bs appendS
attribute [local go_sem] String.reduceEq String.reduceNe reduceCtorEq Int.reduceEq Nat.reduceAdd Nat.reduceSub Nat.reduceMul Nat.reduceLT Nat.reduceLeDiff Nat.reduceEqDiff Nat.reduceBEq Int.reduceToNat Int.reduceLT Int.reduceLE Int.reduceGT Int.reduceGE Int.reduceAdd Int.reduceSub Int.reduceMul Int.reduceNeg Int.reduceBEq Int.reduceBNe Int.reducePow Int.reduceDiv Int.reduceMod Int.reduceTDiv Int.reduceTMod Int.reduceNatCast
def F21_L1 : Nat → (List ((List UInt8) × (List UInt8))) → (List UInt8) → (Int) → Option (List UInt8)
 | 0, _, _, _ => none
 | m1 + 1, a0, x1, x2 => iteB (decide (x2 < (a0.length : Int))) (grd (0 ≤ x2 ∧ x2 < (a0.length : Int)) (grd (x1.length + ((a0.getD x2.toNat default).1).length ≤ 9223372036854775807) (grd ((x1.length + ((a0.getD x2.toNat default).1).length) + 2 ≤ 9223372036854775807) (grd (0 ≤ x2 ∧ x2 < (a0.length : Int)) (grd ((x1.length + ((a0.getD x2.toNat default).1).length + 2) + ((a0.getD x2.toNat default).2).length ≤ 9223372036854775807) (grd ((x1.length + ((a0.getD x2.toNat default).1).length + ((a0.getD x2.toNat default).2).length + 2) + 2 ≤ 9223372036854775807) (F21_L1 m1 a0 ((((x1 ++ ((a0.getD x2.toNat default).1)) ++ ([58, 32] : List UInt8)) ++ ((a0.getD x2.toNat default).2)) ++ ([13, 10] : List UInt8)) (IntKind.wrap .i64 (x2 + (1 : Int)))))))))) (some x1)
def F21 (n : Nat) (a0 : List ((List UInt8) × (List UInt8))) : Option (List UInt8) := F21_L1 n a0 [] (0 : Int)
end Go.Proofs.YtdjgldjebcoihaaDoorX

/- The reference's line, and fields that are put. -/
set_option linter.unusedVariables false
set_option linter.unusedSimpArgs false
namespace Go.Proofs.YtdjgldjebcoihaaDoorX
open Go
/-! ### Fields that are put -/
abbrev Fld := List UInt8 × List UInt8
def put1 (f : Fld) : List UInt8 := f.1 ++ [58, 32] ++ f.2 ++ [13, 10]
def putT (l : List Fld) : List UInt8 := l.flatMap put1
theorem put1_len (f : Fld) : (put1 f).length = f.1.length + f.2.length + 4 := by simp [put1]; omega
theorem ints_app (a b : List UInt8) : ints (a ++ b) = ints a ++ ints b := by simp [ints]
theorem toB_ints (s : List UInt8) : (ints s).map toB = s := (of_ints rfl).symm
theorem Put_loop (l : List Fld) (hl : l.length ≤ 1000000) : ∀ (d i : Nat) (b : Bool) (t : List UInt8), i + d = l.length → t.length + (putT (l.drop i)).length ≤ 1000000 →
    Ev (fun n => F17_L1 n l (i : Int) b (ints t)) (t ++ putT (l.drop i)) ∧ Ev (fun n => F21_L1 n l t (i : Int)) (t ++ putT (l.drop i)) := by
  intro d
  induction d with
  | zero =>
    intro i b t hi ht
    rw [List.drop_of_length_le (by omega), show putT [] = [] from rfl, List.append_nil]
    refine ⟨Ev.step (Ev.pure.congr fun n => ?_), Ev.step (Ev.pure.congr fun n => ?_)⟩
    · rw [F17_L1, decide_eq_false (by omega), iteB_f, bld_String n b _ (ints_bytes t) (by rw [ints_len]; omega), bind_some', toB_ints]
    · rw [F21_L1, decide_eq_false (by omega), iteB_f]
  | succ d ih =>
    intro i b t hi ht
    have hd : l.drop i = l.getD i default :: l.drop (i + 1) := drop_cons l i default (by omega)
    rw [hd] at ht ⊢
    generalize hf : l.getD i default = f at ht ⊢
    have hp : putT (f :: l.drop (i + 1)) = put1 f ++ putT (l.drop (i + 1)) := rfl
    rw [hp] at ht ⊢
    rw [List.length_append, put1_len] at ht
    obtain ⟨⟨N1, i1⟩, ⟨N2, i2⟩⟩ := ih (i + 1) true (t ++ put1 f) (by omega) (by rw [List.length_append, put1_len]; omega)
    rw [List.append_assoc] at i1 i2
    refine ⟨Ev.step ⟨N1, fun n hn => ?_⟩, Ev.step ⟨N2, fun n hn => ?_⟩⟩
    · have q1 := i1 n hn
      dsimp only at q1
      show F17_L1 (n + 1) l (i : Int) b (ints t) = _
      rw [F17_L1, decide_eq_true (by omega), iteB_t, toNat_nat, hf, g64 i (by omega), grd_t _ (by omega), grd_t _ (by omega), grd_t _ (by omega), grd_t _ (by omega)]
      show (F30 n (b, ints t) (put1 f)).bind _ = _
      rw [bld_Write n b _ _ (by rw [ints_len, put1_len]; omega), bind_some']
      dsimp only
      rw [← ints_app, q1]
    · have q1 := i2 n hn
      dsimp only at q1
      show F21_L1 (n + 1) l t (i : Int) = _
      rw [F21_L1, decide_eq_true (by omega), iteB_t, toNat_nat, hf, g64 i (by omega), grd_t _ (by omega), grd_t _ (by omega), grd_t _ (by omega), grd_t _ (by omega), grd_t _ (by omega), grd_t _ (by omega)]
      rw [show ((t ++ f.1 ++ [58, 32]) ++ f.2) ++ [13, 10] = t ++ put1 f by simp [put1, List.append_assoc]]
      exact q1
end Go.Proofs.YtdjgldjebcoihaaDoorX

/- Small letters, plainly. -/
set_option linter.unusedVariables false
set_option linter.unusedSimpArgs false
namespace Go.Proofs.YtdjgldjebcoihaaDoorX
open Go
def lowI (x : Int) : Int := if kindOf x = 4 then x + 32 else x
def lowT (s : List UInt8) : List UInt8 := ((ints s).map lowI).map toB
end Go.Proofs.YtdjgldjebcoihaaDoorX

set_option linter.unusedVariables false
set_option linter.unusedSimpArgs false
namespace Go.Proofs.YtdjgldjebcoihaaDoorX
open Go Go.RowKit Go.Proofs
set_option maxRecDepth 100000
attribute [local go_sem ↓] stepsK_build stepsK_bs appendS
attribute [local go_sem] String.reduceEq String.reduceNe reduceCtorEq Int.reduceEq Nat.reduceAdd Nat.reduceSub Nat.reduceMul Nat.reduceLT Nat.reduceLeDiff Nat.reduceEqDiff Nat.reduceBEq Int.reduceToNat Int.reduceLT Int.reduceLE Int.reduceGT Int.reduceGE Int.reduceAdd Int.reduceSub Int.reduceMul Int.reduceNeg Int.reduceBEq Int.reduceBNe Int.reducePow Int.reduceDiv Int.reduceMod Int.reduceTDiv Int.reduceTMod Int.reduceNatCast
end Go.Proofs.YtdjgldjebcoihaaDoorX

/- hex.Decimal: what it answers. -/
set_option linter.unusedVariables false
set_option linter.unusedSimpArgs false
namespace Go.Proofs.YtdjgldjebcoihaaDoorX
open Go
def dgR (n : Nat) : List Int := if n < 10 then [48 + (n : Int)] else (48 + ((n % 10 : Nat) : Int)) :: dgR (n / 10)
theorem dgR_lt {n : Nat} (h : n < 10) : dgR n = [48 + (n : Int)] := by rw [dgR, if_pos h]
theorem dgR_ge {n : Nat} (h : ¬ n < 10) : dgR n = (48 + ((n % 10 : Nat) : Int)) :: dgR (n / 10) := by rw [dgR, if_neg h]
theorem dgR_len : ∀ (k n : Nat), n < 10 ^ (k + 1) → (dgR n).length ≤ k + 1
  | 0, n, h => by rw [dgR_lt (by omega)]; simp
  | k + 1, n, h => by
    by_cases h1 : n < 10
    · rw [dgR_lt h1]; simp
    · rw [dgR_ge h1, List.length_cons]
      have := dgR_len k (n / 10) (by rw [Nat.pow_succ] at h; omega)
      omega
def decI (n : Int) : List Int := (if n < 0 then dgR n.natAbs ++ [45] else dgR n.natAbs).reverse
def decT (n : Int) : List UInt8 := (decI n).map toB
def rvI (l0 : List Int) (i : Nat) (l : List Int) : Prop := l.length = l0.length ∧ ∀ k, k < l0.length → l.getD k 0 = if k < i ∨ l0.length - i ≤ k then l0.getD (l0.length - 1 - k) 0 else l0.getD k 0
theorem rv_end {l0 l : List Int} {i : Nat} (h : rvI l0 i l) (hi : l0.length ≤ 2 * i + 1) : l = l0.reverse := by
  obtain ⟨h1, h2⟩ := h
  apply List.ext_getElem
  · rw [h1, List.length_reverse]
  · intro k hk1 hk2
    have hk : k < l0.length := by omega
    have h3 := h2 k hk
    rw [List.getD_eq_getElem?_getD, List.getElem?_eq_getElem hk1] at h3
    rw [List.getElem_reverse]
    rw [show l[k] = (some l[k]).getD 0 from rfl, h3]
    split
    · rw [List.getD_eq_getElem?_getD, List.getElem?_eq_getElem (by omega)]; rfl
    · have e : l0.length - 1 - k = k := by omega
      rw [List.getD_eq_getElem?_getD, List.getElem?_eq_getElem (by omega)]
      simp only [e]; rfl
theorem rv_step {l0 l : List Int} {i j : Nat} (h : rvI l0 i l) (hj : i + j + 1 = l0.length) (hij : i < j) : rvI l0 (i + 1) ((l.set i (l.getD j 0)).set j (l.getD i 0)) := by
  obtain ⟨h1, h2⟩ := h
  refine ⟨by simp [h1], fun k hk => ?_⟩
  have gi := h2 i (by omega)
  have gj := h2 j (by omega)
  rw [if_neg (by omega)] at gi gj
  rw [List.getD_eq_getElem?_getD, List.getElem?_set]
  by_cases hkj : j = k
  · subst hkj
    rw [if_pos rfl, List.length_set, if_pos (by omega), Option.getD_some, gi, if_pos (by omega), show l0.length - 1 - j = i by omega]
  · rw [if_neg hkj, List.getElem?_set]
    by_cases hki : i = k
    · subst hki
      rw [if_pos rfl, if_pos (by omega), Option.getD_some, gj, if_pos (by omega), show l0.length - 1 - i = j by omega]
    · rw [if_neg hki, ← List.getD_eq_getElem?_getD, h2 k hk]
      by_cases hc : k < i ∨ l0.length - i ≤ k
      · rw [if_pos hc, if_pos (by omega)]
      · rw [if_neg hc, if_neg (by omega)]
theorem ev_rev (l0 : List Int) (hl : l0.length ≤ 1000) : ∀ (d i : Nat) (l : List Int), l0.length ≤ 2 * i + d → i ≤ l0.length → rvI l0 i l →
    Ev (fun n => F16_L4 n (i : Int) ((l0.length : Int) - 1 - i) l) (l0.reverse.map toB) := by
  intro d
  induction d with
  | zero =>
    intro i l hd hi h
    refine Ev.step (Ev.pure.congr fun n => ?_)
    have d1 : decide ((i : Int) < (l0.length : Int) - 1 - i) = false := decide_eq_false (by omega)
    simp only [F16_L4, d1, iteB_f]
    rw [rv_end h (by omega)]
  | succ d ih =>
    intro i l hd hi h
    refine Ev.step ?_
    by_cases hlt : (i : Int) < (l0.length : Int) - 1 - i
    · obtain ⟨j, hj⟩ : ∃ j : Nat, (l0.length : Int) - 1 - i = j := ⟨((l0.length : Int) - 1 - i).toNat, by omega⟩
      have d1 : decide ((i : Int) < (j : Int)) = true := decide_eq_true (by omega)
      have hll := h.1
      have w1 : IntKind.wrap .i64 ((i : Int) + 1) = ((i + 1 : Nat) : Int) := by rw [w64 (by omega)]; omega
      have w2 : IntKind.wrap .i64 ((j : Int) - 1) = (l0.length : Int) - 1 - ((i + 1 : Nat) : Int) := by rw [w64 (by omega)]; omega
      have e := ih (i + 1) _ (by omega) (by omega) (rv_step (j := j) h (by omega) (by omega))
      rw [hj]
      refine e.congr fun n => ?_
      simp only [F16_L4, d1, iteB_t, toNat_nat, w1, w2]
      have g1 : (0 ≤ (j : Int) ∧ (j : Int) < (l.length : Int)) := by omega
      have g2 : (0 ≤ (i : Int) ∧ (i : Int) < (l.length : Int)) := by omega
      have g3 : j < l.length := by omega
      have g4 : i < l.length := by omega
      rw [grd_t _ g1, grd_t _ g3, grd_t _ g2, grd_t _ g4, grd_t _ g2, grd_t _ g4, grd_t _ g1, grd_t _ g3]
      rfl
    · refine Ev.pure.congr fun n => ?_
      have d1 : decide ((i : Int) < (l0.length : Int) - 1 - i) = false := decide_eq_false hlt
      simp only [F16_L4, d1, iteB_f]
      rw [rv_end h (by omega)]
theorem ev_J3 (l : List Int) (h0 : 0 < l.length) (hl : l.length ≤ 1000) : Ev (fun n => F16_J3 n l) (l.reverse.map toB) := by
  have w1 : IntKind.wrap .i64 ((l.length : Int) - 1) = (l.length : Int) - 1 - ((0 : Nat) : Int) := by rw [w64 (by omega)]; omega
  refine (ev_rev l hl l.length 0 l (by omega) (by omega) ⟨rfl, fun k hk => by rw [if_neg (by omega)]⟩).congr fun n => ?_
  simp only [F16_J3, w1]; rfl
theorem digitAt (r : Nat) (h : r < 10) : ((([48, 49, 50, 51, 52, 53, 54, 55, 56, 57, 97, 98, 99, 100, 101, 102] : List UInt8).getD r 0).toNat : Int) = 48 + r := by
  have : ∀ r : Fin 10, ((([48, 49, 50, 51, 52, 53, 54, 55, 56, 57, 97, 98, 99, 100, 101, 102] : List UInt8).getD r.val 0).toNat : Int) = 48 + r.val := by decide
  exact this ⟨r, h⟩
theorem ev_digs (a : Int) : ∀ (k m : Nat) (l : List Int), m < 10 ^ (k + 1) → m < 10000000000000000000 → l.length + k ≤ 100 → Ev (fun n => F16_L2 n a (m : Int) l) ((if a < 0 then l ++ dgR m ++ [45] else l ++ dgR m).reverse.map toB) := by
  intro k
  induction k with
  | zero =>
    intro m l hm hb hl
    have hm' : m < 10 := by omega
    refine Ev.step ?_
    have e1 : (m : Int).tmod 10 = m := by rw [Int.tmod_eq_emod_of_nonneg (by omega)]; omega
    have e2 : (m : Int).tdiv 10 = 0 := by rw [Int.tdiv_eq_ediv_of_nonneg (by omega)]; omega
    have e3 : (IntKind.wrap .u64 0 == (0 : Int)) = true := by rw [wu64 (by omega)]; rfl
    rw [dgR_lt hm']
    by_cases ha : a < 0
    · rw [if_pos ha]
      refine (ev_J3 (l ++ [48 + (m : Int)] ++ [45]) (by simp) (by simp; omega)).congr fun n => ?_
      simp only [F16_L2, e1, e2, e3, toNat_nat, digitAt m hm', decide_eq_true ha, iteB_t]
      rw [grd_t _ (by omega), grd_t _ (by omega), grd_t _ (by omega)]
    · rw [if_neg ha]
      refine (ev_J3 (l ++ [48 + (m : Int)]) (by simp) (by simp; omega)).congr fun n => ?_
      simp only [F16_L2, e1, e2, e3, toNat_nat, digitAt m hm', decide_eq_false ha, iteB_t, iteB_f]
      rw [grd_t _ (by omega), grd_t _ (by omega)]
  | succ k ih =>
    intro m l hm hb hl
    by_cases hm' : m < 10
    · have := ih m l (by have : 10 ^ 1 ≤ 10 ^ (k + 1) := Nat.pow_le_pow_right (by omega) (by omega); omega) hb (by omega)
      exact this
    refine Ev.step ?_
    have e1 : (m : Int).tmod 10 = ((m % 10 : Nat) : Int) := by rw [Int.tmod_eq_emod_of_nonneg (by omega)]; omega
    have e2 : (m : Int).tdiv 10 = ((m / 10 : Nat) : Int) := by rw [Int.tdiv_eq_ediv_of_nonneg (by omega)]; omega
    have e4 : IntKind.wrap .u64 ((m / 10 : Nat) : Int) = ((m / 10 : Nat) : Int) := wu64 (by omega)
    have e3 : (((m / 10 : Nat) : Int) == (0 : Int)) = false := by rw [beq_eq_false_iff_ne]; omega
    have := ih (m / 10) (l ++ [48 + ((m % 10 : Nat) : Int)]) (by rw [Nat.pow_succ] at hm; omega) (by omega) (by simp; omega)
    rw [dgR_ge hm']
    rw [show (if a < 0 then l ++ (48 + ((m % 10 : Nat) : Int)) :: dgR (m / 10) ++ [45] else l ++ (48 + ((m % 10 : Nat) : Int)) :: dgR (m / 10)) = (if a < 0 then l ++ [48 + ((m % 10 : Nat) : Int)] ++ dgR (m / 10) ++ [45] else l ++ [48 + ((m % 10 : Nat) : Int)] ++ dgR (m / 10)) by simp]
    refine this.congr fun n => ?_
    simp only [F16_L2, e1, e2, e4, e3, toNat_nat, digitAt (m % 10) (by omega), iteB_f]
    rw [grd_t _ (by omega), grd_t _ (by omega)]
theorem ev_Decimal (a : Int) (h : -9223372036854775808 ≤ a ∧ a ≤ 9223372036854775807) : Ev (fun n => F16 n a) (decT a) := by
  have hd := ev_digs a 19 a.natAbs [] (by omega) (by omega) (by simp)
  simp only [List.nil_append] at hd
  unfold decT decI
  refine hd.congr fun n => ?_
  have hw : ∀ x : Int, IntKind.wrap .u64 x = x % 18446744073709551616 := fun x => rfl
  by_cases ha : a < 0
  · have e : IntKind.wrap .u64 (0 - IntKind.wrap .u64 a) = (a.natAbs : Int) := by rw [hw, hw]; omega
    simp only [F16, F16_J1, decide_eq_true ha, iteB_t, e]
  · have e : IntKind.wrap .u64 a = (a.natAbs : Int) := by rw [hw]; omega
    simp only [F16, F16_J1, decide_eq_false ha, iteB_f, e]
end Go.Proofs.YtdjgldjebcoihaaDoorX

set_option linter.unusedVariables false
set_option linter.unusedSimpArgs false
namespace Go.Proofs.YtdjgldjebcoihaaDoorX
open Go Go.RowKit Go.Proofs
set_option maxRecDepth 100000
attribute [local go_sem ↓] stepsK_build stepsK_bs appendS
attribute [local go_sem] String.reduceEq String.reduceNe reduceCtorEq Int.reduceEq Nat.reduceAdd Nat.reduceSub Nat.reduceMul Nat.reduceLT Nat.reduceLeDiff Nat.reduceEqDiff Nat.reduceBEq Int.reduceToNat Int.reduceLT Int.reduceLE Int.reduceGT Int.reduceGE Int.reduceAdd Int.reduceSub Int.reduceMul Int.reduceNeg Int.reduceBEq Int.reduceBNe Int.reducePow Int.reduceDiv Int.reduceMod Int.reduceTDiv Int.reduceTMod Int.reduceNatCast
end Go.Proofs.YtdjgldjebcoihaaDoorX

set_option linter.unusedVariables false
set_option linter.unusedSimpArgs false
namespace Go.Proofs.YtdjgldjebcoihaaDoorX
open Go Go.RowKit Go.Proofs
set_option maxRecDepth 100000
attribute [local go_sem ↓] stepsK_build stepsK_bs appendS
attribute [local go_sem] String.reduceEq String.reduceNe reduceCtorEq Int.reduceEq Nat.reduceAdd Nat.reduceSub Nat.reduceMul Nat.reduceLT Nat.reduceLeDiff Nat.reduceEqDiff Nat.reduceBEq Int.reduceToNat Int.reduceLT Int.reduceLE Int.reduceGT Int.reduceGE Int.reduceAdd Int.reduceSub Int.reduceMul Int.reduceNeg Int.reduceBEq Int.reduceBNe Int.reducePow Int.reduceDiv Int.reduceMod Int.reduceTDiv Int.reduceTMod Int.reduceNatCast
end Go.Proofs.YtdjgldjebcoihaaDoorX

set_option linter.unusedVariables false
set_option linter.unusedSimpArgs false
namespace Go.Proofs.YtdjgldjebcoihaaDoorX
open Go Go.RowKit Go.Proofs
set_option maxRecDepth 100000
attribute [local go_sem ↓] stepsK_build stepsK_bs appendS
attribute [local go_sem] String.reduceEq String.reduceNe reduceCtorEq Int.reduceEq Nat.reduceAdd Nat.reduceSub Nat.reduceMul Nat.reduceLT Nat.reduceLeDiff Nat.reduceEqDiff Nat.reduceBEq Int.reduceToNat Int.reduceLT Int.reduceLE Int.reduceGT Int.reduceGE Int.reduceAdd Int.reduceSub Int.reduceMul Int.reduceNeg Int.reduceBEq Int.reduceBNe Int.reducePow Int.reduceDiv Int.reduceMod Int.reduceTDiv Int.reduceTMod Int.reduceNatCast
end Go.Proofs.YtdjgldjebcoihaaDoorX

/- Responses that are put: the program's and the reference's. -/
set_option linter.unusedVariables false
set_option linter.unusedSimpArgs false
namespace Go.Proofs.YtdjgldjebcoihaaDoorX
open Go
/-! ### Small letters, and texts that are alike but for great ones -/
def lowB (c : UInt8) : UInt8 := toB (lowI (ofB c))
theorem lowB_nat (c : UInt8) : (lowB c).toNat = if 65 ≤ c.toNat ∧ c.toNat ≤ 90 then c.toNat + 32 else c.toNat := by
  have hc := c.toNat_lt
  have key : ∀ x : Fin 256, (toB (lowI (x.val : Int))).toNat = if 65 ≤ x.val ∧ x.val ≤ 90 then x.val + 32 else x.val := by decide +kernel
  exact key ⟨c.toNat, hc⟩
theorem lowT_map (s : List UInt8) : lowT s = s.map lowB := by
  unfold lowT ints
  rw [List.map_map, List.map_map]
  rfl
theorem foldEq_low (x y : UInt8) : Lib.foldEq x y = (lowB x == lowB y) := by
  have h : (lowB x = lowB y) ↔ (x.toNat = y.toNat ∨ (65 ≤ x.toNat ∧ x.toNat ≤ 90 ∧ y.toNat = x.toNat + 32) ∨ (65 ≤ y.toNat ∧ y.toNat ≤ 90 ∧ x.toNat = y.toNat + 32)) := by
    rw [← UInt8.toNat_inj, lowB_nat, lowB_nat]
    split <;> split <;> omega
  unfold Lib.foldEq
  rw [Bool.eq_iff_iff, decide_eq_true_eq, beq_iff_eq, h]
theorem fold_low : ∀ s t : List UInt8, Lib.equalFold s t = (s.map lowB == t.map lowB)
  | [], [] => rfl
  | [], _ :: _ => rfl
  | _ :: _, [] => rfl
  | x :: s, y :: t => by
    rw [Lib.equalFold, foldEq_low, fold_low s t]
    rfl
def CL : List UInt8 := [67, 111, 110, 116, 101, 110, 116, 45, 76, 101, 110, 103, 116, 104]
def clT : List UInt8 := [99, 111, 110, 116, 101, 110, 116, 45, 108, 101, 110, 103, 116, 104]
theorem fold_cl (s : List UInt8) : Lib.equalFold s CL = (lowT s == clT) := by
  rw [fold_low, lowT_map, show CL.map lowB = clT by decide +kernel]
theorem tok_ascii {s : List UInt8} (h : tokT s = true) : (s.all fun b => decide (b.toNat < 128)) = true := by
  unfold tokT at h
  rw [Bool.and_eq_true] at h
  have key : ∀ x : Fin 256, tokI (x.val : Int) = true → x.val < 128 := by decide +kernel
  rw [List.all_eq_true]
  intro c hc
  rw [decide_eq_true_eq]
  have := List.all_eq_true.1 h.1 (ofB c) (List.mem_map_of_mem hc)
  exact key ⟨c.toNat, c.toNat_lt⟩ this
theorem line_tok {s : List UInt8} (h : (lineT s).2 = true) : tokT (lineT s).1.1 = true := by
  unfold lineT at h ⊢
  split at h
  · rename_i k
    rw [if_pos k]; exact k.2.1
  · cases h
/-! ### Fields that may not be put -/
def fldBad (f : Fld) : Bool := !(lineT ((f.1 ++ [58]) ++ f.2)).2 || (!(((lineT ((f.1 ++ [58]) ++ f.2)).1.1 == f.1) && ((lineT ((f.1 ++ [58]) ++ f.2)).1.2 == f.2)) || (lowT f.1 == clT))
theorem ev_odd (f : Fld) (hf : f.1.length + f.2.length ≤ 100000) : Ev (fun n => F26 n f) (fldBad f) := by
  have e := ev_Line ((f.1 ++ [58]) ++ f.2) (by simp; omega)
  unfold fldBad
  refine ((e.bind (g := fun n v3 => iteB (!v3.2) (some true) (iteB (!((v3.1.1 == f.1) && (v3.1.2 == f.2))) (some true) ((F28 n f.1 CL).bind fun v6 => some v6))) ?_)).congr fun n => by rw [F26, grd_t _ (by omega), grd_t _ (by omega)]; rfl
  generalize hv : lineT ((f.1 ++ [58]) ++ f.2) = v
  cases h2 : v.2 with
  | false => exact Ev.pure
  | true =>
    cases h3 : (v.1.1 == f.1) && (v.1.2 == f.2) with
    | false => exact Ev.pure
    | true =>
      have h4 := tok_ascii (line_tok (hv ▸ h2))
      rw [hv] at h4
      rw [Bool.and_eq_true, beq_iff_eq] at h3
      rw [h3.1] at h4
      refine Ev.pure.congr fun n => ?_
      show iteB false (some true) (iteB false (some true) ((F28 n f.1 CL).bind fun v6 => some v6)) = some (false || (false || (lowT f.1 == clT)))
      rw [iteB_f, iteB_f, Bool.false_or, Bool.false_or, F28, if_pos ⟨by omega, h4, by decide⟩, bind_some', fold_cl]
theorem ev_findF (l : List Fld) (hl : l.length ≤ 100000) (hf : ∀ f ∈ l, f.1.length + f.2.length ≤ 100000) : ∀ (d i : Nat), i + d = l.length → ∃ v : Int, Ev (fun n => F27000050_L1 n l (i : Int)) v ∧ decide ((0 : Int) ≤ v) = (l.drop i).any fldBad
  | 0, i, hi => by
    rw [List.drop_of_length_le (by omega)]
    exact ⟨-1, Ev.step (Ev.pure.congr fun n => by rw [F27000050_L1, decide_eq_false (by omega), iteB_f]), rfl⟩
  | d + 1, i, hi => by
    have hm : l.getD i default ∈ l := by
      rw [List.getD_eq_getElem?_getD, List.getElem?_eq_getElem (by omega)]
      exact List.getElem_mem _
    rw [drop_cons l i default (by omega), List.any_cons]
    have e := ev_odd (l.getD i default) (hf _ hm)
    have u : ∀ n, F27000050_L1 (n + 1) l (i : Int) = (F26 n (l.getD i default)).bind fun v4 => iteB v4 (some (i : Int)) (F27000050_L1 n l ((i + 1 : Nat) : Int)) := by
      intro n
      rw [F27000050_L1, decide_eq_true (by omega), iteB_t, grd_t _ (by omega), toNat_nat, g64 i (by omega)]
    cases hb : fldBad (l.getD i default) with
    | true =>
      rw [hb] at e
      exact ⟨(i : Int), Ev.step ((e.bind (g := fun n v4 => iteB v4 (some (i : Int)) (F27000050_L1 n l ((i + 1 : Nat) : Int))) Ev.pure).congr fun n => by rw [u]), by rw [Bool.true_or, decide_eq_true (by omega)]⟩
    | false =>
      rw [hb] at e
      obtain ⟨v, e2, h2⟩ := ev_findF l hl hf d (i + 1) (by omega)
      exact ⟨v, Ev.step ((e.bind (g := fun n v4 => iteB v4 (some (i : Int)) (F27000050_L1 n l ((i + 1 : Nat) : Int))) (e2.congr fun n => rfl)).congr fun n => by rw [u]), by rw [Bool.false_or, h2]⟩
theorem ev_anyBad (l : List Fld) (hl : l.length ≤ 100000) (hf : ∀ f ∈ l, f.1.length + f.2.length ≤ 100000) : Ev (fun n => F27000029 n l) (l.any fldBad) := by
  obtain ⟨v, e, h⟩ := ev_findF l hl hf l.length 0 (by omega)
  rw [List.drop_zero] at h
  rw [← h]
  exact (e.bind (g := fun n v1 => some (decide ((0 : Int) ≤ v1))) Ev.pure).congr fun n => by rw [F27000029, F27000050]; rfl
/-! ### Responses -/
abbrev Resp := Int × List Fld × List Int
def noBody (c : Int) : Bool := if c = 204 then true else (c == 304)
theorem empty_eq (n : Nat) (c : Int) : F15 n c = some (noBody c) := by
  rw [F15]
  unfold noBody
  by_cases h : c = 204
  · rw [bqt h, iteB_t, if_pos h]
  · rw [bq h, iteB_f, if_neg h]
def headP (c : Int) (l : List Fld) : List UInt8 := (((((([72, 84, 84, 80, 47, 49, 46, 49, 32] : List UInt8) ++ decT c) ++ ([32] : List UInt8)) ++ reasonT c) ++ ([13, 10] : List UInt8)) ++ putT l) ++ ([13, 10] : List UInt8)
def fldsT (r : Resp) : List Fld := if noBody r.1 = true then r.2.1 else r.2.1 ++ [(CL, decT (r.2.2.length : Int))]
def replyT (r : Resp) (bare : Bool) : List Int := if reasonT r.1 = [] then [] else if r.2.1.any fldBad = true then [] else if (bare || noBody r.1) = true then (headP r.1 (fldsT r)).map ofB else (headP r.1 (fldsT r)).map ofB ++ r.2.2
theorem ev_right (r : Resp) (hl : r.2.1.length ≤ 100000) (hf : ∀ f ∈ r.2.1, f.1.length + f.2.length ≤ 100000) : Ev (fun n => F13 n r) (!(reasonT r.1 == []) && !(r.2.1.any fldBad)) := by
  have e := ev_anyBad r.2.1 hl hf
  have u : ∀ n, F13 n r = iteB (!(reasonT r.1 == [])) ((F27000029 n r.2.1).bind fun v3 => some (!v3)) (some false) := by
    intro n
    rw [F13, Reason_eq, bind_some']
  cases h : (!(reasonT r.1 == [])) with
  | false => exact Ev.pure.congr fun n => by rw [u, h, iteB_f]; rfl
  | true => exact ((e.bind (g := fun n v3 => some (!v3)) Ev.pure).congr fun n => by rw [u, h, iteB_t])
theorem dec_len (c : Int) (h : 0 ≤ c) (hc : c ≤ 1000000000000000) : (decT c).length ≤ 20 := by
  obtain ⟨m, rfl⟩ := Int.eq_ofNat_of_zero_le h
  have hx : Int.natAbs (m : Int) = m := Int.natAbs_natCast m
  unfold decT decI
  rw [if_neg (by omega), hx, List.length_map, List.length_reverse]
  have := dgR_len 17 m (by omega)
  omega
theorem ev_hPut (l : List Fld) (hl : l.length ≤ 1000000) (hp : (putT l).length ≤ 1000000) : Ev (fun n => F17 n l) (putT l) ∧ Ev (fun n => F21 n l) (putT l) := by
  obtain ⟨e1, e2⟩ := Put_loop l hl l.length 0 false [] (by omega) (by simpa using hp)
  exact ⟨e1.congr fun n => rfl, e2.congr fun n => rfl⟩
theorem putT_app (a b : List Fld) : putT (a ++ b) = putT a ++ putT b := by unfold putT; rw [List.flatMap_append]
theorem ev_J (r : Resp) (bare : Bool) (l : List Fld) (hr : reasonT r.1 ≠ []) (hl : l.length ≤ 1000000) (hp : (putT l).length ≤ 1000000) (hb : r.2.2.length ≤ 100000) : Ev (fun n => F7_J1 n bare r l) (if (bare || noBody r.1) = true then (headP r.1 l).map ofB else (headP r.1 l).map ofB ++ r.2.2) := by
  have hc := reason_code r.1 hr
  have hrl := reason_len r.1
  have hd := dec_len r.1 hc.1 (by omega)
  obtain ⟨N1, e1⟩ := ev_Decimal r.1 (by omega)
  obtain ⟨N2, e2⟩ := (ev_hPut l hl hp).1
  refine ⟨N1 + N2, fun n hn => ?_⟩
  have q1 := e1 n (by omega)
  have q2 := e2 n (by omega)
  dsimp only at q1 q2
  show F7_J1 n bare r l = _
  rw [F7_J1, q1, bind_some', grd_t _ (by omega), grd_t _ (by omega), Reason_eq, bind_some', grd_t _ (by omega), grd_t _ (by omega), q2, bind_some', grd_t _ (by omega), grd_t _ (by omega), empty_eq, bind_some', grd_t _ (by omega)]
  cases bare with
  | true => rfl
  | false =>
    cases noBody r.1 <;> rfl
theorem ev_Put (r : Resp) (bare : Bool) (hl : r.2.1.length ≤ 100000) (hf : ∀ f ∈ r.2.1, f.1.length + f.2.length ≤ 100000) (hp : (putT r.2.1).length ≤ 100000) (hb : r.2.2.length ≤ 100000) : Ev (fun n => F7 n r bare) (replyT r bare) := by
  obtain ⟨N1, e1⟩ := ev_right r (by omega) hf
  unfold replyT
  by_cases hr : reasonT r.1 = []
  · rw [if_pos hr]
    refine ⟨N1, fun n hn => ?_⟩
    have q1 := e1 n (by omega)
    dsimp only at q1
    show F7 n r bare = _
    rw [F7]
    show (F13 n r).bind _ = _
    rw [q1, hr]; rfl
  · rw [if_neg hr]
    have hrb : (reasonT r.1 == []) = false := beq_eq_false_iff_ne.2 hr
    by_cases ha : r.2.1.any fldBad = true
    · rw [if_pos ha]
      refine ⟨N1, fun n hn => ?_⟩
      have q1 := e1 n (by omega)
      dsimp only at q1
      show F7 n r bare = _
      rw [F7]
      show (F13 n r).bind _ = _
      rw [q1, hrb, ha]; rfl
    · rw [if_neg ha]
      have haf : r.2.1.any fldBad = false := by simpa using ha
      have hdl := dec_len (r.2.2.length : Int) (by omega) (by omega)
      have hp2 : (putT (fldsT r)).length ≤ 1000000 := by
        unfold fldsT
        split
        · omega
        · rw [putT_app, List.length_append]
          have : (putT [(CL, decT (r.2.2.length : Int))]).length = 14 + (decT (r.2.2.length : Int)).length + 4 := by
            show (put1 (CL, decT (r.2.2.length : Int)) ++ []).length = _
            rw [List.append_nil, put1_len]; rfl
          omega
      have hl2 : (fldsT r).length ≤ 1000000 := by
        unfold fldsT
        split
        · omega
        · rw [List.length_append]; simp; omega
      obtain ⟨N2, e2⟩ := ev_J r bare (fldsT r) hr hl2 hp2 hb
      obtain ⟨N3, e3⟩ := ev_Decimal (r.2.2.length : Int) (by omega)
      refine ⟨N1 + N2 + N3, fun n hn => ?_⟩
      have q1 := e1 n (by omega)
      have q2 := e2 n (by omega)
      have q3 := e3 n (by omega)
      dsimp only at q1 q2 q3
      show F7 n r bare = _
      rw [F7]
      show (F13 n r).bind _ = _
      rw [q1, hrb, haf, bind_some']
      show ((F14 n r.2.1).bind _) = _
      rw [F14, if_pos (by omega), bind_some', empty_eq, bind_some']
      unfold fldsT at q2 ⊢
      cases hn : noBody r.1 with
      | true =>
        rw [hn] at q2
        exact q2
      | false =>
        rw [hn] at q2
        rw [Bool.not_false, iteB_t, q3, bind_some', grd_t _ (by omega)]
        exact q2
end Go.Proofs.YtdjgldjebcoihaaDoorX

/- hex.ReadDecimal. -/
set_option linter.unusedVariables false
set_option linter.unusedSimpArgs false
namespace Go.Proofs.YtdjgldjebcoihaaDoorX
open Go
def decP : List UInt8 → Int → Int × Bool
  | [], n => (n, true)
  | c :: l, n => if kindOf (c.toNat : Int) = 1 then decP l (n * 10 + ((c.toNat : Int) - 48)) else (0, false)
theorem kind_one {c : Int} (h : kindOf c = 1) : 48 ≤ c ∧ c ≤ 57 := by
  unfold kindOf at h
  split at h
  · assumption
  · split at h
    · omega
    · split at h
      · omega
      · split at h <;> omega
theorem pow10 (i : Nat) (h : i ≤ 17) : 1 ≤ (10 : Int) ^ i ∧ (10 : Int) ^ i ≤ 100000000000000000 ∧ (10 : Int) ^ (i + 1) = 10 ^ i * 10 := by
  have h1 : (10 : Nat) ^ i ≤ 10 ^ 17 := Nat.pow_le_pow_right (by omega) h
  have h2 : 1 ≤ (10 : Nat) ^ i := Nat.pos_of_ne_zero (by simp)
  have h3 : ((10 : Nat) ^ i : Nat) = ((10 : Int) ^ i) := by simp
  refine ⟨by omega, by omega, Int.pow_succ _ _⟩
theorem ev_dec_l (l : List UInt8) (hl : l.length ≤ 18) : ∀ (d i : Nat) (x : Int), i + d = l.length → 0 ≤ x ∧ x < (10 : Int) ^ i → Ev (fun k => F43_L1 k l x (i : Int)) (decP (l.drop i) x) := by
  intro d
  induction d with
  | zero =>
    intro i x hi hx
    rw [List.drop_of_length_le (by omega)]
    refine Ev.step (Ev.pure.congr fun k => ?_)
    rw [F43_L1, decide_eq_false (by omega), iteB_f]; rfl
  | succ d ih =>
    intro i x hi hx
    rw [drop_cons l i 0 (by omega), decP]
    obtain ⟨p1, p2, p3⟩ := pow10 i (by omega)
    have hb := u8_lt (l.getD i 0)
    have w1 : IntKind.wrap .i64 ((i : Int) + 1) = ((i + 1 : Nat) : Int) := by rw [w64 (by omega)]; omega
    generalize hc : l.getD i 0 = c at *
    by_cases hk : kindOf (c.toNat : Int) = 1
    · rw [if_pos hk]
      have hk' := kind_one hk
      have e := ih (i + 1) (x * 10 + ((c.toNat : Int) - 48)) (by omega) (by rw [p3]; omega)
      refine Ev.step (e.congr fun k => ?_)
      rw [F43_L1, decide_eq_true (by omega), iteB_t, grd_t _ (by omega), toNat_nat, hc, F58, bind_some', hk]
      show iteB false _ _ = _
      rw [iteB_f, grd_t _ (by omega), wu8 (by omega), w64 (n := (c.toNat : Int) - 48) (by omega), w64 (n := x * 10) (by omega), w64 (n := x * 10 + _) (by omega), w1]
    · rw [if_neg hk]
      refine Ev.step (Ev.pure.congr fun k => ?_)
      rw [F43_L1, decide_eq_true (by omega), iteB_t, grd_t _ (by omega), toNat_nat, hc, F58, bind_some', show (kindOf (c.toNat : Int) != 1) = true by rw [bne_iff_ne]; exact hk, iteB_t]
def readD (l : List UInt8) : Int × Bool := if l = [] ∨ 18 < l.length then (0, false) else decP l 0
theorem ev_ReadDecimal (l : List UInt8) : Ev (fun k => F43 k l) (readD l) := by
  unfold readD
  cases l with
  | nil => rw [if_pos (Or.inl rfl)]; exact Ev.pure.congr fun k => rfl
  | cons a l =>
    by_cases h : 18 < (a :: l).length
    · rw [if_pos (Or.inr h)]
      refine Ev.pure.congr fun k => ?_
      rw [F43, show ((a :: l) == []) = false by rfl, iteB_f, decide_eq_true (by omega), iteB_t]
    · rw [if_neg (by simp only [reduceCtorEq, false_or]; exact h)]
      have e := ev_dec_l (a :: l) (by omega) (a :: l).length 0 0 (by omega) (by decide)
      refine e.congr fun k => ?_
      rw [F43, show ((a :: l) == []) = false by rfl, iteB_f, decide_eq_false (by omega), iteB_f]; rfl
theorem decP_bd : ∀ (l : List UInt8) (x : Int) (m : Nat), 0 ≤ x → x < (10 : Int) ^ m → m + l.length ≤ 18 → 0 ≤ (decP l x).1 ∧ (decP l x).1 ≤ 1000000000000000000
  | [], x, m, h0, h, hl => by
    have h1 : (10 : Nat) ^ m ≤ 10 ^ 18 := Nat.pow_le_pow_right (by omega) (by simpa using hl)
    have h3 : ((10 : Nat) ^ m : Nat) = ((10 : Int) ^ m) := by simp
    rw [decP]; dsimp only; omega
  | c :: l, x, m, h0, h, hl => by
    rw [decP]
    rw [List.length_cons] at hl
    obtain ⟨p1, p2, p3⟩ := pow10 m (by omega)
    by_cases hk : kindOf (c.toNat : Int) = 1
    · have hk' := kind_one hk
      rw [if_pos hk]
      exact decP_bd l _ (m + 1) (by omega) (by rw [p3]; omega) (by omega)
    · rw [if_neg hk]; dsimp only; omega
theorem readD_bd (l : List UInt8) : 0 ≤ (readD l).1 ∧ (readD l).1 ≤ 1000000000000000000 := by
  unfold readD
  split
  · dsimp only; omega
  · exact decP_bd l 0 0 (by omega) (by decide) (by omega)
end Go.Proofs.YtdjgldjebcoihaaDoorX

/- strings.Split at a text of two bytes: that it is told, and how long the pieces are. -/
set_option linter.unusedVariables false
set_option linter.unusedSimpArgs false
namespace Go.Proofs.YtdjgldjebcoihaaDoorX
open Go
theorem index_fit : ∀ (s sub : List UInt8), 0 ≤ Lib.index s sub → Lib.index s sub + (sub.length : Int) ≤ (s.length : Int)
  | [], sub, h => by
    rw [Lib.index] at h ⊢
    cases sub with
    | nil => exact Int.le_refl _
    | cons c r => rw [if_neg (by simp)] at h; exact absurd h (by decide)
  | b :: l, sub, h => by
    rw [Lib.index] at h ⊢
    split at h
    · rename_i hp
      rw [if_pos hp]
      have := (List.isPrefixOf_iff_prefix.1 hp).length_le
      omega
    · rename_i hp
      rw [if_neg hp]
      split at h
      · exact absurd h (by decide)
      · rename_i hq
        rw [if_neg hq]
        have hg := Lib.index_ge l sub
        have hne : Lib.index l sub ≠ -1 := fun e => hq (by rw [e]; rfl)
        have := index_fit l sub (by omega)
        rw [List.length_cons]
        omega
def tot (l : List (List UInt8)) : Nat := (l.map List.length).sum
theorem tot_snoc (l : List (List UInt8)) (x : List UInt8) : tot (l ++ [x]) = tot l + x.length := by unfold tot; simp
theorem tot_mem {l : List (List UInt8)} {x : List UInt8} (h : x ∈ l) : x.length ≤ tot l := by
  induction l with
  | nil => cases h
  | cons y l ih =>
    have : tot (y :: l) = y.length + tot l := by unfold tot; simp
    rcases List.mem_cons.1 h with rfl | h
    · omega
    · have := ih h; omega
theorem take_set1 {α : Type} (l : List α) (i : Nat) (x : α) (h : i < l.length) : (l.set i x).take (i + 1) = l.take i ++ [x] := by
  rw [List.take_set, List.take_succ_eq_append_getElem h, List.set_append_right _ _ (by rw [List.length_take]; omega)]
  rw [List.length_take, Nat.min_eq_left (by omega), Nat.sub_self]; rfl
theorem ev_splitEnd (n : Nat) (rest : List UInt8) (i : Nat) (arr : List (List UInt8)) (hi : i < arr.length) (ha : arr.length ≤ 2000000) : F56_J2 n rest (i : Int) arr = some (arr.take i ++ [rest]) := by
  have w : IntKind.wrap .i64 ((i : Int) + 1) = ((i + 1 : Nat) : Int) := by rw [w64 (by omega)]; omega
  rw [F56_J2, grd_t _ (by omega), toNat_nat, grd_t _ hi, w, grd_t _ (by omega), toNat_nat, take_set1 _ _ _ hi]
theorem ev_splitL (s sep : List UInt8) (h2 : 2 ≤ sep.length) (hsep : sep.length ≤ 100) (hs : s.length ≤ 1000000) (x5 : Int) (N : Nat) (hN : N ≤ s.length + 1) (h5 : (if (IntKind.wrap .i64 ((s.length : Int) + (1 : Int))) < x5 then (IntKind.wrap .i64 ((s.length : Int) + (1 : Int))) else x5) = (N : Int)) :
    ∀ (k i : Nat) (rest : List UInt8) (arr : List (List UInt8)), i + k + 1 = N → arr.length = N → tot (arr.take i) + rest.length ≤ s.length → ∃ ls, Ev (fun n => F56_L3 n sep (0 : Int) s x5 rest (i : Int) arr) ls ∧ ls ≠ [] ∧ ls.length ≤ s.length + 1 ∧ tot ls ≤ s.length := by
  intro k
  induction k with
  | zero =>
    intro i rest arr hi ha ht
    refine ⟨arr.take i ++ [rest], Ev.step (Ev.pure.congr fun n => ?_), by simp, by rw [List.length_append, List.length_take]; simp; omega, by rw [tot_snoc]; exact ht⟩
    rw [F56_L3, h5, w64 (n := (N : Int) - 1) (by omega), decide_eq_false (by omega), iteB_f, ev_splitEnd n rest i arr (by omega) (by omega)]
  | succ k ih =>
    intro i rest arr hi ha ht
    have hrl : rest.length ≤ 1000000 := by omega
    have hix : ∀ n, F75 n rest sep = some (Lib.index rest sep) := by
      intro n
      rw [F75, F78]
      · rw [if_pos (by omega)]; rfl
      · intro c e; rw [e] at h2; simp at h2
    have u : ∀ n, F56_L3 (n + 1) sep (0 : Int) s x5 rest (i : Int) arr = iteB (decide (Lib.index rest sep < (0 : Int))) (F56_J2 n rest (i : Int) arr) (grd (0 ≤ (IntKind.wrap .i64 (Lib.index rest sep + 0)) ∧ (IntKind.wrap .i64 (Lib.index rest sep + 0)) ≤ (rest.length : Int)) (grd (0 ≤ (i : Int) ∧ (i : Int) < (arr.length : Int)) (grd ((i : Int).toNat < arr.length) (grd (0 ≤ (IntKind.wrap .i64 (Lib.index rest sep + (sep.length : Int))) ∧ (IntKind.wrap .i64 (Lib.index rest sep + (sep.length : Int))) ≤ (rest.length : Int)) (F56_L3 n sep (0 : Int) s x5 (rest.drop (IntKind.wrap .i64 (Lib.index rest sep + (sep.length : Int))).toNat) (IntKind.wrap .i64 ((i : Int) + (1 : Int))) (List.set arr (i : Int).toNat (rest.take (IntKind.wrap .i64 (Lib.index rest sep + 0)).toNat))))))) := by
      intro n
      rw [F56_L3, h5, w64 (n := (N : Int) - 1) (by omega), decide_eq_true (by omega), iteB_t, hix, bind_some']
    by_cases hneg : Lib.index rest sep < 0
    · refine ⟨arr.take i ++ [rest], Ev.step (Ev.pure.congr fun n => ?_), by simp, by rw [List.length_append, List.length_take]; simp; omega, by rw [tot_snoc]; exact ht⟩
      rw [u, decide_eq_true hneg, iteB_t, ev_splitEnd n rest i arr (by omega) (by omega)]
    · have hfit := index_fit rest sep (by omega)
      obtain ⟨m, hm⟩ := Int.eq_ofNat_of_zero_le (show 0 ≤ Lib.index rest sep by omega)
      have w0 : IntKind.wrap .i64 (Lib.index rest sep + 0) = (m : Int) := by rw [hm, w64 (by omega)]; omega
      have w1 : IntKind.wrap .i64 (Lib.index rest sep + (sep.length : Int)) = ((m + sep.length : Nat) : Int) := by rw [hm, w64 (by omega)]; omega
      obtain ⟨ls, e, q⟩ := ih (i + 1) (rest.drop (m + sep.length)) (arr.set i (rest.take m)) (by omega) (by rw [List.length_set]; exact ha) (by
        rw [take_set1 _ _ _ (by omega), tot_snoc, List.length_take, List.length_drop]; omega)
      refine ⟨ls, Ev.step (e.congr fun n => ?_), q⟩
      rw [u, decide_eq_false hneg, iteB_f, w0, w1, grd_t _ (by omega), grd_t _ (by omega), toNat_nat, grd_t _ (by omega), grd_t _ (by omega), g64 i (by omega), toNat_nat, toNat_nat]
theorem ev_splitX (s sep : List UInt8) (h2 : 2 ≤ sep.length) (hsep : sep.length ≤ 100) (hs : s.length ≤ 1000000) : ∃ ls, Ev (fun n => F41 n s sep) ls ∧ ls ≠ [] ∧ ls.length ≤ s.length + 1 ∧ tot ls ≤ s.length := by
  have hcb : Lib.countB (bs s) (bs sep) ≤ s.length := Lib.countB_le (bs sep) (by rw [bs_size]; omega) s.length (bs s) (by rw [bs_size]; omega)
  have hct : ∀ n, F74 n s sep = some ((Lib.countB (bs s) (bs sep) : Nat) : Int) := by
    intro n
    rw [F74]
    · rw [if_pos ⟨by omega, h2⟩]
    · intro c e; rw [e] at h2; simp at h2
  generalize Lib.countB (bs s) (bs sep) = c at hcb hct
  have w1 : IntKind.wrap .i64 ((c : Int) + 1) = ((c + 1 : Nat) : Int) := by rw [w64 (by omega)]; omega
  have w2 : IntKind.wrap .i64 ((s.length : Int) + (1 : Int)) = ((s.length + 1 : Nat) : Int) := by rw [w64 (by omega)]; omega
  have h5 : (if (IntKind.wrap .i64 ((s.length : Int) + (1 : Int))) < ((c + 1 : Nat) : Int) then (IntKind.wrap .i64 ((s.length : Int) + (1 : Int))) else ((c + 1 : Nat) : Int)) = ((c + 1 : Nat) : Int) := by
    rw [w2, if_neg (by omega)]
  obtain ⟨ls, e, q⟩ := ev_splitL s sep h2 hsep hs ((c + 1 : Nat) : Int) (c + 1) (by omega) h5 c 0 s (List.replicate (c + 1) []) (by omega) (by simp) (by simp [tot])
  refine ⟨ls, (e.bind (g := fun n v1 => some v1) Ev.pure).congr fun n => ?_, q⟩
  rw [F41, F56]
  have hne : (sep == []) = false := by
    match sep, h2 with
    | a :: b :: r, _ => rfl
  show (iteB false (some []) (iteB (sep == []) none (iteB true ((F74 n s sep).bind fun v4 => F56_J1 n s sep (0 : Int) (IntKind.wrap .i64 (v4 + (1 : Int)))) (F56_J1 n s sep (0 : Int) (-1 : Int))))).bind _ = _
  rw [iteB_f, hne, iteB_f, iteB_t, hct, bind_some', w1, F56_J1, h5, grd_t _ (by omega), toNat_nat]
  rfl
end Go.Proofs.YtdjgldjebcoihaaDoorX

/- Responses that are read: that it is told, and what follows. -/
set_option linter.unusedVariables false
set_option linter.unusedSimpArgs false
namespace Go.Proofs.YtdjgldjebcoihaaDoorX
open Go
theorem ev_first (s : List UInt8) : ∃ v, Ev (fun n => F42 n s) v := by
  have hcut : ∃ w : List UInt8 × Bool, ∀ n, F57 n s ([72, 84, 84, 80, 47, 49, 46, 49, 32] : List UInt8) = some w := by
    by_cases h : 9 ≤ s.length
    · cases hb : (s.take 9 == ([72, 84, 84, 80, 47, 49, 46, 49, 32] : List UInt8)) with
      | true =>
        refine ⟨(s.drop 9, true), fun n => ?_⟩
        rw [F57, F76, F84]
        show ((iteB (decide ((9 : Int) ≤ (s.length : Int))) (grd (0 ≤ (9 : Int) ∧ (9 : Int) ≤ (s.length : Int)) (some (s.take 9 == ([72, 84, 84, 80, 47, 49, 46, 49, 32] : List UInt8)))) (some false)).bind fun v1 => iteB (!v1) (some (s, false)) (grd (0 ≤ (9 : Int) ∧ (9 : Int) ≤ (s.length : Int)) (some (s.drop 9, true)))).bind _ = _
        rw [decide_eq_true (by omega), iteB_t, grd_t _ (by omega), hb, bind_some', Bool.not_true, iteB_f, grd_t _ (by omega)]
        rfl
      | false =>
        refine ⟨(s, false), fun n => ?_⟩
        rw [F57, F76, F84]
        show ((iteB (decide ((9 : Int) ≤ (s.length : Int))) (grd (0 ≤ (9 : Int) ∧ (9 : Int) ≤ (s.length : Int)) (some (s.take 9 == ([72, 84, 84, 80, 47, 49, 46, 49, 32] : List UInt8)))) (some false)).bind fun v1 => iteB (!v1) (some (s, false)) (grd (0 ≤ (9 : Int) ∧ (9 : Int) ≤ (s.length : Int)) (some (s.drop 9, true)))).bind _ = _
        rw [decide_eq_true (by omega), iteB_t, grd_t _ (by omega), hb, bind_some']
        rfl
    · refine ⟨(s, false), fun n => ?_⟩
      rw [F57, F76, F84, show ((([72, 84, 84, 80, 47, 49, 46, 49, 32] : List UInt8).length : Nat) : Int) = 9 from rfl, decide_eq_false (by omega), iteB_f]
      rfl
  obtain ⟨w, hw⟩ := hcut
  have u : ∀ n, F42 n s = iteB (!w.2) (some (0 : Int)) (iteB (decide ((w.1.length : Int) < (3 : Int))) (some (0 : Int)) (grd ((3 : Int) ≤ (w.1.length : Int)) ((F43 n (w.1.take 3)).bind fun v5 => some v5.1))) := by
    intro n
    rw [F42, hw, bind_some']
  cases h2 : w.2 with
  | false => exact ⟨0, Ev.pure.congr fun n => by rw [u, h2]; rfl⟩
  | true =>
    by_cases h3 : (w.1.length : Int) < 3
    · exact ⟨0, Ev.pure.congr fun n => by rw [u, h2, Bool.not_true, iteB_f, decide_eq_true h3, iteB_t]⟩
    · exact ⟨(readD (w.1.take 3)).1, ((ev_ReadDecimal (w.1.take 3)).bind (g := fun n v5 => some v5.1) Ev.pure).congr fun n => by rw [u, h2, Bool.not_true, iteB_f, decide_eq_false h3, iteB_f, grd_t _ (by omega)]⟩
theorem line_len (s : List UInt8) : (lineT s).1.1.length ≤ s.length ∧ (lineT s).1.2.length ≤ s.length := by
  unfold lineT
  have := cutB_len 58 s
  split
  · exact ⟨this.1, Nat.le_trans (trimT_len _) this.2⟩
  · exact ⟨Nat.zero_le _, Nat.zero_le _⟩
theorem putT_snoc (l : List Fld) (f : Fld) : (putT (l ++ [f])).length = (putT l).length + (f.1.length + f.2.length + 4) := by
  rw [putT_app, List.length_append, show putT [f] = put1 f by simp [putT], put1_len]
theorem putT_take (l : List Fld) (k : Nat) : (putT (l.take k)).length ≤ (putT l).length := by
  conv => rhs; rw [← List.take_append_drop k l, putT_app, List.length_append]
  omega
theorem put_in : ∀ (l : List Fld) (f : Fld), f ∈ l → f.1.length + f.2.length ≤ (putT l).length
  | [], f, h => by cases h
  | g :: l, f, h => by
    rw [show putT (g :: l) = put1 g ++ putT l from rfl, List.length_append, put1_len]
    rcases List.mem_cons.1 h with rfl | h
    · omega
    · have := put_in l f h
      omega
def headOk (B : Nat) (v : Resp × Int × Bool) : Prop := 0 ≤ v.2.1 ∧ v.2.1 ≤ 1000000000000000000 ∧ v.1.2.1.length ≤ B ∧ (putT v.1.2.1).length ≤ B
theorem ev_headEnd (ls : List (List UInt8)) (c : Int) (B : Nat) (i : Nat) (acc : List Fld) (hi : ¬ i < (ls.drop 1).length) (hil : i ≤ 1000000) (ha : acc.length ≤ B) (hB : B ≤ 1000000) (hp : (putT acc).length ≤ B) : ∃ v, Ev (fun n => F23_L1 n ls c (i : Int) acc) v ∧ headOk B v := by
  have u : ∀ n, F23_L1 (n + 1) ls c (i : Int) acc = (F15 n c).bind fun v12 => iteB v12 (some ((c, acc, []), (0 : Int), true)) (iteB ((acc.length : Int) == (0 : Int)) (some (((0 : Int), [], []), (0 : Int), false)) (grd (0 ≤ (IntKind.wrap .i64 ((acc.length : Int) - (1 : Int))) ∧ (IntKind.wrap .i64 ((acc.length : Int) - (1 : Int))) < (acc.length : Int)) (grd ((IntKind.wrap .i64 ((acc.length : Int) - (1 : Int))).toNat < acc.length) (grd (0 ≤ (IntKind.wrap .i64 ((acc.length : Int) - (1 : Int))) ∧ (IntKind.wrap .i64 ((acc.length : Int) - (1 : Int))) ≤ (acc.length : Int)) ((F43 n ((acc.getD ((IntKind.wrap .i64 ((acc.length : Int) - (1 : Int))).toNat) default).2)).bind fun v18 => iteB v18.2 (some ((c, (acc).take ((IntKind.wrap .i64 ((acc.length : Int) - (1 : Int))).toNat), []), v18.1, (((acc.getD ((IntKind.wrap .i64 ((acc.length : Int) - (1 : Int))).toNat) default).1) == ([67, 111, 110, 116, 101, 110, 116, 45, 76, 101, 110, 103, 116, 104] : List UInt8)))) (some ((c, (acc).take ((IntKind.wrap .i64 ((acc.length : Int) - (1 : Int))).toNat), []), v18.1, false))))))) := by
    intro n
    rw [F23_L1, decide_eq_false (by omega), iteB_f]
  cases hn : noBody c with
  | true => exact ⟨((c, acc, []), 0, true), Ev.step (Ev.pure.congr fun n => by rw [u, empty_eq, hn, bind_some', iteB_t]), Int.le_refl 0, (show (0 : Int) ≤ 1000000000000000000 by decide), ha, hp⟩
  | false =>
    by_cases h0 : acc.length = 0
    · exact ⟨((0, [], []), 0, false), Ev.step (Ev.pure.congr fun n => by rw [u, empty_eq, hn, bind_some', iteB_f, bqt (by omega), iteB_t]), by decide, by decide, Nat.zero_le _, Nat.zero_le _⟩
    · have w : IntKind.wrap .i64 ((acc.length : Int) - (1 : Int)) = ((acc.length - 1 : Nat) : Int) := by rw [w64 (by omega)]; omega
      have e := ev_ReadDecimal (acc.getD (acc.length - 1) default).2
      have hb := readD_bd (acc.getD (acc.length - 1) default).2
      have hk : (acc.take (acc.length - 1)).length ≤ B := by rw [List.length_take]; omega
      have hq := Nat.le_trans (putT_take acc (acc.length - 1)) hp
      generalize hr : readD (acc.getD (acc.length - 1) default).2 = r at e hb
      have u2 : ∀ n, F23_L1 (n + 1) ls c (i : Int) acc = (F43 n (acc.getD (acc.length - 1) default).2).bind fun v18 => iteB v18.2 (some ((c, acc.take (acc.length - 1), []), v18.1, ((acc.getD (acc.length - 1) default).1 == ([67, 111, 110, 116, 101, 110, 116, 45, 76, 101, 110, 103, 116, 104] : List UInt8)))) (some ((c, acc.take (acc.length - 1), []), v18.1, false)) := by
        intro n
        rw [u, empty_eq, hn, bind_some', iteB_f, bq (by omega), iteB_f, w, grd_t _ (by omega), toNat_nat, grd_t _ (by omega), grd_t _ (by omega)]
      cases h2 : r.2 with
      | true => exact ⟨((c, acc.take (acc.length - 1), []), r.1, ((acc.getD (acc.length - 1) default).1 == ([67, 111, 110, 116, 101, 110, 116, 45, 76, 101, 110, 103, 116, 104] : List UInt8))), Ev.step ((e.bind (g := fun n v18 => iteB v18.2 (some ((c, acc.take (acc.length - 1), []), v18.1, ((acc.getD (acc.length - 1) default).1 == ([67, 111, 110, 116, 101, 110, 116, 45, 76, 101, 110, 103, 116, 104] : List UInt8)))) (some ((c, acc.take (acc.length - 1), []), v18.1, false))) (Ev.pure.congr fun n => by rw [h2, iteB_t])).congr u2), hb.1, hb.2, hk, hq⟩
      | false => exact ⟨((c, acc.take (acc.length - 1), []), r.1, false), Ev.step ((e.bind (g := fun n v18 => iteB v18.2 (some ((c, acc.take (acc.length - 1), []), v18.1, ((acc.getD (acc.length - 1) default).1 == ([67, 111, 110, 116, 101, 110, 116, 45, 76, 101, 110, 103, 116, 104] : List UInt8)))) (some ((c, acc.take (acc.length - 1), []), v18.1, false))) (Ev.pure.congr fun n => by rw [h2, iteB_f])).congr u2), hb.1, hb.2, hk, hq⟩
theorem tot_drop1 (ls : List (List UInt8)) : tot (ls.drop 1) ≤ tot ls := by
  cases ls with
  | nil => exact Nat.le_refl _
  | cons x l =>
    have : tot (x :: l) = x.length + tot l := by unfold tot; simp
    rw [List.drop_succ_cons, List.drop_zero]; omega
theorem ev_headL (ls : List (List UInt8)) (c : Int) (hl : ls.length ≤ 10000) (ht : tot ls ≤ 10000) : ∀ (k i : Nat) (acc : List Fld), i + k = (ls.drop 1).length → acc.length = i → (putT acc).length ≤ 2 * tot ((ls.drop 1).take i) + 4 * i → ∃ v, Ev (fun n => F23_L1 n ls c (i : Int) acc) v ∧ headOk 60000 v := by
  have hd : (ls.drop 1).length ≤ 10000 := by rw [List.length_drop]; omega
  have htd := tot_drop1 ls
  intro k
  induction k with
  | zero =>
    intro i acc hi ha hp
    have h1 : tot ((ls.drop 1).take i) ≤ tot ls := by rw [List.take_of_length_le (by omega)]; exact htd
    exact ev_headEnd ls c 60000 i acc (by omega) (by omega) (by omega) (by omega) (by omega)
  | succ k ih =>
    intro i acc hi ha hp
    have hm : (ls.drop 1).getD i default ∈ ls.drop 1 := by
      rw [List.getD_eq_getElem?_getD, List.getElem?_eq_getElem (by omega)]
      exact List.getElem_mem _
    have htk : (ls.drop 1).take (i + 1) = (ls.drop 1).take i ++ [(ls.drop 1).getD i default] := by
      rw [List.take_succ_eq_append_getElem (by omega), List.getD_eq_getElem?_getD, List.getElem?_eq_getElem (by omega)]; rfl
    have hxl := tot_mem hm
    have u : ∀ n, F23_L1 (n + 1) ls c (i : Int) acc = (F27 n ((ls.drop 1).getD i default)).bind fun v9 => iteB (!v9.2) (some (((0 : Int), [], []), (0 : Int), false)) (F23_L1 n ls c ((i + 1 : Nat) : Int) (acc ++ [(v9.1.1, v9.1.2)])) := by
      intro n
      rw [F23_L1, decide_eq_true (by omega), iteB_t, grd_t _ (by omega), toNat_nat, g64 i (by omega)]
      simp only [grd_t _ (show acc.length + 1 ≤ 549755813888 by omega)]
    have e := ev_Line ((ls.drop 1).getD i default) (by omega)
    have hll := line_len ((ls.drop 1).getD i default)
    generalize hx : (ls.drop 1).getD i default = x at *
    generalize hv : lineT x = v at *
    cases h2 : v.2 with
    | false => exact ⟨((0, [], []), 0, false), Ev.step ((e.bind (g := fun n v9 => iteB (!v9.2) (some (((0 : Int), [], []), (0 : Int), false)) (F23_L1 n ls c ((i + 1 : Nat) : Int) (acc ++ [(v9.1.1, v9.1.2)]))) (Ev.pure.congr fun n => by rw [h2]; rfl)).congr u), by decide, by decide, Nat.zero_le _, Nat.zero_le _⟩
    | true =>
      obtain ⟨r, e2, q⟩ := ih (i + 1) (acc ++ [(v.1.1, v.1.2)]) (by omega) (by rw [List.length_append]; simp; omega) (by
        rw [putT_snoc, htk, tot_snoc]
        dsimp only
        omega)
      exact ⟨r, Ev.step ((e.bind (g := fun n v9 => iteB (!v9.2) (some (((0 : Int), [], []), (0 : Int), false)) (F23_L1 n ls c ((i + 1 : Nat) : Int) (acc ++ [(v9.1.1, v9.1.2)]))) (e2.congr fun n => by rw [h2]; rfl)).congr u), q⟩
theorem ev_head (s : List UInt8) (hs : s.length ≤ 6000) : ∃ v, Ev (fun n => F23 n s) v ∧ headOk 60000 v := by
  obtain ⟨ls, ⟨N1, e1⟩, hne, hl, ht⟩ := ev_splitX s [13, 10] (by decide) (by decide) (by omega)
  obtain ⟨c, ⟨N2, e2⟩⟩ := ev_first (ls.getD 0 default)
  obtain ⟨v, ⟨N3, e3⟩, q⟩ := ev_headL ls c (by omega) (by omega) (ls.drop 1).length 0 [] (by omega) rfl (by simp [putT])
  refine ⟨v, ⟨N1 + N2 + N3, fun n hn => ?_⟩, q⟩
  have q1 := e1 n (by omega)
  have q2 := e2 n (by omega)
  have q3 := e3 n (by omega)
  dsimp only at q1 q2 q3
  have hpos : 0 < ls.length := List.length_pos_iff.2 hne
  show F23 n s = _
  rw [F23, q1, bind_some', grd_t _ (by omega)]
  show (F42 n (ls.getD 0 default)).bind _ = _
  rw [q2, bind_some', grd_t _ (by omega)]
  exact q3
end Go.Proofs.YtdjgldjebcoihaaDoorX

/- ReplyReads: what is read, and the law. -/
set_option linter.unusedVariables false
set_option linter.unusedSimpArgs false
namespace Go.Proofs.YtdjgldjebcoihaaDoorX
open Go
abbrev Got := Resp × Int × Int
def gotOk (b : List Int) (v : Got) : Prop := v = ((0, [], []), 0, 10) ∨ v = ((0, [], []), 0, 11) ∨ (v.2.2 = 0 ∧ 4 ≤ v.2.1 ∧ v.2.1 ≤ (b.length : Int) ∧ (replyT v.1 false).map toB = (b.take v.2.1.toNat).map toB ∧ v.1.2.1.length ≤ 60000 ∧ (putT v.1.2.1).length ≤ 60000 ∧ v.1.2.2.length ≤ 100000)
theorem ev_Put6 (r : Resp) (bare : Bool) (hl : r.2.1.length ≤ 60000) (hp : (putT r.2.1).length ≤ 60000) (hb : r.2.2.length ≤ 100000) : Ev (fun n => F7 n r bare) (replyT r bare) := by
  have h4 : 4 * r.2.1.length ≤ (putT r.2.1).length := by
    have : ∀ l : List Fld, 4 * l.length ≤ (putT l).length := by
      intro l
      induction l with
      | nil => exact Nat.zero_le _
      | cons f l ih => rw [show putT (f :: l) = put1 f ++ putT l from rfl, List.length_append, put1_len, List.length_cons]; omega
    exact this _
  exact ev_Put r bare (by omega) (fun f hf => by have := put_in _ _ hf; omega) (by omega) hb
theorem ev_Read (b : List Int) (hb : b.length ≤ 5000) (hB : Bytes b) : ∃ v, Ev (fun n => F11 n b false) v ∧ gotOk b v := by
  have hix : ∀ n, F22 n b [13, 10, 13, 10] = some (Lib.index (Lib.bytesOf b) (Lib.bytesOf [13, 10, 13, 10])) := by
    intro n
    rw [F22, if_pos ⟨by omega, by decide, by decide, all_bytes hB, by decide⟩]
  have hfit := index_fit (Lib.bytesOf b) (Lib.bytesOf [13, 10, 13, 10])
  rw [show (Lib.bytesOf [13, 10, 13, 10]).length = 4 from rfl, show (Lib.bytesOf b).length = b.length by unfold Lib.bytesOf; rw [List.length_map]] at hfit
  have hge := Lib.index_ge (Lib.bytesOf b) (Lib.bytesOf [13, 10, 13, 10])
  generalize Lib.index (Lib.bytesOf b) (Lib.bytesOf [13, 10, 13, 10]) = x at hix hfit hge
  by_cases hneg : x < 0
  · refine ⟨((0, [], []), 0, 10), Ev.pure.congr fun n => ?_, .inl rfl⟩
    rw [F11, hix, bind_some', decide_eq_false (by omega), iteB_f, decide_eq_true hneg, iteB_t, decide_eq_false (by omega), iteB_f, iteB_t]
  · have hfit := hfit (by omega)
    obtain ⟨m, rfl⟩ := Int.eq_ofNat_of_zero_le (show 0 ≤ x by omega)
    obtain ⟨v, e, q1, q2, q3, q4⟩ := ev_head ((b.take m).map toB) (by rw [List.length_map, List.length_take]; omega)
    have w4 : IntKind.wrap .i64 ((m : Int) + 4) = ((m + 4 : Nat) : Int) := by rw [w64 (by omega)]; omega
    have w5 : IntKind.wrap .i64 ((b.length : Int) - ((m + 4 : Nat) : Int)) = (b.length : Int) - ((m + 4 : Nat) : Int) := w64 (by omega)
    have w6 : IntKind.wrap .i64 (((m + 4 : Nat) : Int) + v.2.1) = ((m + 4 : Nat) : Int) + v.2.1 := w64 (by omega)
    have u : ∀ n, F11 n b false = (F23 n ((b.take m).map toB)).bind fun v24 => iteB (!v24.2.2) (some (((0 : Int), [], []), (0 : Int), (11 : Int))) (iteB (decide ((IntKind.wrap .i64 ((b.length : Int) - ((m + 4 : Nat) : Int))) < v24.2.1)) (some (((0 : Int), [], []), (0 : Int), (10 : Int))) (grd (0 ≤ ((m + 4 : Nat) : Int) ∧ ((m + 4 : Nat) : Int) ≤ (IntKind.wrap .i64 (((m + 4 : Nat) : Int) + v24.2.1)) ∧ (IntKind.wrap .i64 (((m + 4 : Nat) : Int) + v24.2.1)) ≤ (b.length : Int)) ((F24 n ((b.take (IntKind.wrap .i64 (((m + 4 : Nat) : Int) + v24.2.1)).toNat).drop (m + 4))).bind fun v31 => F11_J2 n b false v24 (IntKind.wrap .i64 (((m + 4 : Nat) : Int) + v24.2.1)) v31))) := by
      intro n
      rw [F11, hix, bind_some', decide_eq_false (by omega), iteB_f, decide_eq_false (by omega), iteB_f, iteB_f, grd_t _ (by omega), toNat_nat, w4]
      rfl
    obtain ⟨N1, e1⟩ := e
    cases h2 : v.2.2 with
    | false => exact ⟨((0, [], []), 0, 11), ⟨N1, fun n hn => by have q := e1 n hn; dsimp only at q; show F11 n b false = _; rw [u, q, bind_some', h2]; rfl⟩, .inr (.inl rfl)⟩
    | true =>
      by_cases hlt : (b.length : Int) - ((m + 4 : Nat) : Int) < v.2.1
      · exact ⟨((0, [], []), 0, 10), ⟨N1, fun n hn => by have q := e1 n hn; dsimp only at q; show F11 n b false = _; rw [u, q, bind_some', h2, Bool.not_true, iteB_f, w5, decide_eq_true hlt, iteB_t]⟩, .inl rfl⟩
      · generalize hd : (b.take (((m + 4 : Nat) : Int) + v.2.1).toNat).drop (m + 4) = body
        have hbl : body.length ≤ 5000 := by rw [← hd, List.length_drop, List.length_take]; omega
        obtain ⟨N2, e2⟩ := ev_Put6 (v.1.1, v.1.2.1, body) false q3 q4 (by show body.length ≤ 100000; omega)
        have u2 : ∀ n, N1 + N2 ≤ n → F11 n b false = iteB (!((replyT (v.1.1, v.1.2.1, body) false).map toB == (b.take (((m + 4 : Nat) : Int) + v.2.1).toNat).map toB)) (some (((0 : Int), [], []), (0 : Int), (11 : Int))) (some ((v.1.1, v.1.2.1, body), ((m + 4 : Nat) : Int) + v.2.1, (0 : Int))) := by
          intro n hn
          have p1 := e1 n (by omega)
          have p2 := e2 n (by omega)
          dsimp only at p1 p2
          rw [u, p1, bind_some', h2, Bool.not_true, iteB_f, w5, decide_eq_false hlt, iteB_f, w6, grd_t _ (by omega), hd, F24, if_pos (by omega), bind_some', F11_J2, p2, bind_some', grd_t _ (by omega), F25, bind_some']
          rfl
        cases hq : ((replyT (v.1.1, v.1.2.1, body) false).map toB == (b.take (((m + 4 : Nat) : Int) + v.2.1).toNat).map toB) with
        | false => exact ⟨((0, [], []), 0, 11), ⟨N1 + N2, fun n hn => by show F11 n b false = _; rw [u2 n hn, hq]; rfl⟩, .inr (.inl rfl)⟩
        | true => exact ⟨((v.1.1, v.1.2.1, body), ((m + 4 : Nat) : Int) + v.2.1, 0), ⟨N1 + N2, fun n hn => by show F11 n b false = _; rw [u2 n hn, hq]; rfl⟩, .inr (.inr ⟨rfl, by show (4 : Int) ≤ ((m + 4 : Nat) : Int) + v.2.1; omega, by show ((m + 4 : Nat) : Int) + v.2.1 ≤ (b.length : Int); omega, beq_iff_eq.1 hq, q3, q4, by show body.length ≤ 100000; omega⟩)⟩
theorem reply_nil {r : Resp} (h : replyT r false ≠ []) : reasonT r.1 ≠ [] := by
  intro e
  apply h
  unfold replyT
  rw [if_pos e]
theorem ev_JR (b : List Int) (hb : b.length ≤ 5000) (hB : Bytes b) : Ev (fun n => F5_J1 n b) true := by
  obtain ⟨v, ⟨N1, e1⟩, hv⟩ := ev_Read b hb hB
  have h200 : ∀ n, F9 n 200 = some ([79, 75] : List UInt8) := fun n => by rw [Reason_eq]; rfl
  rcases hv with rfl | rfl | ⟨h0, h4, hlen, heq, q3, q4, q5⟩
  · refine ⟨N1, fun n hn => ?_⟩
    have q1 := e1 n hn
    dsimp only at q1
    show F5_J1 n b = _
    rw [F5_J1, q1, bind_some']
    simp [h200, bind_some', iteB_t, iteB_f]
  · refine ⟨N1, fun n hn => ?_⟩
    have q1 := e1 n hn
    dsimp only at q1
    show F5_J1 n b = _
    rw [F5_J1, q1, bind_some']
    simp [h200, bind_some', iteB_t, iteB_f]
  · obtain ⟨N2, e2⟩ := ev_Put6 v.1 false q3 q4 q5
    have hr : reasonT v.1.1 ≠ [] := reply_nil (by
      intro e
      rw [e] at heq
      have := congrArg List.length heq
      rw [List.map_nil, List.length_nil, List.length_map, List.length_take] at this
      omega)
    refine ⟨N1 + N2, fun n hn => ?_⟩
    have q1 := e1 n (by omega)
    have q2 := e2 n (by omega)
    dsimp only at q1 q2
    show F5_J1 n b = _
    rw [F5_J1, q1, bind_some', show (v.2.2 != (0 : Int)) = false by rw [h0]; rfl, iteB_f, decide_eq_true hlen, iteB_t]
    show (F7 n v.1 false).bind _ = _
    rw [q2, bind_some', grd_t _ (by omega), heq, beq_self_eq_true, iteB_t, Reason_eq, bind_some', show (reasonT v.1.1 == []) = false from beq_eq_false_iff_ne.2 hr]
    rfl
theorem law_main (v0 : List Int) (h0 : okT23 v0) : ∃ n, F5 n v0 = some true := by
  have hB : Bytes v0 := fun x hx => h0.2 x hx
  have key : Ev (fun n => F5 n v0) true := by
    by_cases h : (5000 : Int) < (v0.length : Int)
    · refine (ev_JR (v0.take 5000) (by rw [List.length_take]; omega) (hB.take 5000)).congr fun n => ?_
      rw [F5, decide_eq_true h, iteB_t, grd_t _ (by omega)]
    · refine (ev_JR v0 (by omega) hB).congr fun n => ?_
      rw [F5, decide_eq_false h, iteB_f]
  obtain ⟨N, h⟩ := key
  exact ⟨N, h N (Nat.le_refl _)⟩
end Go.Proofs.YtdjgldjebcoihaaDoorX

/- Rows whose functions read a library's variables: the world's shape is kept. Of no program. -/
set_option linter.unusedVariables false
set_option linter.unusedSimpArgs false
namespace Go.Proofs.YtdjgldjebcoihaaDoorX
open Go Go.RowKit
theorem handed_and_shaped {H : Type} {enc : TypeId × Value → H} {a : Assume} {C : Checked} {os : Os} {f : FuncId} {fn : Func} {s : ChangeSpec} {conds : List PathCond} {apart fresh handsOn again : Bool} {X : World → Array Value → Prop}
    (hX : ∀ (w w' : World) (args : Array Value), w.heap = w'.heap → X w args → X w' args)
    (own : ownKnob C.prog.godebug = none) (started : os.Started) (noInit : C.prog.inits.idxOf? f = none) (hfn : C.prog.funcs[f]? = some fn)
    (witness : ∃ (w : World) (tape : Tape) (i : Input), w.os = os ∧ (w.forCall tape i).Shaped C.prog ∧ i.vars = [] ∧ Input.okWide C.prog (w.forCall tape i) .any w.heap.size f i ∧
      ((s.pre enc C.prog fn conds apart (w.forCall tape i).memory i.args ∧ X (w.forCall tape i).memory i.args) ∧ sizedMet enc C.prog fn (OpenSpec.ofChange s) apart (w.forCall tape i).memory i.args) ∧ a.holds C.prog (lone (Frame.enter C.prog f i.args .normal) [] (w.forCall tape i)))
    (contract : ∀ (W : World) (base : Nat) (args : Array Value) (ds gs : List (DataW H)) (before : List MemPlace),
      (∀ (j : Nat) t v, fn.params[j]? = some t → args[j]? = some v → Value.okWide C.prog W .any base t v) →
      DataW.Whole enc C.prog fn.params.toList s.vars apart W args.toList ds gs before →
      conds.all (PathCond.test C.prog ⟨fn.params.toList, ds, s.plain.varTypes C.prog, gs⟩) = true →
      (DataW.weightsEach C.prog (fn.params.toList ++ s.plain.varTypes C.prog) (ds ++ gs)).all (· ≤ reachBytes) = true → X W args → W.ShapedOpen C.prog →
      a.holds C.prog (lone (Frame.enter C.prog f args .normal) [] W) →
      Calls C.prog f args W fun e W' => ∃ v, e = .returned v ∧ s.post enc C.prog fn apart fresh handsOn again W args v W') :
    ReturnsInHanded a C os f .any (fun w args => (s.pre enc C.prog fn conds apart w args ∧ X w args) ∧ sizedMet enc C.prog fn (OpenSpec.ofChange s) apart w args) (s.post enc C.prog fn apart fresh handsOn again) := by
  refine returnsInHanded_of_calls own started noInit witness ?_
  intro w tape i _ hsh _ hok hpre hholds
  obtain ⟨_, _, _, fn', hfn', _, _, _, _, hval⟩ := hok
  have e : fn' = fn := Option.some.inj (hfn'.symm.trans hfn)
  subst e
  obtain ⟨⟨⟨ds, gs, before, hw, hc⟩, hx⟩, hz⟩ := hpre
  have hw' := DataW.Whole.of_heap (w' := w.forCall tape i) (by rfl) hw
  refine (contract (w.forCall tape i) w.heap.size i.args ds gs before hval hw' hc (hz.weights hw) (hX _ _ _ (by rfl) hx) hsh hholds).mono fun e W' ⟨v, he, hp⟩ => ?_
  subst he
  exact ChangeSpec.post_blind hp
end Go.Proofs.YtdjgldjebcoihaaDoorX

set_option linter.unusedVariables false
namespace Go.Proofs.YtdjgldjebcoihaaDoorX
open Go Go.RowKit Go.Proofs
set_option maxRecDepth 100000
theorem shapedRow (xs : List T) (h : ShapesW Tryd.prog [23] xs) : FnC Tryd.prog 5 xs (tb true) := shapedReplyReads law_main xs h
end Go.Proofs.YtdjgldjebcoihaaDoorX
namespace Go.Proofs.YtdjgldjebcoihaaDoor.replyReads
open Go.ChangeShapes Go.WideShapes Go.ChangeAt Go.RowKit
set_option linter.unusedVariables false
theorem own : ownKnob Tryd.prog.godebug = none := by kernel_rfl
set_option maxRecDepth 100000 in
theorem lifted (os : Os) (started : os.Started) (H : Type) (enc : TypeId × Value → H) :
    ReturnsInHanded {} Tryd.checked os 5 .any (fun w args => (Rows.replyReadsSpec.pre enc Tryd.prog Tryd.f5 [] false w args ∧ laidMetH Tryd.prog Rows.replyReadsRow.laid w) ∧ sizedMet enc Tryd.prog Tryd.f5 (OpenSpec.ofChange Rows.replyReadsSpec) false w args) (Rows.replyReadsSpec.post enc Tryd.prog Tryd.f5 false true false false) := by
  refine YtdjgldjebcoihaaDoorX.handed_and_shaped (C := Tryd.checked) (X := fun w _ => laidMetH Tryd.prog Rows.replyReadsRow.laid w) (fun _ _ _ hh h => h.of_heap hh) own started (by kernel_rfl) Tryd.func5
    (ChangeSpec.witness_shaped (enc := enc) (C := Tryd.checked) (os := os) (X := fun w _ => laidMetH Tryd.prog Rows.replyReadsRow.laid w) false (World.laidAll Tryd.prog os Rows.replyReadsRow.laid) #[.slice none 0 0] 8 (World.laidAll_os _ _ _)
      (World.shaped_of_ZipB (by kernel_rfl) (by kernel_rfl)) (by kernel_rfl) (by kernel_rfl) (by kernel_rfl)
      (by rw [MakeChecks.laidMetH_plain _ _ _ (by kernel_rfl)]; exact laidMet_laidAll _ (by kernel_rfl) (by kernel_rfl))) ?_
  intro W base args ds gs before hval0 hW _ _ hL hsh _
  exact YtdjgldjebcoihaaDoorX.row_contract (P := Tryd.prog) (fn := Tryd.f5) (s := Rows.replyReadsSpec) (ts := [23]) (tb := 4) (L := [23, 5]) (by kernel_rfl) (by kernel_rfl) (by kernel_rfl) (by kernel_rfl) (by kernel_rfl) (by kernel_rfl) rfl
    (fun H ds h => by
      match ds, h with
      | [d0], _ => rfl) YtdjgldjebcoihaaDoorX.shapedRow W (fun g hg => by
    have e : g = 0 := by simpa [YtdjgldjebcoihaaDoorX.globsI] using hg
    subst e
    exact cell_of_shapedOpen_int (P := Tryd.prog) (g := 0) (t := 3) (zero := #[.int .i64 0]) hsh (of_decide_eq_true (by kernel_rfl)) (by kernel_rfl) rfl (by kernel_rfl) (by kernel_rfl) Tryd.underlying3) base args ds gs before hval0 hW
theorem over : Rows.replyReadsRow.holds Tryd.pinned (OpenSpec.ofChange Rows.replyReadsSpec) :=
  OpenClaim.holds_of_wide 5 Tryd.f5 rfl rfl rfl rfl rfl rfl rfl ⟨rfl, rfl, rfl, rfl, rfl⟩ rfl rfl rfl rfl rfl (by kernel_rfl) Tryd.func5 (by kernel_rfl)
    (of_decide_eq_true (by kernel_rfl)) (by unfold Func.isWrapper; first | (rw [if_pos (by decide +kernel)]; kernel_rfl) | (rw [if_neg (by decide +kernel)]; exact ⟨rfl, rfl⟩))
    (fun os started H enc _ => lifted os started H enc)
theorem proved : Rows.ReplyReadsCardSaid :=
  Claim7.holds_tied_plain_at .later [] [.data, .data, .data, .pinned, .pinned] true (true, "9f903d9744eead5d891a575418bd49f4fe7da4948cfcbb1d1a1f46a6d277e3c8") false
    over (fun _ h => by cases h) (by kernel_rfl) (fun _ h => by cases h) replyReads_row_tie rfl ⟨rfl, rfl⟩ (by kernel_rfl) rfl
    (fun f fn hf hfn => by
      obtain rfl : f = 5 := Option.some.inj ((show Tryd.prog.funcNamed "shadowbox/shadowboxlaw43.ReplyReads" = some 5 by kernel_rfl).symm.trans hf) |>.symm
      obtain rfl : fn = Tryd.f5 := (Option.some.inj (Tryd.func5.symm.trans hfn)).symm
      exact ⟨by kernel_rfl, fun j t ht => by
        rw [Tryd.params5] at ht
        have hm : t ∈ [23] := by simpa using Array.mem_of_getElem? ht
        have hall : ([23].all fun u => !Tryd.prog.wantsStandIn u) = true := by kernel_rfl
        exact (show Tryd.prog.wantsStandIn t = false by simpa using List.all_eq_true.1 hall t hm)⟩)
    (by kernel_rfl)
#print axioms proved
end Go.Proofs.YtdjgldjebcoihaaDoor.replyReads
namespace Go.Proofs.YtdjgldjebcoihaaDoor
theorem replyReads_holds : Rows.ReplyReadsCardSaid := replyReads.proved
end Go.Proofs.YtdjgldjebcoihaaDoor
