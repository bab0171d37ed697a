/- Part of the proof of QueryBack: walks and plain words, merged. -/
import Derived.Test.YtdaojihnaajfeaaDoorBQueryBackc
import Derived.Test.YtdaojihnaajfeaaDoorBQueryBackb
import Derived.Lib.Replace
import Derived.Laws.AppendOwn
import Derived.Handed
import Derived.Shelf.Vars
import Derived.Test.YtdaojihnaajfeaaDoorRows
import Derived.Test.YtdaojihnaajfeaaDoorCards
import Derived.Test.YtdaojihnaajfeaaDoorTie
import Derived.Test.YtdaojihnaajfeaaDoorChecked
import Derived.WalkKit
import Derived.HandedShaped
import Derived.ProofKit
import Derived.OpenShut
import Derived.Lay
import Derived.LaidMore
import Derived.LaidOnce
import Derived.SevenTiedAt
set_option linter.unusedVariables false
set_option linter.unusedSimpArgs false

set_option linter.unusedVariables false
set_option linter.unusedSimpArgs false
namespace Go.Proofs.YtdaojihnaajfeaaDoorX
open Go Go.RowKit Go.Proofs
set_option maxRecDepth 100000
attribute [local go_sem ↓] stepsK_build stepsK_bs appendS
attribute [local go_sem] String.reduceEq String.reduceNe reduceCtorEq Int.reduceEq Nat.reduceAdd Nat.reduceSub Nat.reduceMul Nat.reduceLT Nat.reduceLeDiff Nat.reduceEqDiff Nat.reduceBEq Int.reduceToNat Int.reduceLT Int.reduceLE Int.reduceGT Int.reduceGE Int.reduceAdd Int.reduceSub Int.reduceMul Int.reduceNeg Int.reduceBEq Int.reduceBNe Int.reducePow Int.reduceDiv Int.reduceMod Int.reduceTDiv Int.reduceTMod Int.reduceNatCast
/-! ### query.Canon -/
def F10_S3 (x2 : List ((List UInt8) × (List UInt8))) (x9 : Int) (v8 : List ((List UInt8) × (List UInt8))) (x17 : Bool) (x18 : List (Int)) : St := ⟨[.junk, .junk, .junk, .junk, .junk, .junk, .ref 1 0 0 0, .junk, .ref 3 0 0 0, .junk, .junk, .junk, .junk, .junk, .junk, .junk, .junk, .junk, .junk, .junk, .junk, .junk, .junk, .junk, .junk, .junk, .junk, .junk, .rsl 0 2 0 x2.length, .imm (.int .i64 (x2.length : Int)), .imm (.int .i64 x9), .junk, .junk, .junk, .junk, .junk, .junk, .junk, .junk, .junk, .junk, .junk, .junk, .junk, .junk, .junk, .junk], [some (.buf 30 2 (List.map eT28 v8) 0), some (.box 61 (.agg [adT x17 1, .rsl 2 1 0 x18.length]) false), some (.buf 5 1 (List.map byteT x18) 0), some (.box 30 (.agg [.imm (.string (bs ((v8.getD x9.toNat default).1))), .imm (.string (bs ((v8.getD x9.toNat default).2)))]) false)]⟩
def F10_S2 (x2 : List ((List UInt8) × (List UInt8))) (v8 : List ((List UInt8) × (List UInt8))) (x9 : Int) (x10 : Bool) (x11 : List (Int)) : St := ⟨[.junk, .junk, .junk, .junk, .junk, .junk, .ref 1 0 0 0, .junk, .junk, .junk, .junk, .junk, .junk, .junk, .junk, .junk, .junk, .junk, .junk, .junk, .junk, .junk, .junk, .junk, .junk, .junk, .junk, .junk, .rsl 0 2 0 x2.length, .imm (.int .i64 (x2.length : Int)), .imm (.int .i64 x9), .junk, .junk, .junk, .junk, .junk, .junk, .junk, .junk, .junk, .junk, .junk, .junk, .junk, .junk, .junk, .junk], [some (.buf 30 2 (List.map eT28 v8) 0), some (.box 61 (.agg [adT x10 1, .rsl 2 1 0 x11.length]) false), some (.buf 5 1 (List.map byteT x11) 0)]⟩
def F10_S1 (a0 : List ((List UInt8) × (List UInt8))) (x1 : Int) (x2 : List ((List UInt8) × (List UInt8))) : St := ⟨[.junk, .junk, .junk, .rsl 0 2 0 x2.length, .junk, .junk, .junk, .junk, .junk, .sl 2 false (List.map eT28 a0), .imm (.int .i64 (a0.length : Int)), .imm (.int .i64 x1), .junk, .junk, .junk, .junk, .junk, .junk, .junk, .junk, .junk, .junk, .junk, .junk, .junk, .junk, .junk, .junk, .junk, .junk, .junk, .junk, .junk, .junk, .junk, .junk, .junk, .junk, .junk, .junk, .junk, .junk, .junk, .junk, .junk, .junk, .junk], [some (.buf 30 2 (List.map eT28 x2) 0)]⟩
mutual
def F10_J3 (m2 : Nat) (x2 : List ((List UInt8) × (List UInt8))) (x9 : Int) (v8 : List ((List UInt8) × (List UInt8))) (x17 : Bool) (x18 : List (Int)) : Option (List UInt8) := grd (((v8.getD x9.toNat default).1).length + 1 ≤ 9223372036854775807) (grd ((((v8.getD x9.toNat default).1).length + 1) + ((v8.getD x9.toNat default).2).length ≤ 9223372036854775807) ((F21 m2 (x17, x18) ((((v8.getD x9.toNat default).1) ++ ([61] : List UInt8)) ++ ((v8.getD x9.toNat default).2))).bind fun v21 => F10_L2 m2 x2 v8 (IntKind.wrap .i64 (x9 + (1 : Int))) v21.2.2.1 v21.2.2.2))
def F10_L2 : Nat → (List ((List UInt8) × (List UInt8))) → (List ((List UInt8) × (List UInt8))) → (Int) → (Bool) → (List (Int)) → Option (List UInt8)
 | 0, _, _, _, _, _ => none
 | m2 + 1, x2, v8, x9, x10, x11 => iteB (decide (x9 < (x2.length : Int))) (grd (0 ≤ x9 ∧ x9 < (x2.length : Int)) (grd (x9.toNat < v8.length) (iteB (decide ((0 : Int) < x9)) ((F21 m2 (x10, x11) ([38] : List UInt8)).bind fun v16 => F10_J3 m2 x2 x9 v8 v16.2.2.1 v16.2.2.2) (F10_J3 m2 x2 x9 v8 x10 x11)))) ((F22 m2 (x10, x11)).bind fun v22 => some v22.1)
def F10_L1 : Nat → (List ((List UInt8) × (List UInt8))) → (Int) → (List ((List UInt8) × (List UInt8))) → Option (List UInt8)
 | 0, _, _, _ => none
 | m1 + 1, a0, x1, x2 => iteB (decide (x1 < (a0.length : Int))) (grd (0 ≤ x1 ∧ x1 < (a0.length : Int)) ((F17 m1 ((a0.getD x1.toNat default).1) false).bind fun v5 => (F17 m1 ((a0.getD x1.toNat default).2) false).bind fun v6 => grd ((x2.length + 1) ≤ 549755813888) (F10_L1 m1 a0 (IntKind.wrap .i64 (x1 + (1 : Int))) (x2 ++ [(v5, v6)])))) ((F18 m1 x2).bind fun v8 => F10_L2 m1 x2 v8 (0 : Int) false [])
end
def F10 (n : Nat) (a0 : List ((List UInt8) × (List UInt8))) : Option (List UInt8) := F10_L1 n a0 (0 : Int) []
set_option maxHeartbeats 4000000 in
theorem F10_ok : ∀ (n : Nat) (a0 : List ((List UInt8) × (List UInt8))) (r : List UInt8), F10 n a0 = some r → FnC Tryd.prog 10 [.sl 2 false (List.map eT28 a0)] (.imm (.string (bs r)))
 | n, a0, r, h => by
  unfold F10 at h
  refine FnC.goX mixed Tryd.func10 (by kernel_rfl) rfl ?_
  simp only [Tryd.ntmps10, List.length_cons, List.length_nil, List.replicate, List.cons_append, List.nil_append, Nat.reduceAdd, Nat.reduceSub]
  refine runX_seq ?_
  refine runX_regionC fun C hC => ?_
  try simp -implicitDefEqProofs (maxSteps := 4000000) (disch := first | omega | decide | (simp only [go_sem]; omega)) only [go_sem, ↓reduceIte]
  repeat (with_reducible refine And.intro (by first | assumption | omega | (simp; done) | (simp; omega)) ?_)
  refine toEnd hC ?_
  refine endX_seq ?_
  refine runX_seq ?_
  refine runX_regionC fun C hC => ?_
  try simp -implicitDefEqProofs (maxSteps := 4000000) (disch := first | omega | decide | (simp only [go_sem]; omega)) only [go_sem, ↓reduceIte]
  repeat (with_reducible refine And.intro (by first | assumption | omega | (simp; done) | (simp; omega)) ?_)
  refine toEnd hC ?_
  refine endX_seq ?_
  refine runX_seq ?_
  refine runX_seq ?_
  refine runX_regionC fun C hC => ?_
  try simp -implicitDefEqProofs (maxSteps := 4000000) (disch := first | omega | decide | (simp only [go_sem]; omega)) only [go_sem, ↓reduceIte]
  repeat (with_reducible refine And.intro (by first | assumption | omega | (simp; done) | (simp; omega)) ?_)
  refine toEnd hC ?_
  refine endX_seq ?_
  refine runX_block ?_
  refine runX_loop [3, 9, 10, 11] (fun m S => ∃ (x1 : Int) (x2 : List ((List UInt8) × (List UInt8))), S = F10_S1 a0 x1 x2 ∧ m ≤ n ∧ F10_L1 m a0 x1 x2 = some r) n ⟨F10_S1 a0 (0 : Int) [], ?_, (0 : Int), [], rfl, Nat.le_refl _, h⟩ ?_
  ·(try simp -implicitDefEqProofs (maxSteps := 4000000) (disch := first | omega | decide | (simp only [go_sem]; omega)) only [go_sem, ↓reduceIte])
   simp only [F10_S1]
   refine leS_trans (leS_pad _ _ 1) ?_
   simp only [List.replicate, List.cons_append, List.nil_append]
   refine leS_virt 0 30 2 rfl ?_ ?_ rfl
   ·repeat (first | exact leL_refl _ | refine leL_cons (by first | exact leT_refl _ | exact leT_virt | exact leT_junk _ | exact leT_sl | exact leT_sln | exact leT_nil | (refine leT_agg (by repeat (first | exact leL_refl _ | refine leL_cons (by first | exact leT_refl _ | exact leT_sl | exact leT_sln | exact leT_nil) ?_)))) ?_)
   ·repeat (first | exact leOs_refl _ | refine leOs.cons (by first | exact leO.same _ | (refine leO.box (leT_agg (by repeat (first | exact leL_refl _ | refine leL_cons (by first | exact leT_refl _ | exact leT_virt | exact leT_junk _ | exact leT_sl | exact leT_sln | exact leT_nil | (refine leT_agg (by repeat (first | exact leL_refl _ | refine leL_cons (by first | exact leT_refl _ | exact leT_sl | exact leT_sln | exact leT_nil) ?_)))) ?_))) rfl) | (refine leO.box (by first | exact leT_virt | exact leT_sl | exact leT_sln) rfl)) ?_)
  ·clear h
   rintro m1 S ⟨x1, x2, rfl, hm1, h⟩
   cases m1 with
   | zero => first | cases (show (none : Option _) = some _ from h) | (rw [F10_L1] at h; cases h)
   | succ m1 =>
    rw [F10_L1] at h
    simp only [F10_S1]
    refine runX_seq ?_
    refine runX_regionC fun C hC => ?_
    try simp -implicitDefEqProofs (maxSteps := 4000000) (disch := first | omega | decide | (simp only [go_sem]; omega)) only [go_sem, ↓reduceIte]
    repeat (with_reducible refine And.intro (by first | assumption | omega | (simp; done) | (simp; omega)) ?_)
    refine toEnd hC ?_
    refine endX_seq ?_
    refine runX_seq ?_
    rcases iteB_some h with ⟨c3, h⟩ | ⟨c3, h⟩
    ·refine runX_condT rfl c3 ?_
     refine runX_skip ?_
     refine endX_seq ?_
     refine runX_seq ?_
     refine runX_block ?_
     refine runX_seq ?_
     refine runX_regionC fun C hC => ?_
     obtain ⟨g4, h⟩ := grd_some h
     try simp -implicitDefEqProofs (maxSteps := 4000000) (disch := first | omega | decide | (simp only [go_sem]; omega)) only [go_sem, ↓reduceIte]
     repeat (with_reducible refine And.intro (by first | assumption | omega | (simp; done) | (simp; omega)) ?_)
     refine toEnd hC ?_
     refine endX_seq ?_
     refine runX_drawC mixed (by kernel_rfl) fun C hC => ?_
     obtain ⟨v5, h5, h⟩ := bnd_some h
     try simp -implicitDefEqProofs (maxSteps := 4000000) (disch := first | omega | decide | (simp only [go_sem]; omega)) only [go_sem, ↓reduceIte]
     repeat (with_reducible refine And.intro (by first | assumption | omega | (simp; done) | (simp; omega)) ?_)
     refine callD_X (F17_ok m1 ((a0.getD x1.toNat default).1) false _ h5) (by repeat (first | exact leL_refl _ | refine leL_cons (by first | exact leT_refl _ | exact leT_virt | exact leT_junk _ | exact leT_sl | exact leT_sln | exact leT_nil | (refine leT_agg (by repeat (first | exact leL_refl _ | refine leL_cons (by first | exact leT_refl _ | exact leT_sl | exact leT_sln | exact leT_nil) ?_)))) ?_)) ?_
     obtain ⟨v6, h6, h⟩ := bnd_some h
     try simp -implicitDefEqProofs (maxSteps := 4000000) (disch := first | omega | decide | (simp only [go_sem]; omega)) only [go_sem, ↓reduceIte]
     repeat (with_reducible refine And.intro (by first | assumption | omega | (simp; done) | (simp; omega)) ?_)
     refine callD_X (F17_ok m1 ((a0.getD x1.toNat default).2) false _ h6) (by repeat (first | exact leL_refl _ | refine leL_cons (by first | exact leT_refl _ | exact leT_virt | exact leT_junk _ | exact leT_sl | exact leT_sln | exact leT_nil | (refine leT_agg (by repeat (first | exact leL_refl _ | refine leL_cons (by first | exact leT_refl _ | exact leT_sl | exact leT_sln | exact leT_nil) ?_)))) ?_)) ?_
     try simp -implicitDefEqProofs (maxSteps := 4000000) (disch := first | omega | decide | (simp only [go_sem]; omega)) only [go_sem, ↓reduceIte]
     repeat (with_reducible refine And.intro (by first | assumption | omega | (simp; done) | (simp; omega)) ?_)
     refine buildW_of [.imm (.string (bs v5)), .imm (.string (bs v6))] (by kernel_rfl) ?_
     try simp -implicitDefEqProofs (maxSteps := 4000000) (disch := first | omega | decide | (simp only [go_sem]; omega)) only [go_sem, ↓reduceIte]
     repeat (with_reducible refine And.intro (by first | assumption | omega | (simp; done) | (simp; omega)) ?_)
     refine buildX_val ?_
     obtain ⟨g7, h⟩ := grd_some h
     try simp -implicitDefEqProofs (maxSteps := 4000000) (disch := first | omega | decide | (simp only [go_sem]; omega)) only [go_sem, ↓reduceIte]
     repeat (with_reducible refine And.intro (by first | assumption | omega | (simp; done) | (simp; omega)) ?_)
     refine toEnd hC ?_
     refine endX_blk ?_
     refine endX_seq ?_
     refine runX_regionC fun C hC => ?_
     try simp -implicitDefEqProofs (maxSteps := 4000000) (disch := first | omega | decide | (simp only [go_sem]; omega)) only [go_sem, ↓reduceIte]
     repeat (with_reducible refine And.intro (by first | assumption | omega | (simp; done) | (simp; omega)) ?_)
     refine toEnd hC ?_
     refine endX_q (roundQ_normal ⟨m1, by omega, F10_S1 a0 (IntKind.wrap .i64 (x1 + (1 : Int))) (x2 ++ [(v5, v6)]), ?_, (IntKind.wrap .i64 (x1 + (1 : Int))), (x2 ++ [(v5, v6)]), rfl, by omega, h⟩)
     simp only [F10_S1]
     (try simp -implicitDefEqProofs (maxSteps := 4000000) (disch := first | omega | decide | (simp only [go_sem]; omega)) only [go_sem, ↓reduceIte])
     first | exact leS_refl _ | (refine leS_le ?_ ?_ <;> first | exact leL_refl _ | exact leOs_refl _ | (simp only [List.append_assoc, List.cons_append, List.nil_append]; exact leOs_refl _) | (refine leOs.cons (by first | exact leO.same _ | (refine leO.box (leT_agg (by repeat (first | exact leL_refl _ | refine leL_cons (by first | exact leT_refl _ | exact leT_virt | exact leT_junk _ | exact leT_sl | exact leT_sln | exact leT_nil | (refine leT_agg (by repeat (first | exact leL_refl _ | refine leL_cons (by first | exact leT_refl _ | exact leT_sl | exact leT_sln | exact leT_nil) ?_)))) ?_))) rfl) | (refine leO.box (by first | exact leT_virt | exact leT_sl | exact leT_sln) rfl)) ?_; repeat (first | exact leOs_refl _ | refine leOs.cons (by first | exact leO.same _ | (refine leO.box (leT_agg (by repeat (first | exact leL_refl _ | refine leL_cons (by first | exact leT_refl _ | exact leT_virt | exact leT_junk _ | exact leT_sl | exact leT_sln | exact leT_nil | (refine leT_agg (by repeat (first | exact leL_refl _ | refine leL_cons (by first | exact leT_refl _ | exact leT_sl | exact leT_sln | exact leT_nil) ?_)))) ?_))) rfl) | (refine leO.box (by first | exact leT_virt | exact leT_sl | exact leT_sln) rfl)) ?_)) | (repeat (first | exact leL_refl _ | refine leL_cons (by first | exact leT_refl _ | exact leT_virt | exact leT_junk _ | exact leT_sl | exact leT_sln | exact leT_nil | (refine leT_agg (by repeat (first | exact leL_refl _ | refine leL_cons (by first | exact leT_refl _ | exact leT_sl | exact leT_sln | exact leT_nil) ?_)))) ?_)))
    ·refine runX_condF rfl c3 ?_
     refine runX_exit ?_
     refine endX_seqE ?_
     refine endX_q (roundQ_exit ?_)
     refine endX_blkE ?_
     refine endX_seq ?_
     refine runX_seq ?_
     refine runX_regionN fun C hC => ?_
     obtain ⟨v8, h8, h⟩ := bnd_some h
     try simp -implicitDefEqProofs (maxSteps := 4000000) (disch := first | omega | decide | (simp only [go_sem]; omega)) only [go_sem, ↓reduceIte]
     repeat (with_reducible refine And.intro (by first | assumption | omega | (simp; done) | (simp; omega)) ?_)
     refine callI_X 0 30 2 _ _ x2.length (by simp) rfl (F18_ok m1 x2 _ h8) (by first | rfl | (simp; done)) ?_
     try simp -implicitDefEqProofs (maxSteps := 4000000) (disch := first | omega | decide | (simp only [go_sem]; omega)) only [go_sem, ↓reduceIte]
     repeat (with_reducible refine And.intro (by first | assumption | omega | (simp; done) | (simp; omega)) ?_)
     refine toEnd hC ?_
     refine endX_seq ?_
     refine runX_seq ?_
     refine runX_regionC fun C hC => ?_
     try simp -implicitDefEqProofs (maxSteps := 4000000) (disch := first | omega | decide | (simp only [go_sem]; omega)) only [go_sem, ↓reduceIte]
     repeat (with_reducible refine And.intro (by first | assumption | omega | (simp; done) | (simp; omega)) ?_)
     refine toEnd hC ?_
     refine endX_seq ?_
     refine runX_seq ?_
     refine runX_seq ?_
     refine runX_regionC fun C hC => ?_
     try simp -implicitDefEqProofs (maxSteps := 4000000) (disch := first | omega | decide | (simp only [go_sem]; omega)) only [go_sem, ↓reduceIte]
     repeat (with_reducible refine And.intro (by first | assumption | omega | (simp; done) | (simp; omega)) ?_)
     refine toEnd hC ?_
     refine endX_seq ?_
     refine runX_block ?_
     refine runX_loop [6, 28, 29, 30] (fun m S => ∃ (x9 : Int) (x10 : Bool) (x11 : List (Int)), S = F10_S2 x2 v8 x9 x10 x11 ∧ m ≤ m1 ∧ F10_L2 m x2 v8 x9 x10 x11 = some r) m1 ⟨F10_S2 x2 v8 (0 : Int) false [], ?_, (0 : Int), false, [], rfl, Nat.le_refl _, h⟩ ?_
     ·(try simp -implicitDefEqProofs (maxSteps := 4000000) (disch := first | omega | decide | (simp only [go_sem]; omega)) only [go_sem, ↓reduceIte])
      simp only [F10_S2]
      refine leS_trans (leS_pad _ _ 1) ?_
      simp only [List.replicate, List.cons_append, List.nil_append]
      refine leS_virt 2 5 1 rfl ?_ ?_ rfl
      ·repeat (first | exact leL_refl _ | refine leL_cons (by first | exact leT_refl _ | exact leT_virt | exact leT_junk _ | exact leT_sl | exact leT_sln | exact leT_nil | (refine leT_agg (by repeat (first | exact leL_refl _ | refine leL_cons (by first | exact leT_refl _ | exact leT_sl | exact leT_sln | exact leT_nil) ?_)))) ?_)
      ·repeat (first | exact leOs_refl _ | refine leOs.cons (by first | exact leO.same _ | (refine leO.box (leT_agg (by repeat (first | exact leL_refl _ | refine leL_cons (by first | exact leT_refl _ | exact leT_virt | exact leT_junk _ | exact leT_sl | exact leT_sln | exact leT_nil | (refine leT_agg (by repeat (first | exact leL_refl _ | refine leL_cons (by first | exact leT_refl _ | exact leT_sl | exact leT_sln | exact leT_nil) ?_)))) ?_))) rfl) | (refine leO.box (by first | exact leT_virt | exact leT_sl | exact leT_sln) rfl)) ?_)
     ·clear h
      rintro m2 S ⟨x9, x10, x11, rfl, hm2, h⟩
      cases m2 with
      | zero => first | cases (show (none : Option _) = some _ from h) | (rw [F10_L2] at h; cases h)
      | succ m2 =>
       rw [F10_L2] at h
       simp only [F10_S2]
       refine runX_seq ?_
       refine runX_regionC fun C hC => ?_
       try simp -implicitDefEqProofs (maxSteps := 4000000) (disch := first | omega | decide | (simp only [go_sem]; omega)) only [go_sem, ↓reduceIte]
       repeat (with_reducible refine And.intro (by first | assumption | omega | (simp; done) | (simp; omega)) ?_)
       refine toEnd hC ?_
       refine endX_seq ?_
       refine runX_seq ?_
       rcases iteB_some h with ⟨c12, h⟩ | ⟨c12, h⟩
       ·refine runX_condT rfl c12 ?_
        refine runX_skip ?_
        refine endX_seq ?_
        refine runX_seq ?_
        refine runX_block ?_
        refine runX_seq ?_
        refine runX_regionC fun C hC => ?_
        obtain ⟨g13, h⟩ := grd_some h
        obtain ⟨g14, h⟩ := grd_some h
        try simp -implicitDefEqProofs (maxSteps := 4000000) (disch := first | omega | decide | (simp only [go_sem]; omega)) only [go_sem, ↓reduceIte]
        repeat (with_reducible refine And.intro (by first | assumption | omega | (simp; done) | (simp; omega)) ?_)
        refine toEnd hC ?_
        refine endX_seq ?_
        refine runX_meet [6, 8, 28, 29, 30] (fun S => ∃ (x17 : Bool) (x18 : List (Int)), S = F10_S3 x2 x9 v8 x17 x18 ∧ F10_J3 m2 x2 x9 v8 x17 x18 = some r) ?_ ?_
        ·refine runX_seq ?_
         refine runX_regionC fun C hC => ?_
         try simp -implicitDefEqProofs (maxSteps := 4000000) (disch := first | omega | decide | (simp only [go_sem]; omega)) only [go_sem, ↓reduceIte]
         repeat (with_reducible refine And.intro (by first | assumption | omega | (simp; done) | (simp; omega)) ?_)
         refine toEnd hC ?_
         refine endX_seq ?_
         rcases iteB_some h with ⟨c15, h⟩ | ⟨c15, h⟩
         ·refine runX_condT rfl c15 ?_
          refine runX_regionC fun C hC => ?_
          simp only [runK_region, runK_draw, liteL, liteL2, dstsL, gL, List.getD_cons_zero, List.getD_cons_succ]
          obtain ⟨v16, h16, h⟩ := bnd_some h
          try simp -implicitDefEqProofs (maxSteps := 4000000) (disch := first | omega | decide | (simp only [go_sem]; omega)) only [go_sem, ↓reduceIte]
          repeat (with_reducible refine And.intro (by first | assumption | omega | (simp; done) | (simp; omega)) ?_)
          refine callR_X [1, 2] (F21_ok m2 (x10, x11) ([38] : List UInt8) _ h16) (by decide) (by (try simp -implicitDefEqProofs (maxSteps := 4000000) (disch := first | omega | decide | (simp only [go_sem]; omega)) only [go_sem, ↓reduceIte]); repeat (first | exact trivial | refine And.intro ?_ ?_ | exact fun _ => trivial | exact fun _ _ => trivial | exact fun _ _ h => h | rfl | decide)) (by (try simp -implicitDefEqProofs (maxSteps := 4000000) (disch := first | omega | decide | (simp only [go_sem]; omega)) only [go_sem, ↓reduceIte]); repeat (first | exact leL_refl _ | refine leL_cons (by first | exact leT_refl _ | exact leT_virt | exact leT_junk _ | exact leT_sl | exact leT_sln | exact leT_nil | (refine leT_agg (by repeat (first | exact leL_refl _ | refine leL_cons (by first | exact leT_refl _ | exact leT_sl | exact leT_sln | exact leT_nil) ?_)))) ?_)) ?_
          try simp -implicitDefEqProofs (maxSteps := 4000000) (disch := first | omega | decide | (simp only [go_sem]; omega)) only [go_sem, ↓reduceIte]
          repeat (with_reducible refine And.intro (by first | assumption | omega | (simp; done) | (simp; omega)) ?_)
          refine toEnd hC ?_
          refine endX_q (meetQ_normal ⟨F10_S3 x2 x9 v8 v16.2.2.1 v16.2.2.2, ?_, v16.2.2.1, v16.2.2.2, rfl, h⟩)
          simp only [F10_S3]
          (try simp -implicitDefEqProofs (maxSteps := 4000000) (disch := first | omega | decide | (simp only [go_sem]; omega)) only [go_sem, ↓reduceIte])
          first | exact leS_refl _ | (refine leS_le ?_ ?_ <;> first | exact leL_refl _ | exact leOs_refl _ | (simp only [List.append_assoc, List.cons_append, List.nil_append]; exact leOs_refl _) | (refine leOs.cons (by first | exact leO.same _ | (refine leO.box (leT_agg (by repeat (first | exact leL_refl _ | refine leL_cons (by first | exact leT_refl _ | exact leT_virt | exact leT_junk _ | exact leT_sl | exact leT_sln | exact leT_nil | (refine leT_agg (by repeat (first | exact leL_refl _ | refine leL_cons (by first | exact leT_refl _ | exact leT_sl | exact leT_sln | exact leT_nil) ?_)))) ?_))) rfl) | (refine leO.box (by first | exact leT_virt | exact leT_sl | exact leT_sln) rfl)) ?_; repeat (first | exact leOs_refl _ | refine leOs.cons (by first | exact leO.same _ | (refine leO.box (leT_agg (by repeat (first | exact leL_refl _ | refine leL_cons (by first | exact leT_refl _ | exact leT_virt | exact leT_junk _ | exact leT_sl | exact leT_sln | exact leT_nil | (refine leT_agg (by repeat (first | exact leL_refl _ | refine leL_cons (by first | exact leT_refl _ | exact leT_sl | exact leT_sln | exact leT_nil) ?_)))) ?_))) rfl) | (refine leO.box (by first | exact leT_virt | exact leT_sl | exact leT_sln) rfl)) ?_)) | (repeat (first | exact leL_refl _ | refine leL_cons (by first | exact leT_refl _ | exact leT_virt | exact leT_junk _ | exact leT_sl | exact leT_sln | exact leT_nil | (refine leT_agg (by repeat (first | exact leL_refl _ | refine leL_cons (by first | exact leT_refl _ | exact leT_sl | exact leT_sln | exact leT_nil) ?_)))) ?_)))
         ·refine runX_condF rfl c15 ?_
          refine runX_skip ?_
          refine endX_q (meetQ_normal ⟨F10_S3 x2 x9 v8 x10 x11, ?_, x10, x11, rfl, h⟩)
          simp only [F10_S3]
          (try simp -implicitDefEqProofs (maxSteps := 4000000) (disch := first | omega | decide | (simp only [go_sem]; omega)) only [go_sem, ↓reduceIte])
          first | exact leS_refl _ | (refine leS_le ?_ ?_ <;> first | exact leL_refl _ | exact leOs_refl _ | (simp only [List.append_assoc, List.cons_append, List.nil_append]; exact leOs_refl _) | (refine leOs.cons (by first | exact leO.same _ | (refine leO.box (leT_agg (by repeat (first | exact leL_refl _ | refine leL_cons (by first | exact leT_refl _ | exact leT_virt | exact leT_junk _ | exact leT_sl | exact leT_sln | exact leT_nil | (refine leT_agg (by repeat (first | exact leL_refl _ | refine leL_cons (by first | exact leT_refl _ | exact leT_sl | exact leT_sln | exact leT_nil) ?_)))) ?_))) rfl) | (refine leO.box (by first | exact leT_virt | exact leT_sl | exact leT_sln) rfl)) ?_; repeat (first | exact leOs_refl _ | refine leOs.cons (by first | exact leO.same _ | (refine leO.box (leT_agg (by repeat (first | exact leL_refl _ | refine leL_cons (by first | exact leT_refl _ | exact leT_virt | exact leT_junk _ | exact leT_sl | exact leT_sln | exact leT_nil | (refine leT_agg (by repeat (first | exact leL_refl _ | refine leL_cons (by first | exact leT_refl _ | exact leT_sl | exact leT_sln | exact leT_nil) ?_)))) ?_))) rfl) | (refine leO.box (by first | exact leT_virt | exact leT_sl | exact leT_sln) rfl)) ?_)) | (repeat (first | exact leL_refl _ | refine leL_cons (by first | exact leT_refl _ | exact leT_virt | exact leT_junk _ | exact leT_sl | exact leT_sln | exact leT_nil | (refine leT_agg (by repeat (first | exact leL_refl _ | refine leL_cons (by first | exact leT_refl _ | exact leT_sl | exact leT_sln | exact leT_nil) ?_)))) ?_)))
        ·clear h
         rintro S ⟨x17, x18, rfl, h⟩
         rw [F10_J3] at h
         simp only [F10_S3]
         refine runX_regionC fun C hC => ?_
         obtain ⟨g19, h⟩ := grd_some h
         obtain ⟨g20, h⟩ := grd_some h
         obtain ⟨v21, h21, h⟩ := bnd_some h
         try simp -implicitDefEqProofs (maxSteps := 4000000) (disch := first | omega | decide | (simp only [go_sem]; omega)) only [go_sem, ↓reduceIte]
         repeat (with_reducible refine And.intro (by first | assumption | omega | (simp; done) | (simp; omega)) ?_)
         refine callR_X [1, 2] (F21_ok m2 (x17, x18) ((((v8.getD x9.toNat default).1) ++ ([61] : List UInt8)) ++ ((v8.getD x9.toNat default).2)) _ h21) (by decide) (by (try simp -implicitDefEqProofs (maxSteps := 4000000) (disch := first | omega | decide | (simp only [go_sem]; omega)) only [go_sem, ↓reduceIte]); repeat (first | exact trivial | refine And.intro ?_ ?_ | exact fun _ => trivial | exact fun _ _ => trivial | exact fun _ _ h => h | rfl | decide)) (by (try simp -implicitDefEqProofs (maxSteps := 4000000) (disch := first | omega | decide | (simp only [go_sem]; omega)) only [go_sem, ↓reduceIte]); repeat (first | exact leL_refl _ | refine leL_cons (by first | exact leT_refl _ | exact leT_virt | exact leT_junk _ | exact leT_sl | exact leT_sln | exact leT_nil | (refine leT_agg (by repeat (first | exact leL_refl _ | refine leL_cons (by first | exact leT_refl _ | exact leT_sl | exact leT_sln | exact leT_nil) ?_)))) ?_)) ?_
         try simp -implicitDefEqProofs (maxSteps := 4000000) (disch := first | omega | decide | (simp only [go_sem]; omega)) only [go_sem, ↓reduceIte]
         repeat (with_reducible refine And.intro (by first | assumption | omega | (simp; done) | (simp; omega)) ?_)
         refine toEnd hC ?_
         refine endX_blk ?_
         refine endX_seq ?_
         refine runX_regionC fun C hC => ?_
         try simp -implicitDefEqProofs (maxSteps := 4000000) (disch := first | omega | decide | (simp only [go_sem]; omega)) only [go_sem, ↓reduceIte]
         repeat (with_reducible refine And.intro (by first | assumption | omega | (simp; done) | (simp; omega)) ?_)
         refine toEnd hC ?_
         refine endX_q (roundQ_normal ⟨m2, by omega, F10_S2 x2 v8 (IntKind.wrap .i64 (x9 + (1 : Int))) v21.2.2.1 v21.2.2.2, ?_, (IntKind.wrap .i64 (x9 + (1 : Int))), v21.2.2.1, v21.2.2.2, rfl, by omega, h⟩)
         simp only [F10_S2]
         (try simp -implicitDefEqProofs (maxSteps := 4000000) (disch := first | omega | decide | (simp only [go_sem]; omega)) only [go_sem, ↓reduceIte])
         first | exact leS_refl _ | (refine leS_le ?_ ?_ <;> first | exact leL_refl _ | exact leOs_refl _ | (simp only [List.append_assoc, List.cons_append, List.nil_append]; exact leOs_refl _) | (refine leOs.cons (by first | exact leO.same _ | (refine leO.box (leT_agg (by repeat (first | exact leL_refl _ | refine leL_cons (by first | exact leT_refl _ | exact leT_virt | exact leT_junk _ | exact leT_sl | exact leT_sln | exact leT_nil | (refine leT_agg (by repeat (first | exact leL_refl _ | refine leL_cons (by first | exact leT_refl _ | exact leT_sl | exact leT_sln | exact leT_nil) ?_)))) ?_))) rfl) | (refine leO.box (by first | exact leT_virt | exact leT_sl | exact leT_sln) rfl)) ?_; repeat (first | exact leOs_refl _ | refine leOs.cons (by first | exact leO.same _ | (refine leO.box (leT_agg (by repeat (first | exact leL_refl _ | refine leL_cons (by first | exact leT_refl _ | exact leT_virt | exact leT_junk _ | exact leT_sl | exact leT_sln | exact leT_nil | (refine leT_agg (by repeat (first | exact leL_refl _ | refine leL_cons (by first | exact leT_refl _ | exact leT_sl | exact leT_sln | exact leT_nil) ?_)))) ?_))) rfl) | (refine leO.box (by first | exact leT_virt | exact leT_sl | exact leT_sln) rfl)) ?_)) | (repeat (first | exact leL_refl _ | refine leL_cons (by first | exact leT_refl _ | exact leT_virt | exact leT_junk _ | exact leT_sl | exact leT_sln | exact leT_nil | (refine leT_agg (by repeat (first | exact leL_refl _ | refine leL_cons (by first | exact leT_refl _ | exact leT_sl | exact leT_sln | exact leT_nil) ?_)))) ?_)))
       ·refine runX_condF rfl c12 ?_
        refine runX_exit ?_
        refine endX_seqE ?_
        refine endX_q (roundQ_exit ?_)
        refine endX_blkE ?_
        refine endX_seq ?_
        refine runX_seq ?_
        refine runX_regionC fun C hC => ?_
        simp only [runK_region, runK_draw, liteL, liteL2, dstsL, gL, List.getD_cons_zero, List.getD_cons_succ]
        obtain ⟨v22, h22, h⟩ := bnd_some h
        try simp -implicitDefEqProofs (maxSteps := 4000000) (disch := first | omega | decide | (simp only [go_sem]; omega)) only [go_sem, ↓reduceIte]
        repeat (with_reducible refine And.intro (by first | assumption | omega | (simp; done) | (simp; omega)) ?_)
        refine callR_X [1, 2] (F22_ok m2 (x10, x11) _ h22) (by decide) (by (try simp -implicitDefEqProofs (maxSteps := 4000000) (disch := first | omega | decide | (simp only [go_sem]; omega)) only [go_sem, ↓reduceIte]); repeat (first | exact trivial | refine And.intro ?_ ?_ | exact fun _ => trivial | exact fun _ _ => trivial | exact fun _ _ h => h | rfl | decide)) (by (try simp -implicitDefEqProofs (maxSteps := 4000000) (disch := first | omega | decide | (simp only [go_sem]; omega)) only [go_sem, ↓reduceIte]); repeat (first | exact leL_refl _ | refine leL_cons (by first | exact leT_refl _ | exact leT_virt | exact leT_junk _ | exact leT_sl | exact leT_sln | exact leT_nil | (refine leT_agg (by repeat (first | exact leL_refl _ | refine leL_cons (by first | exact leT_refl _ | exact leT_sl | exact leT_sln | exact leT_nil) ?_)))) ?_)) ?_
        try simp -implicitDefEqProofs (maxSteps := 4000000) (disch := first | omega | decide | (simp only [go_sem]; omega)) only [go_sem, ↓reduceIte]
        repeat (with_reducible refine And.intro (by first | assumption | omega | (simp; done) | (simp; omega)) ?_)
        refine toEnd hC ?_
        refine endX_seq ?_
        refine runX_ret ?_
        refine endX_q ?_
        obtain rfl := Option.some.inj h
        show RetW _ _ _ _ _
        simp only [RetW]
        (try simp -implicitDefEqProofs (maxSteps := 4000000) (disch := first | omega | decide | (simp only [go_sem]; omega)) only [go_sem, ↓reduceIte])
        (try simp (disch := omega) only [if_pos, Nat.sub_zero])
        exact leT_refl _
end Go.Proofs.YtdaojihnaajfeaaDoorX

set_option linter.unusedVariables false
set_option linter.unusedSimpArgs false
namespace Go.Proofs.YtdaojihnaajfeaaDoorX
open Go Go.RowKit Go.Proofs
set_option maxRecDepth 100000
attribute [local go_sem ↓] stepsK_build stepsK_bs appendS
attribute [local go_sem] String.reduceEq String.reduceNe reduceCtorEq Int.reduceEq Nat.reduceAdd Nat.reduceSub Nat.reduceMul Nat.reduceLT Nat.reduceLeDiff Nat.reduceEqDiff Nat.reduceBEq Int.reduceToNat Int.reduceLT Int.reduceLE Int.reduceGT Int.reduceGE Int.reduceAdd Int.reduceSub Int.reduceMul Int.reduceNeg Int.reduceBEq Int.reduceBNe Int.reducePow Int.reduceDiv Int.reduceMod Int.reduceTDiv Int.reduceTMod Int.reduceNatCast
/-! ### shadowboxlaw29.QueryBack -/
def F4_S5 (a0 : List ((List UInt8) × (List UInt8))) (v10 : (List ((List UInt8) × (List UInt8))) × (Bool)) (x26 : Int) (x29 : Int) (x34 : Int) : St := ⟨[.sl 2 false (List.map eT28 a0), .junk, .junk, .junk, .junk, .junk, .junk, .junk, .junk, .junk, .junk, .sl 2 false (List.map eT28 v10.1), .junk, .junk, .junk, .imm (.int .i64 x26), .imm (.int .i64 x34), .imm (.int .i64 x29), .junk, .junk, .junk, .junk, .junk, .junk, .junk, .junk, .junk, .junk, .junk, .junk, .junk, .junk, .junk, .junk, .junk, .junk, .junk, .junk, .junk, .junk, .junk, .junk, .junk, .junk, .junk, .junk, .junk, .junk, .junk, .junk, .junk, .junk, .junk, .junk, .junk, .junk, .junk, .junk, .junk, .junk, .junk, .junk, .junk, .junk, .junk, .junk, .junk, .junk, .junk, .junk, .junk, .junk, .junk, .junk, .junk, .junk, .junk, .junk, .junk, .junk, .junk, .junk, .junk, .junk, .junk, .junk, .junk, .junk, .junk, .junk, .junk, .junk, .junk, .junk, .junk, .junk, .junk, .junk, .junk, .junk, .junk, .junk, .junk, .junk, .junk, .junk, .junk, .junk, .junk, .junk, .junk, .junk, .junk, .junk, .junk, .junk, .junk, .junk, .junk, .junk, .junk, .junk, .junk, .junk, .junk, .junk, .junk, .junk, .junk, .junk, .junk, .junk, .junk, .junk, .junk, .junk, .junk, .junk, .junk], []⟩
def F4_S4 (a0 : List ((List UInt8) × (List UInt8))) (v10 : (List ((List UInt8) × (List UInt8))) × (Bool)) (x26 : Int) (x28 : Int) (x29 : Int) : St := ⟨[.sl 2 false (List.map eT28 a0), .junk, .junk, .junk, .junk, .junk, .junk, .junk, .junk, .junk, .junk, .sl 2 false (List.map eT28 v10.1), .junk, .junk, .junk, .imm (.int .i64 x26), .imm (.int .i64 x28), .imm (.int .i64 x29), .junk, .junk, .junk, .junk, .junk, .junk, .junk, .junk, .junk, .junk, .junk, .junk, .junk, .junk, .junk, .junk, .junk, .junk, .junk, .junk, .junk, .junk, .junk, .junk, .junk, .junk, .junk, .junk, .junk, .junk, .junk, .junk, .junk, .junk, .junk, .junk, .junk, .junk, .junk, .junk, .junk, .junk, .junk, .junk, .junk, .junk, .junk, .junk, .junk, .junk, .junk, .junk, .junk, .junk, .junk, .junk, .junk, .junk, .junk, .junk, .junk, .junk, .junk, .junk, .junk, .junk, .junk, .junk, .junk, .junk, .junk, .junk, .junk, .junk, .junk, .junk, .junk, .junk, .junk, .junk, .junk, .junk, .junk, .junk, .junk, .junk, .junk, .junk, .junk, .junk, .junk, .junk, .junk, .junk, .junk, .junk, .junk, .junk, .junk, .junk, .junk, .junk, .junk, .junk, .junk, .junk, .junk, .junk, .junk, .junk, .junk, .junk, .junk, .junk, .junk, .junk, .junk, .junk, .junk, .junk, .junk], []⟩
def F4_S3 (a0 : List ((List UInt8) × (List UInt8))) (v10 : (List ((List UInt8) × (List UInt8))) × (Bool)) (x26 : Int) : St := ⟨[.sl 2 false (List.map eT28 a0), .junk, .junk, .junk, .junk, .junk, .junk, .junk, .junk, .junk, .junk, .sl 2 false (List.map eT28 v10.1), .junk, .junk, .junk, .imm (.int .i64 x26), .junk, .junk, .junk, .junk, .junk, .junk, .junk, .junk, .junk, .junk, .junk, .junk, .junk, .junk, .junk, .junk, .junk, .junk, .junk, .junk, .junk, .junk, .junk, .junk, .junk, .junk, .junk, .junk, .junk, .junk, .junk, .junk, .junk, .junk, .junk, .junk, .junk, .junk, .junk, .junk, .junk, .junk, .junk, .junk, .junk, .junk, .junk, .junk, .junk, .junk, .junk, .junk, .junk, .junk, .junk, .junk, .junk, .junk, .junk, .junk, .junk, .junk, .junk, .junk, .junk, .junk, .junk, .junk, .junk, .junk, .junk, .junk, .junk, .junk, .junk, .junk, .junk, .junk, .junk, .junk, .junk, .junk, .junk, .junk, .junk, .junk, .junk, .junk, .junk, .junk, .junk, .junk, .junk, .junk, .junk, .junk, .junk, .junk, .junk, .junk, .junk, .junk, .junk, .junk, .junk, .junk, .junk, .junk, .junk, .junk, .junk, .junk, .junk, .junk, .junk, .junk, .junk, .junk, .junk, .junk, .junk, .junk, .junk], []⟩
def F4_S2 (a0 : List ((List UInt8) × (List UInt8))) (v10 : (List ((List UInt8) × (List UInt8))) × (Bool)) : St := ⟨[.sl 2 false (List.map eT28 a0), .junk, .junk, .junk, .junk, .junk, .junk, .junk, .junk, .junk, .junk, .sl 2 false (List.map eT28 v10.1), .junk, .junk, .junk, .junk, .junk, .junk, .junk, .junk, .junk, .junk, .junk, .junk, .junk, .junk, .junk, .junk, .junk, .junk, .junk, .junk, .junk, .junk, .junk, .junk, .junk, .junk, .junk, .junk, .junk, .junk, .junk, .junk, .junk, .junk, .junk, .junk, .junk, .junk, .junk, .junk, .junk, .junk, .junk, .junk, .junk, .junk, .junk, .junk, .junk, .junk, .junk, .junk, .junk, .junk, .junk, .junk, .junk, .junk, .junk, .junk, .junk, .junk, .junk, .junk, .junk, .junk, .junk, .junk, .junk, .junk, .junk, .junk, .junk, .junk, .junk, .junk, .junk, .junk, .junk, .junk, .junk, .junk, .junk, .junk, .junk, .junk, .junk, .junk, .junk, .junk, .junk, .junk, .junk, .junk, .junk, .junk, .junk, .junk, .junk, .junk, .junk, .junk, .junk, .junk, .junk, .junk, .junk, .junk, .junk, .junk, .junk, .junk, .junk, .junk, .junk, .junk, .junk, .junk, .junk, .junk, .junk, .junk, .junk, .junk, .junk, .junk, .junk], []⟩
def F4_S1 (a0 : List ((List UInt8) × (List UInt8))) (a1 : Int) (v4 : List UInt8) (x5 : Int) : St := ⟨[.sl 2 false (List.map eT28 a0), .imm (.int .i64 a1), .junk, .junk, .junk, .junk, .junk, .imm (.string (bs v4)), .imm (.int .i64 x5), .junk, .junk, .junk, .junk, .junk, .junk, .junk, .junk, .junk, .junk, .junk, .junk, .junk, .junk, .junk, .junk, .junk, .junk, .junk, .junk, .junk, .junk, .junk, .junk, .junk, .junk, .junk, .junk, .junk, .junk, .junk, .junk, .junk, .junk, .junk, .junk, .junk, .junk, .junk, .junk, .junk, .junk, .junk, .junk, .junk, .junk, .junk, .junk, .junk, .junk, .junk, .junk, .junk, .junk, .junk, .junk, .junk, .junk, .junk, .junk, .junk, .junk, .junk, .junk, .junk, .junk, .junk, .junk, .junk, .junk, .junk, .junk, .junk, .junk, .junk, .junk, .junk, .junk, .junk, .junk, .junk, .junk, .junk, .junk, .junk, .junk, .junk, .junk, .junk, .junk, .junk, .junk, .junk, .junk, .junk, .junk, .junk, .junk, .junk, .junk, .junk, .junk, .junk, .junk, .junk, .junk, .junk, .junk, .junk, .junk, .junk, .junk, .junk, .junk, .junk, .junk, .junk, .junk, .junk, .junk, .junk, .junk, .junk, .junk, .junk, .junk, .junk, .junk, .junk, .junk], []⟩
mutual
def F4_J5 (m4 : Nat) (a0 : List ((List UInt8) × (List UInt8))) (v10 : (List ((List UInt8) × (List UInt8))) × (Bool)) (x26 : Int) (x29 : Int) (x34 : Int) : Option (Bool) := grd (0 ≤ x29 ∧ x29 < (v10.1.length : Int)) (grd (0 ≤ x26 ∧ x26 < (v10.1.length : Int)) (iteB ((((v10.1.getD x29.toNat default).1) == ((v10.1.getD x26.toNat default).1)) && (((v10.1.getD x29.toNat default).2) == ((v10.1.getD x26.toNat default).2))) (F4_L4 m4 a0 v10 x26 (IntKind.wrap .i64 (x34 - (1 : Int))) (IntKind.wrap .i64 (x29 + (1 : Int)))) (F4_L4 m4 a0 v10 x26 x34 (IntKind.wrap .i64 (x29 + (1 : Int))))))
def F4_L4 : Nat → (List ((List UInt8) × (List UInt8))) → ((List ((List UInt8) × (List UInt8))) × (Bool)) → (Int) → (Int) → (Int) → Option (Bool)
 | 0, _, _, _, _, _ => none
 | m4 + 1, a0, v10, x26, x28, x29 => iteB (decide (x29 < (a0.length : Int))) (grd (0 ≤ x29 ∧ x29 < (a0.length : Int)) (grd (0 ≤ x26 ∧ x26 < (v10.1.length : Int)) (iteB ((((a0.getD x29.toNat default).1) == ((v10.1.getD x26.toNat default).1)) && (((a0.getD x29.toNat default).2) == ((v10.1.getD x26.toNat default).2))) (F4_J5 m4 a0 v10 x26 x29 (IntKind.wrap .i64 (x28 + (1 : Int)))) (F4_J5 m4 a0 v10 x26 x29 x28)))) (iteB (x28 != (0 : Int)) (some false) (F4_L3 m4 a0 v10 (IntKind.wrap .i64 (x26 + (1 : Int)))))
def F4_L3 : Nat → (List ((List UInt8) × (List UInt8))) → ((List ((List UInt8) × (List UInt8))) × (Bool)) → (Int) → Option (Bool)
 | 0, _, _, _ => none
 | m3 + 1, a0, v10, x26 => iteB (decide (x26 < (v10.1.length : Int))) (F4_L4 m3 a0 v10 x26 (0 : Int) (0 : Int)) (some true)
def F4_J2 (m1 : Nat) (a0 : List ((List UInt8) × (List UInt8))) (v10 : (List ((List UInt8) × (List UInt8))) × (Bool)) : Option (Bool) := F4_L3 m1 a0 v10 (0 : Int)
def F4_L1 : Nat → (List ((List UInt8) × (List UInt8))) → (Int) → (List UInt8) → (Int) → Option (Bool)
 | 0, _, _, _, _ => none
 | m1 + 1, a0, a1, v4, x5 => iteB (decide (x5 < (a0.length : Int))) (grd (0 ≤ x5 ∧ x5 < (a0.length : Int)) (iteB (((a0.getD x5.toNat default).1) == []) ((F7 m1 v4).bind fun v9 => some (!v9.2)) (F4_L1 m1 a0 a1 v4 (IntKind.wrap .i64 (x5 + (1 : Int)))))) ((F7 m1 v4).bind fun v10 => iteB (!v10.2) (some false) (iteB ((v10.1.length : Int) != (a0.length : Int)) (some false) ((F10 m1 v10.1).bind fun v13 => iteB (!(v13 == v4)) (some false) ((F10 m1 ([(([97] : List UInt8), [])])).bind fun v15 => iteB (!(v15 == ([97, 61] : List UInt8))) (some false) (iteB (decide ((1 : Int) < (a0.length : Int))) (grd ((a0.length : Int) ≠ 0) (grd ((a0.length : Int) ≠ 0) (grd (0 ≤ ((IntKind.wrap .i64 ((a1.tmod (a0.length : Int)) + (a0.length : Int))).tmod (a0.length : Int)) ∧ ((IntKind.wrap .i64 ((a1.tmod (a0.length : Int)) + (a0.length : Int))).tmod (a0.length : Int)) ≤ (a0.length : Int)) (grd ((a0.drop ((IntKind.wrap .i64 ((a1.tmod (a0.length : Int)) + (a0.length : Int))).tmod (a0.length : Int)).toNat).length ≤ 549755813888) (grd (0 ≤ ((IntKind.wrap .i64 ((a1.tmod (a0.length : Int)) + (a0.length : Int))).tmod (a0.length : Int)) ∧ ((IntKind.wrap .i64 ((a1.tmod (a0.length : Int)) + (a0.length : Int))).tmod (a0.length : Int)) ≤ (a0.length : Int)) (grd (((a0.drop ((IntKind.wrap .i64 ((a1.tmod (a0.length : Int)) + (a0.length : Int))).tmod (a0.length : Int)).toNat).length + (a0.take ((IntKind.wrap .i64 ((a1.tmod (a0.length : Int)) + (a0.length : Int))).tmod (a0.length : Int)).toNat).length) ≤ 549755813888) ((F10 m1 ((a0.drop ((IntKind.wrap .i64 ((a1.tmod (a0.length : Int)) + (a0.length : Int))).tmod (a0.length : Int)).toNat) ++ (a0.take ((IntKind.wrap .i64 ((a1.tmod (a0.length : Int)) + (a0.length : Int))).tmod (a0.length : Int)).toNat))).bind fun v24 => iteB (!(v24 == v4)) (some false) (F4_J2 m1 a0 v10)))))))) (F4_J2 m1 a0 v10))))))
end
def F4 (n : Nat) (a0 : List ((List UInt8) × (List UInt8))) (a1 : Int) : Option (Bool) := (F9 n a0).bind fun v1 => iteB (!v1.2) (some true) (iteB (decide ((60 : Int) < (a0.length : Int))) (some true) ((F10 n a0).bind fun v4 => F4_L1 n a0 a1 v4 (0 : Int)))
set_option maxHeartbeats 4000000 in
theorem F4_ok : ∀ (n : Nat) (a0 : List ((List UInt8) × (List UInt8))) (a1 : Int) (r : Bool), F4 n a0 a1 = some r → FnC Tryd.prog 4 [.sl 2 false (List.map eT28 a0), .imm (.int .i64 a1)] (.imm (.bool r))
 | n, a0, a1, r, h => by
  unfold F4 at h
  refine FnC.goX mixed Tryd.func4 (by kernel_rfl) rfl ?_
  simp only [Tryd.ntmps4, List.length_cons, List.length_nil, List.replicate, List.cons_append, List.nil_append, Nat.reduceAdd, Nat.reduceSub]
  refine runX_seq ?_
  refine runX_regionC fun C hC => ?_
  try simp -implicitDefEqProofs (maxSteps := 4000000) (disch := first | omega | decide | (simp only [go_sem]; omega)) only [go_sem, ↓reduceIte]
  repeat (with_reducible refine And.intro (by first | assumption | omega | (simp; done) | (simp; omega)) ?_)
  refine toEnd hC ?_
  refine endX_seq ?_
  refine runX_seq ?_
  refine runX_regionC fun C hC => ?_
  obtain ⟨v1, h1, h⟩ := bnd_some h
  try simp -implicitDefEqProofs (maxSteps := 4000000) (disch := first | omega | decide | (simp only [go_sem]; omega)) only [go_sem, ↓reduceIte]
  repeat (with_reducible refine And.intro (by first | assumption | omega | (simp; done) | (simp; omega)) ?_)
  refine callG_X (by first | rfl | (simp only [go_sem]; done) | (simp only [closedL, closedT, Bool.and_true]; exact closedL_map _ (fun _ => by first | rfl | (simp only [go_sem]; done)) _)) (F9_ok n a0 _ h1) (by repeat (first | exact leL_refl _ | refine leL_cons (by first | exact leT_refl _ | exact leT_virt | exact leT_junk _ | exact leT_sl | exact leT_sln | exact leT_nil | (refine leT_agg (by repeat (first | exact leL_refl _ | refine leL_cons (by first | exact leT_refl _ | exact leT_sl | exact leT_sln | exact leT_nil) ?_)))) ?_)) ?_
  try simp -implicitDefEqProofs (maxSteps := 4000000) (disch := first | omega | decide | (simp only [go_sem]; omega)) only [go_sem, ↓reduceIte]
  repeat (with_reducible refine And.intro (by first | assumption | omega | (simp; done) | (simp; omega)) ?_)
  refine toEnd hC ?_
  refine endX_seq ?_
  refine runX_seq ?_
  refine runX_seq ?_
  refine runX_regionC fun C hC => ?_
  try simp -implicitDefEqProofs (maxSteps := 4000000) (disch := first | omega | decide | (simp only [go_sem]; omega)) only [go_sem, ↓reduceIte]
  repeat (with_reducible refine And.intro (by first | assumption | omega | (simp; done) | (simp; omega)) ?_)
  rcases iteB_some h with ⟨c2, h⟩ | ⟨c2, h⟩
  ·refine guardK_F c2 ?_
   try simp -implicitDefEqProofs (maxSteps := 4000000) (disch := first | omega | decide | (simp only [go_sem]; omega)) only [go_sem, ↓reduceIte]
   repeat (with_reducible refine And.intro (by first | assumption | omega | (simp; done) | (simp; omega)) ?_)
   refine toEnd hC ?_
   refine endX_seq ?_
   refine runX_condT rfl rfl ?_
   refine runX_seq ?_
   refine runX_regionC fun C hC => ?_
   try simp -implicitDefEqProofs (maxSteps := 4000000) (disch := first | omega | decide | (simp only [go_sem]; omega)) only [go_sem, ↓reduceIte]
   repeat (with_reducible refine And.intro (by first | assumption | omega | (simp; done) | (simp; omega)) ?_)
   refine toEnd hC ?_
   refine endX_seq ?_
   refine runX_ret ?_
   refine endX_seqR ?_
   refine endX_q ?_
   obtain rfl := Option.some.inj h
   show RetW _ _ _ _ _
   simp only [RetW]
   (try simp -implicitDefEqProofs (maxSteps := 4000000) (disch := first | omega | decide | (simp only [go_sem]; omega)) only [go_sem, ↓reduceIte])
   (try simp (disch := omega) only [if_pos, Nat.sub_zero])
   exact leT_refl _
  ·refine guardK_T c2 ?_
   try simp -implicitDefEqProofs (maxSteps := 4000000) (disch := first | omega | decide | (simp only [go_sem]; omega)) only [go_sem, ↓reduceIte]
   repeat (with_reducible refine And.intro (by first | assumption | omega | (simp; done) | (simp; omega)) ?_)
   refine toEnd hC ?_
   refine endX_seq ?_
   rcases iteB_some h with ⟨c3, h⟩ | ⟨c3, h⟩
   ·refine runX_condT rfl c3 ?_
    refine runX_seq ?_
    refine runX_regionC fun C hC => ?_
    try simp -implicitDefEqProofs (maxSteps := 4000000) (disch := first | omega | decide | (simp only [go_sem]; omega)) only [go_sem, ↓reduceIte]
    repeat (with_reducible refine And.intro (by first | assumption | omega | (simp; done) | (simp; omega)) ?_)
    refine toEnd hC ?_
    refine endX_seq ?_
    refine runX_ret ?_
    refine endX_seqR ?_
    refine endX_q ?_
    obtain rfl := Option.some.inj h
    show RetW _ _ _ _ _
    simp only [RetW]
    (try simp -implicitDefEqProofs (maxSteps := 4000000) (disch := first | omega | decide | (simp only [go_sem]; omega)) only [go_sem, ↓reduceIte])
    (try simp (disch := omega) only [if_pos, Nat.sub_zero])
    exact leT_refl _
   ·refine runX_condF rfl c3 ?_
    refine runX_skip ?_
    refine endX_seq ?_
    refine runX_seq ?_
    refine runX_regionC fun C hC => ?_
    obtain ⟨v4, h4, h⟩ := bnd_some h
    try simp -implicitDefEqProofs (maxSteps := 4000000) (disch := first | omega | decide | (simp only [go_sem]; omega)) only [go_sem, ↓reduceIte]
    repeat (with_reducible refine And.intro (by first | assumption | omega | (simp; done) | (simp; omega)) ?_)
    refine callG_X (by first | rfl | (simp only [go_sem]; done) | (simp only [closedL, closedT, Bool.and_true]; exact closedL_map _ (fun _ => by first | rfl | (simp only [go_sem]; done)) _)) (F10_ok n a0 _ h4) (by repeat (first | exact leL_refl _ | refine leL_cons (by first | exact leT_refl _ | exact leT_virt | exact leT_junk _ | exact leT_sl | exact leT_sln | exact leT_nil | (refine leT_agg (by repeat (first | exact leL_refl _ | refine leL_cons (by first | exact leT_refl _ | exact leT_sl | exact leT_sln | exact leT_nil) ?_)))) ?_)) ?_
    try simp -implicitDefEqProofs (maxSteps := 4000000) (disch := first | omega | decide | (simp only [go_sem]; omega)) only [go_sem, ↓reduceIte]
    repeat (with_reducible refine And.intro (by first | assumption | omega | (simp; done) | (simp; omega)) ?_)
    refine toEnd hC ?_
    refine endX_seq ?_
    refine runX_seq ?_
    refine runX_seq ?_
    refine runX_regionC fun C hC => ?_
    try simp -implicitDefEqProofs (maxSteps := 4000000) (disch := first | omega | decide | (simp only [go_sem]; omega)) only [go_sem, ↓reduceIte]
    repeat (with_reducible refine And.intro (by first | assumption | omega | (simp; done) | (simp; omega)) ?_)
    refine toEnd hC ?_
    refine endX_seq ?_
    refine runX_block ?_
    refine runX_loop [0, 1, 7, 8] (fun m S => ∃ (x5 : Int), S = F4_S1 a0 a1 v4 x5 ∧ m ≤ n ∧ F4_L1 m a0 a1 v4 x5 = some r) n ⟨F4_S1 a0 a1 v4 (0 : Int), ?_, (0 : Int), rfl, Nat.le_refl _, h⟩ ?_
    ·simp only [F4_S1]
     (try simp -implicitDefEqProofs (maxSteps := 4000000) (disch := first | omega | decide | (simp only [go_sem]; omega)) only [go_sem, ↓reduceIte])
     first | exact leS_refl _ | (refine leS_le ?_ ?_ <;> first | exact leL_refl _ | exact leOs_refl _ | (simp only [List.append_assoc, List.cons_append, List.nil_append]; exact leOs_refl _) | (refine leOs.cons (by first | exact leO.same _ | (refine leO.box (leT_agg (by repeat (first | exact leL_refl _ | refine leL_cons (by first | exact leT_refl _ | exact leT_virt | exact leT_junk _ | exact leT_sl | exact leT_sln | exact leT_nil | (refine leT_agg (by repeat (first | exact leL_refl _ | refine leL_cons (by first | exact leT_refl _ | exact leT_sl | exact leT_sln | exact leT_nil) ?_)))) ?_))) rfl) | (refine leO.box (by first | exact leT_virt | exact leT_sl | exact leT_sln) rfl)) ?_; repeat (first | exact leOs_refl _ | refine leOs.cons (by first | exact leO.same _ | (refine leO.box (leT_agg (by repeat (first | exact leL_refl _ | refine leL_cons (by first | exact leT_refl _ | exact leT_virt | exact leT_junk _ | exact leT_sl | exact leT_sln | exact leT_nil | (refine leT_agg (by repeat (first | exact leL_refl _ | refine leL_cons (by first | exact leT_refl _ | exact leT_sl | exact leT_sln | exact leT_nil) ?_)))) ?_))) rfl) | (refine leO.box (by first | exact leT_virt | exact leT_sl | exact leT_sln) rfl)) ?_)) | (repeat (first | exact leL_refl _ | refine leL_cons (by first | exact leT_refl _ | exact leT_virt | exact leT_junk _ | exact leT_sl | exact leT_sln | exact leT_nil | (refine leT_agg (by repeat (first | exact leL_refl _ | refine leL_cons (by first | exact leT_refl _ | exact leT_sl | exact leT_sln | exact leT_nil) ?_)))) ?_)))
    ·clear h
     rintro m1 S ⟨x5, rfl, hm1, h⟩
     cases m1 with
     | zero => first | cases (show (none : Option _) = some _ from h) | (rw [F4_L1] at h; cases h)
     | succ m1 =>
      rw [F4_L1] at h
      simp only [F4_S1]
      refine runX_seq ?_
      refine runX_seq ?_
      refine runX_regionC fun C hC => ?_
      try simp -implicitDefEqProofs (maxSteps := 4000000) (disch := first | omega | decide | (simp only [go_sem]; omega)) only [go_sem, ↓reduceIte]
      repeat (with_reducible refine And.intro (by first | assumption | omega | (simp; done) | (simp; omega)) ?_)
      refine toEnd hC ?_
      refine endX_seq ?_
      rcases iteB_some h with ⟨c6, h⟩ | ⟨c6, h⟩
      ·refine runX_condT rfl c6 ?_
       refine runX_skip ?_
       refine endX_seq ?_
       refine runX_seq ?_
       refine runX_block ?_
       refine runX_seq ?_
       refine runX_regionC fun C hC => ?_
       obtain ⟨g7, h⟩ := grd_some h
       try simp -implicitDefEqProofs (maxSteps := 4000000) (disch := first | omega | decide | (simp only [go_sem]; omega)) only [go_sem, ↓reduceIte]
       repeat (with_reducible refine And.intro (by first | assumption | omega | (simp; done) | (simp; omega)) ?_)
       refine toEnd hC ?_
       refine endX_seq ?_
       rcases iteB_some h with ⟨c8, h⟩ | ⟨c8, h⟩
       ·refine runX_condT rfl c8 ?_
        refine runX_seq ?_
        refine runX_regionC fun C hC => ?_
        obtain ⟨v9, h9, h⟩ := bnd_some h
        try simp -implicitDefEqProofs (maxSteps := 4000000) (disch := first | omega | decide | (simp only [go_sem]; omega)) only [go_sem, ↓reduceIte]
        repeat (with_reducible refine And.intro (by first | assumption | omega | (simp; done) | (simp; omega)) ?_)
        refine callG_X (by first | rfl | (simp only [go_sem]; done) | (simp only [closedL, closedT, Bool.and_true]; exact closedL_map _ (fun _ => by first | rfl | (simp only [go_sem]; done)) _)) (F7_ok m1 v4 _ h9) (by repeat (first | exact leL_refl _ | refine leL_cons (by first | exact leT_refl _ | exact leT_virt | exact leT_junk _ | exact leT_sl | exact leT_sln | exact leT_nil | (refine leT_agg (by repeat (first | exact leL_refl _ | refine leL_cons (by first | exact leT_refl _ | exact leT_sl | exact leT_sln | exact leT_nil) ?_)))) ?_)) ?_
        try simp -implicitDefEqProofs (maxSteps := 4000000) (disch := first | omega | decide | (simp only [go_sem]; omega)) only [go_sem, ↓reduceIte]
        repeat (with_reducible refine And.intro (by first | assumption | omega | (simp; done) | (simp; omega)) ?_)
        refine toEnd hC ?_
        refine endX_seq ?_
        refine runX_seq ?_
        refine runX_regionC fun C hC => ?_
        try simp -implicitDefEqProofs (maxSteps := 4000000) (disch := first | omega | decide | (simp only [go_sem]; omega)) only [go_sem, ↓reduceIte]
        repeat (with_reducible refine And.intro (by first | assumption | omega | (simp; done) | (simp; omega)) ?_)
        refine toEnd hC ?_
        refine endX_seq ?_
        refine runX_ret ?_
        refine endX_blkR ?_
        refine endX_seqR ?_
        refine endX_q (roundQ_ret ?_)
        refine endX_blkR ?_
        refine endX_seqR ?_
        refine endX_q ?_
        obtain rfl := Option.some.inj h
        show RetW _ _ _ _ _
        simp only [RetW]
        (try simp -implicitDefEqProofs (maxSteps := 4000000) (disch := first | omega | decide | (simp only [go_sem]; omega)) only [go_sem, ↓reduceIte])
        (try simp (disch := omega) only [if_pos, Nat.sub_zero])
        exact leT_refl _
       ·refine runX_condF rfl c8 ?_
        refine runX_skip ?_
        refine endX_blk ?_
        refine endX_seq ?_
        refine runX_regionC fun C hC => ?_
        try simp -implicitDefEqProofs (maxSteps := 4000000) (disch := first | omega | decide | (simp only [go_sem]; omega)) only [go_sem, ↓reduceIte]
        repeat (with_reducible refine And.intro (by first | assumption | omega | (simp; done) | (simp; omega)) ?_)
        refine toEnd hC ?_
        refine endX_q (roundQ_normal ⟨m1, by omega, F4_S1 a0 a1 v4 (IntKind.wrap .i64 (x5 + (1 : Int))), ?_, (IntKind.wrap .i64 (x5 + (1 : Int))), rfl, by omega, h⟩)
        simp only [F4_S1]
        (try simp -implicitDefEqProofs (maxSteps := 4000000) (disch := first | omega | decide | (simp only [go_sem]; omega)) only [go_sem, ↓reduceIte])
        first | exact leS_refl _ | (refine leS_le ?_ ?_ <;> first | exact leL_refl _ | exact leOs_refl _ | (simp only [List.append_assoc, List.cons_append, List.nil_append]; exact leOs_refl _) | (refine leOs.cons (by first | exact leO.same _ | (refine leO.box (leT_agg (by repeat (first | exact leL_refl _ | refine leL_cons (by first | exact leT_refl _ | exact leT_virt | exact leT_junk _ | exact leT_sl | exact leT_sln | exact leT_nil | (refine leT_agg (by repeat (first | exact leL_refl _ | refine leL_cons (by first | exact leT_refl _ | exact leT_sl | exact leT_sln | exact leT_nil) ?_)))) ?_))) rfl) | (refine leO.box (by first | exact leT_virt | exact leT_sl | exact leT_sln) rfl)) ?_; repeat (first | exact leOs_refl _ | refine leOs.cons (by first | exact leO.same _ | (refine leO.box (leT_agg (by repeat (first | exact leL_refl _ | refine leL_cons (by first | exact leT_refl _ | exact leT_virt | exact leT_junk _ | exact leT_sl | exact leT_sln | exact leT_nil | (refine leT_agg (by repeat (first | exact leL_refl _ | refine leL_cons (by first | exact leT_refl _ | exact leT_sl | exact leT_sln | exact leT_nil) ?_)))) ?_))) rfl) | (refine leO.box (by first | exact leT_virt | exact leT_sl | exact leT_sln) rfl)) ?_)) | (repeat (first | exact leL_refl _ | refine leL_cons (by first | exact leT_refl _ | exact leT_virt | exact leT_junk _ | exact leT_sl | exact leT_sln | exact leT_nil | (refine leT_agg (by repeat (first | exact leL_refl _ | refine leL_cons (by first | exact leT_refl _ | exact leT_sl | exact leT_sln | exact leT_nil) ?_)))) ?_)))
      ·refine runX_condF rfl c6 ?_
       refine runX_exit ?_
       refine endX_seqE ?_
       refine endX_q (roundQ_exit ?_)
       refine endX_blkE ?_
       refine endX_seq ?_
       refine runX_seq ?_
       refine runX_regionC fun C hC => ?_
       obtain ⟨v10, h10, h⟩ := bnd_some h
       try simp -implicitDefEqProofs (maxSteps := 4000000) (disch := first | omega | decide | (simp only [go_sem]; omega)) only [go_sem, ↓reduceIte]
       repeat (with_reducible refine And.intro (by first | assumption | omega | (simp; done) | (simp; omega)) ?_)
       refine callG_X (by first | rfl | (simp only [go_sem]; done) | (simp only [closedL, closedT, Bool.and_true]; exact closedL_map _ (fun _ => by first | rfl | (simp only [go_sem]; done)) _)) (F7_ok m1 v4 _ h10) (by repeat (first | exact leL_refl _ | refine leL_cons (by first | exact leT_refl _ | exact leT_virt | exact leT_junk _ | exact leT_sl | exact leT_sln | exact leT_nil | (refine leT_agg (by repeat (first | exact leL_refl _ | refine leL_cons (by first | exact leT_refl _ | exact leT_sl | exact leT_sln | exact leT_nil) ?_)))) ?_)) ?_
       try simp -implicitDefEqProofs (maxSteps := 4000000) (disch := first | omega | decide | (simp only [go_sem]; omega)) only [go_sem, ↓reduceIte]
       repeat (with_reducible refine And.intro (by first | assumption | omega | (simp; done) | (simp; omega)) ?_)
       refine toEnd hC ?_
       refine endX_seq ?_
       refine runX_seq ?_
       refine runX_seq ?_
       refine runX_regionC fun C hC => ?_
       try simp -implicitDefEqProofs (maxSteps := 4000000) (disch := first | omega | decide | (simp only [go_sem]; omega)) only [go_sem, ↓reduceIte]
       repeat (with_reducible refine And.intro (by first | assumption | omega | (simp; done) | (simp; omega)) ?_)
       rcases iteB_some h with ⟨c11, h⟩ | ⟨c11, h⟩
       ·refine guardK_F c11 ?_
        try simp -implicitDefEqProofs (maxSteps := 4000000) (disch := first | omega | decide | (simp only [go_sem]; omega)) only [go_sem, ↓reduceIte]
        repeat (with_reducible refine And.intro (by first | assumption | omega | (simp; done) | (simp; omega)) ?_)
        refine toEnd hC ?_
        refine endX_seq ?_
        refine runX_condT rfl rfl ?_
        refine runX_seq ?_
        refine runX_regionC fun C hC => ?_
        try simp -implicitDefEqProofs (maxSteps := 4000000) (disch := first | omega | decide | (simp only [go_sem]; omega)) only [go_sem, ↓reduceIte]
        repeat (with_reducible refine And.intro (by first | assumption | omega | (simp; done) | (simp; omega)) ?_)
        refine toEnd hC ?_
        refine endX_seq ?_
        refine runX_ret ?_
        refine endX_seqR ?_
        refine endX_q ?_
        obtain rfl := Option.some.inj h
        show RetW _ _ _ _ _
        simp only [RetW]
        (try simp -implicitDefEqProofs (maxSteps := 4000000) (disch := first | omega | decide | (simp only [go_sem]; omega)) only [go_sem, ↓reduceIte])
        (try simp (disch := omega) only [if_pos, Nat.sub_zero])
        exact leT_refl _
       ·refine guardK_T c11 ?_
        try simp -implicitDefEqProofs (maxSteps := 4000000) (disch := first | omega | decide | (simp only [go_sem]; omega)) only [go_sem, ↓reduceIte]
        repeat (with_reducible refine And.intro (by first | assumption | omega | (simp; done) | (simp; omega)) ?_)
        rcases iteB_some h with ⟨c12, h⟩ | ⟨c12, h⟩
        ·refine guardK_F c12 ?_
         try simp -implicitDefEqProofs (maxSteps := 4000000) (disch := first | omega | decide | (simp only [go_sem]; omega)) only [go_sem, ↓reduceIte]
         repeat (with_reducible refine And.intro (by first | assumption | omega | (simp; done) | (simp; omega)) ?_)
         refine toEnd hC ?_
         refine endX_seq ?_
         refine runX_condT rfl rfl ?_
         refine runX_seq ?_
         refine runX_regionC fun C hC => ?_
         try simp -implicitDefEqProofs (maxSteps := 4000000) (disch := first | omega | decide | (simp only [go_sem]; omega)) only [go_sem, ↓reduceIte]
         repeat (with_reducible refine And.intro (by first | assumption | omega | (simp; done) | (simp; omega)) ?_)
         refine toEnd hC ?_
         refine endX_seq ?_
         refine runX_ret ?_
         refine endX_seqR ?_
         refine endX_q ?_
         obtain rfl := Option.some.inj h
         show RetW _ _ _ _ _
         simp only [RetW]
         (try simp -implicitDefEqProofs (maxSteps := 4000000) (disch := first | omega | decide | (simp only [go_sem]; omega)) only [go_sem, ↓reduceIte])
         (try simp (disch := omega) only [if_pos, Nat.sub_zero])
         exact leT_refl _
        ·refine guardK_T c12 ?_
         obtain ⟨v13, h13, h⟩ := bnd_some h
         try simp -implicitDefEqProofs (maxSteps := 4000000) (disch := first | omega | decide | (simp only [go_sem]; omega)) only [go_sem, ↓reduceIte]
         repeat (with_reducible refine And.intro (by first | assumption | omega | (simp; done) | (simp; omega)) ?_)
         refine callG_X (by first | rfl | (simp only [go_sem]; done) | (simp only [closedL, closedT, Bool.and_true]; exact closedL_map _ (fun _ => by first | rfl | (simp only [go_sem]; done)) _)) (F10_ok m1 v10.1 _ h13) (by repeat (first | exact leL_refl _ | refine leL_cons (by first | exact leT_refl _ | exact leT_virt | exact leT_junk _ | exact leT_sl | exact leT_sln | exact leT_nil | (refine leT_agg (by repeat (first | exact leL_refl _ | refine leL_cons (by first | exact leT_refl _ | exact leT_sl | exact leT_sln | exact leT_nil) ?_)))) ?_)) ?_
         try simp -implicitDefEqProofs (maxSteps := 4000000) (disch := first | omega | decide | (simp only [go_sem]; omega)) only [go_sem, ↓reduceIte]
         repeat (with_reducible refine And.intro (by first | assumption | omega | (simp; done) | (simp; omega)) ?_)
         rcases iteB_some h with ⟨c14, h⟩ | ⟨c14, h⟩
         ·refine guardK_F c14 ?_
          try simp -implicitDefEqProofs (maxSteps := 4000000) (disch := first | omega | decide | (simp only [go_sem]; omega)) only [go_sem, ↓reduceIte]
          repeat (with_reducible refine And.intro (by first | assumption | omega | (simp; done) | (simp; omega)) ?_)
          refine toEnd hC ?_
          refine endX_seq ?_
          refine runX_condT rfl rfl ?_
          refine runX_seq ?_
          refine runX_regionC fun C hC => ?_
          try simp -implicitDefEqProofs (maxSteps := 4000000) (disch := first | omega | decide | (simp only [go_sem]; omega)) only [go_sem, ↓reduceIte]
          repeat (with_reducible refine And.intro (by first | assumption | omega | (simp; done) | (simp; omega)) ?_)
          refine toEnd hC ?_
          refine endX_seq ?_
          refine runX_ret ?_
          refine endX_seqR ?_
          refine endX_q ?_
          obtain rfl := Option.some.inj h
          show RetW _ _ _ _ _
          simp only [RetW]
          (try simp -implicitDefEqProofs (maxSteps := 4000000) (disch := first | omega | decide | (simp only [go_sem]; omega)) only [go_sem, ↓reduceIte])
          (try simp (disch := omega) only [if_pos, Nat.sub_zero])
          exact leT_refl _
         ·refine guardK_T c14 ?_
          try simp -implicitDefEqProofs (maxSteps := 4000000) (disch := first | omega | decide | (simp only [go_sem]; omega)) only [go_sem, ↓reduceIte]
          repeat (with_reducible refine And.intro (by first | assumption | omega | (simp; done) | (simp; omega)) ?_)
          refine bldG_of [.imm (.string (bs ([97] : List UInt8))), .imm (.string (bs []))] (by kernel_rfl) ?_
          try simp -implicitDefEqProofs (maxSteps := 4000000) (disch := first | omega | decide | (simp only [go_sem]; omega)) only [go_sem, ↓reduceIte]
          repeat (with_reducible refine And.intro (by first | assumption | omega | (simp; done) | (simp; omega)) ?_)
          refine bs_go <| buildX_val ?_
          obtain ⟨v15, h15, h⟩ := bnd_some h
          try simp -implicitDefEqProofs (maxSteps := 4000000) (disch := first | omega | decide | (simp only [go_sem]; omega)) only [go_sem, ↓reduceIte]
          repeat (with_reducible refine And.intro (by first | assumption | omega | (simp; done) | (simp; omega)) ?_)
          refine callG_X (by first | rfl | (simp only [go_sem]; done) | (simp only [closedL, closedT, Bool.and_true]; exact closedL_map _ (fun _ => by first | rfl | (simp only [go_sem]; done)) _)) (F10_ok m1 ([(([97] : List UInt8), [])]) _ h15) (by repeat (first | exact leL_refl _ | refine leL_cons (by first | exact leT_refl _ | exact leT_sl | exact leT_sln | (refine leT_slX (by repeat (first | exact leE_refl _ | refine leE_cons (by first | exact leT_refl _ | exact leT_sl | (refine leT_agg (by repeat (first | exact leL_refl _ | refine leL_cons (by first | exact leT_refl _ | exact leT_sl | exact leT_sln) ?_)))) ?_)) rfl) | (refine leT_agg (by repeat (first | exact leL_refl _ | refine leL_cons (by first | exact leT_refl _ | exact leT_sl | exact leT_sln | (refine leT_slX (by repeat (first | exact leE_refl _ | refine leE_cons (by first | exact leT_refl _ | exact leT_sl | (refine leT_agg (by repeat (first | exact leL_refl _ | refine leL_cons (by first | exact leT_refl _ | exact leT_sl | exact leT_sln) ?_)))) ?_)) rfl)) ?_)))) ?_)) ?_
          try simp -implicitDefEqProofs (maxSteps := 4000000) (disch := first | omega | decide | (simp only [go_sem]; omega)) only [go_sem, ↓reduceIte]
          repeat (with_reducible refine And.intro (by first | assumption | omega | (simp; done) | (simp; omega)) ?_)
          refine toEnd hC ?_
          refine endX_seq ?_
          rcases iteB_some h with ⟨c16, h⟩ | ⟨c16, h⟩
          ·refine runX_condT rfl c16 ?_
           refine runX_seq ?_
           refine runX_regionC fun C hC => ?_
           try simp -implicitDefEqProofs (maxSteps := 4000000) (disch := first | omega | decide | (simp only [go_sem]; omega)) only [go_sem, ↓reduceIte]
           repeat (with_reducible refine And.intro (by first | assumption | omega | (simp; done) | (simp; omega)) ?_)
           refine toEnd hC ?_
           refine endX_seq ?_
           refine runX_ret ?_
           refine endX_seqR ?_
           refine endX_q ?_
           obtain rfl := Option.some.inj h
           show RetW _ _ _ _ _
           simp only [RetW]
           (try simp -implicitDefEqProofs (maxSteps := 4000000) (disch := first | omega | decide | (simp only [go_sem]; omega)) only [go_sem, ↓reduceIte])
           (try simp (disch := omega) only [if_pos, Nat.sub_zero])
           exact leT_refl _
          ·refine runX_condF rfl c16 ?_
           refine runX_skip ?_
           refine endX_seq ?_
           refine runX_meet [0, 11] (fun S => S = F4_S2 a0 v10 ∧ F4_J2 m1 a0 v10 = some r) ?_ ?_
           ·refine runX_seq ?_
            refine runX_regionC fun C hC => ?_
            try simp -implicitDefEqProofs (maxSteps := 4000000) (disch := first | omega | decide | (simp only [go_sem]; omega)) only [go_sem, ↓reduceIte]
            repeat (with_reducible refine And.intro (by first | assumption | omega | (simp; done) | (simp; omega)) ?_)
            refine toEnd hC ?_
            refine endX_seq ?_
            rcases iteB_some h with ⟨c17, h⟩ | ⟨c17, h⟩
            ·refine runX_condT rfl c17 ?_
             refine runX_seq ?_
             refine runX_regionC fun C hC => ?_
             obtain ⟨g18, h⟩ := grd_some h
             obtain ⟨g19, h⟩ := grd_some h
             try simp -implicitDefEqProofs (maxSteps := 4000000) (disch := first | omega | decide | (simp only [go_sem]; omega)) only [go_sem, ↓reduceIte]
             repeat (with_reducible refine And.intro (by first | assumption | omega | (simp; done) | (simp; omega)) ?_)
             refine toEnd hC ?_
             refine endX_seq ?_
             refine runX_seq ?_
             refine runX_draw2C mixed [5, 6, 7] (by kernel_rfl) fun C hC => ?_
             try simp -implicitDefEqProofs (maxSteps := 4000000) (disch := first | omega | decide | (simp only [go_sem]; omega)) only [go_sem, ↓reduceIte]
             repeat (with_reducible refine And.intro (by first | assumption | omega | (simp; done) | (simp; omega)) ?_)
             refine buildX_val ?_
             obtain ⟨g20, h⟩ := grd_some h
             obtain ⟨g21, h⟩ := grd_some h
             try simp -implicitDefEqProofs (maxSteps := 4000000) (disch := first | omega | decide | (simp only [go_sem]; omega)) only [go_sem, ↓reduceIte]
             repeat (with_reducible refine And.intro (by first | assumption | omega | (simp; done) | (simp; omega)) ?_)
             refine drawK2_mv ?_
             obtain ⟨g22, h⟩ := grd_some h
             obtain ⟨g23, h⟩ := grd_some h
             try simp -implicitDefEqProofs (maxSteps := 4000000) (disch := first | omega | decide | (simp only [go_sem]; omega)) only [go_sem, ↓reduceIte]
             repeat (with_reducible refine And.intro (by first | assumption | omega | (simp; done) | (simp; omega)) ?_)
             refine drawK2_sh ?_
             try simp -implicitDefEqProofs (maxSteps := 4000000) (disch := first | omega | decide | (simp only [go_sem]; omega)) only [go_sem, ↓reduceIte]
             repeat (with_reducible refine And.intro (by first | assumption | omega | (simp; done) | (simp; omega)) ?_)
             refine toEnd hC ?_
             refine endX_seq ?_
             refine runX_seq ?_
             refine runX_regionC fun C hC => ?_
             obtain ⟨v24, h24, h⟩ := bnd_some h
             try simp -implicitDefEqProofs (maxSteps := 4000000) (disch := first | omega | decide | (simp only [go_sem]; omega)) only [go_sem, ↓reduceIte]
             repeat (with_reducible refine And.intro (by first | assumption | omega | (simp; done) | (simp; omega)) ?_)
             refine callG_X (by first | rfl | (simp only [go_sem]; done) | (simp only [closedL, closedT, Bool.and_true]; exact closedL_map _ (fun _ => by first | rfl | (simp only [go_sem]; done)) _)) (F10_ok m1 ((a0.drop ((IntKind.wrap .i64 ((a1.tmod (a0.length : Int)) + (a0.length : Int))).tmod (a0.length : Int)).toNat) ++ (a0.take ((IntKind.wrap .i64 ((a1.tmod (a0.length : Int)) + (a0.length : Int))).tmod (a0.length : Int)).toNat)) _ h24) (by repeat (first | exact leL_refl _ | refine leL_cons (by first | exact leT_refl _ | exact leT_virt | exact leT_junk _ | exact leT_sl | exact leT_sln | exact leT_nil | (refine leT_agg (by repeat (first | exact leL_refl _ | refine leL_cons (by first | exact leT_refl _ | exact leT_sl | exact leT_sln | exact leT_nil) ?_)))) ?_)) ?_
             try simp -implicitDefEqProofs (maxSteps := 4000000) (disch := first | omega | decide | (simp only [go_sem]; omega)) only [go_sem, ↓reduceIte]
             repeat (with_reducible refine And.intro (by first | assumption | omega | (simp; done) | (simp; omega)) ?_)
             refine toEnd hC ?_
             refine endX_seq ?_
             rcases iteB_some h with ⟨c25, h⟩ | ⟨c25, h⟩
             ·refine runX_condT rfl c25 ?_
              refine runX_seq ?_
              refine runX_regionC fun C hC => ?_
              try simp -implicitDefEqProofs (maxSteps := 4000000) (disch := first | omega | decide | (simp only [go_sem]; omega)) only [go_sem, ↓reduceIte]
              repeat (with_reducible refine And.intro (by first | assumption | omega | (simp; done) | (simp; omega)) ?_)
              refine toEnd hC ?_
              refine endX_seq ?_
              refine runX_ret ?_
              refine endX_q (meetQ_ret ?_)
              refine endX_seqR ?_
              refine endX_q ?_
              obtain rfl := Option.some.inj h
              show RetW _ _ _ _ _
              simp only [RetW]
              (try simp -implicitDefEqProofs (maxSteps := 4000000) (disch := first | omega | decide | (simp only [go_sem]; omega)) only [go_sem, ↓reduceIte])
              (try simp (disch := omega) only [if_pos, Nat.sub_zero])
              exact leT_refl _
             ·refine runX_condF rfl c25 ?_
              refine runX_skip ?_
              refine endX_q (meetQ_normal ⟨F4_S2 a0 v10, ?_, rfl, h⟩)
              simp only [F4_S2]
              (try simp -implicitDefEqProofs (maxSteps := 4000000) (disch := first | omega | decide | (simp only [go_sem]; omega)) only [go_sem, ↓reduceIte])
              first | exact leS_refl _ | (refine leS_le ?_ ?_ <;> first | exact leL_refl _ | exact leOs_refl _ | (simp only [List.append_assoc, List.cons_append, List.nil_append]; exact leOs_refl _) | (refine leOs.cons (by first | exact leO.same _ | (refine leO.box (leT_agg (by repeat (first | exact leL_refl _ | refine leL_cons (by first | exact leT_refl _ | exact leT_virt | exact leT_junk _ | exact leT_sl | exact leT_sln | exact leT_nil | (refine leT_agg (by repeat (first | exact leL_refl _ | refine leL_cons (by first | exact leT_refl _ | exact leT_sl | exact leT_sln | exact leT_nil) ?_)))) ?_))) rfl) | (refine leO.box (by first | exact leT_virt | exact leT_sl | exact leT_sln) rfl)) ?_; repeat (first | exact leOs_refl _ | refine leOs.cons (by first | exact leO.same _ | (refine leO.box (leT_agg (by repeat (first | exact leL_refl _ | refine leL_cons (by first | exact leT_refl _ | exact leT_virt | exact leT_junk _ | exact leT_sl | exact leT_sln | exact leT_nil | (refine leT_agg (by repeat (first | exact leL_refl _ | refine leL_cons (by first | exact leT_refl _ | exact leT_sl | exact leT_sln | exact leT_nil) ?_)))) ?_))) rfl) | (refine leO.box (by first | exact leT_virt | exact leT_sl | exact leT_sln) rfl)) ?_)) | (repeat (first | exact leL_refl _ | refine leL_cons (by first | exact leT_refl _ | exact leT_virt | exact leT_junk _ | exact leT_sl | exact leT_sln | exact leT_nil | (refine leT_agg (by repeat (first | exact leL_refl _ | refine leL_cons (by first | exact leT_refl _ | exact leT_sl | exact leT_sln | exact leT_nil) ?_)))) ?_)))
            ·refine runX_condF rfl c17 ?_
             refine runX_skip ?_
             refine endX_q (meetQ_normal ⟨F4_S2 a0 v10, ?_, rfl, h⟩)
             simp only [F4_S2]
             (try simp -implicitDefEqProofs (maxSteps := 4000000) (disch := first | omega | decide | (simp only [go_sem]; omega)) only [go_sem, ↓reduceIte])
             first | exact leS_refl _ | (refine leS_le ?_ ?_ <;> first | exact leL_refl _ | exact leOs_refl _ | (simp only [List.append_assoc, List.cons_append, List.nil_append]; exact leOs_refl _) | (refine leOs.cons (by first | exact leO.same _ | (refine leO.box (leT_agg (by repeat (first | exact leL_refl _ | refine leL_cons (by first | exact leT_refl _ | exact leT_virt | exact leT_junk _ | exact leT_sl | exact leT_sln | exact leT_nil | (refine leT_agg (by repeat (first | exact leL_refl _ | refine leL_cons (by first | exact leT_refl _ | exact leT_sl | exact leT_sln | exact leT_nil) ?_)))) ?_))) rfl) | (refine leO.box (by first | exact leT_virt | exact leT_sl | exact leT_sln) rfl)) ?_; repeat (first | exact leOs_refl _ | refine leOs.cons (by first | exact leO.same _ | (refine leO.box (leT_agg (by repeat (first | exact leL_refl _ | refine leL_cons (by first | exact leT_refl _ | exact leT_virt | exact leT_junk _ | exact leT_sl | exact leT_sln | exact leT_nil | (refine leT_agg (by repeat (first | exact leL_refl _ | refine leL_cons (by first | exact leT_refl _ | exact leT_sl | exact leT_sln | exact leT_nil) ?_)))) ?_))) rfl) | (refine leO.box (by first | exact leT_virt | exact leT_sl | exact leT_sln) rfl)) ?_)) | (repeat (first | exact leL_refl _ | refine leL_cons (by first | exact leT_refl _ | exact leT_virt | exact leT_junk _ | exact leT_sl | exact leT_sln | exact leT_nil | (refine leT_agg (by repeat (first | exact leL_refl _ | refine leL_cons (by first | exact leT_refl _ | exact leT_sl | exact leT_sln | exact leT_nil) ?_)))) ?_)))
           ·clear h
            rintro S ⟨rfl, h⟩
            rw [F4_J2] at h
            simp only [F4_S2]
            refine runX_seq ?_
            refine runX_seq ?_
            refine runX_regionC fun C hC => ?_
            try simp -implicitDefEqProofs (maxSteps := 4000000) (disch := first | omega | decide | (simp only [go_sem]; omega)) only [go_sem, ↓reduceIte]
            repeat (with_reducible refine And.intro (by first | assumption | omega | (simp; done) | (simp; omega)) ?_)
            refine toEnd hC ?_
            refine endX_seq ?_
            refine runX_block ?_
            refine runX_loop [0, 11, 15] (fun m S => ∃ (x26 : Int), S = F4_S3 a0 v10 x26 ∧ m ≤ m1 ∧ F4_L3 m a0 v10 x26 = some r) m1 ⟨F4_S3 a0 v10 (0 : Int), ?_, (0 : Int), rfl, Nat.le_refl _, h⟩ ?_
            ·simp only [F4_S3]
             (try simp -implicitDefEqProofs (maxSteps := 4000000) (disch := first | omega | decide | (simp only [go_sem]; omega)) only [go_sem, ↓reduceIte])
             first | exact leS_refl _ | (refine leS_le ?_ ?_ <;> first | exact leL_refl _ | exact leOs_refl _ | (simp only [List.append_assoc, List.cons_append, List.nil_append]; exact leOs_refl _) | (refine leOs.cons (by first | exact leO.same _ | (refine leO.box (leT_agg (by repeat (first | exact leL_refl _ | refine leL_cons (by first | exact leT_refl _ | exact leT_virt | exact leT_junk _ | exact leT_sl | exact leT_sln | exact leT_nil | (refine leT_agg (by repeat (first | exact leL_refl _ | refine leL_cons (by first | exact leT_refl _ | exact leT_sl | exact leT_sln | exact leT_nil) ?_)))) ?_))) rfl) | (refine leO.box (by first | exact leT_virt | exact leT_sl | exact leT_sln) rfl)) ?_; repeat (first | exact leOs_refl _ | refine leOs.cons (by first | exact leO.same _ | (refine leO.box (leT_agg (by repeat (first | exact leL_refl _ | refine leL_cons (by first | exact leT_refl _ | exact leT_virt | exact leT_junk _ | exact leT_sl | exact leT_sln | exact leT_nil | (refine leT_agg (by repeat (first | exact leL_refl _ | refine leL_cons (by first | exact leT_refl _ | exact leT_sl | exact leT_sln | exact leT_nil) ?_)))) ?_))) rfl) | (refine leO.box (by first | exact leT_virt | exact leT_sl | exact leT_sln) rfl)) ?_)) | (repeat (first | exact leL_refl _ | refine leL_cons (by first | exact leT_refl _ | exact leT_virt | exact leT_junk _ | exact leT_sl | exact leT_sln | exact leT_nil | (refine leT_agg (by repeat (first | exact leL_refl _ | refine leL_cons (by first | exact leT_refl _ | exact leT_sl | exact leT_sln | exact leT_nil) ?_)))) ?_)))
            ·clear h
             rintro m3 S ⟨x26, rfl, hm3, h⟩
             cases m3 with
             | zero => first | cases (show (none : Option _) = some _ from h) | (rw [F4_L3] at h; cases h)
             | succ m3 =>
              rw [F4_L3] at h
              simp only [F4_S3]
              refine runX_seq ?_
              refine runX_seq ?_
              refine runX_regionC fun C hC => ?_
              try simp -implicitDefEqProofs (maxSteps := 4000000) (disch := first | omega | decide | (simp only [go_sem]; omega)) only [go_sem, ↓reduceIte]
              repeat (with_reducible refine And.intro (by first | assumption | omega | (simp; done) | (simp; omega)) ?_)
              refine toEnd hC ?_
              refine endX_seq ?_
              rcases iteB_some h with ⟨c27, h⟩ | ⟨c27, h⟩
              ·refine runX_condT rfl c27 ?_
               refine runX_skip ?_
               refine endX_seq ?_
               refine runX_seq ?_
               refine runX_block ?_
               refine runX_seq ?_
               refine runX_regionC fun C hC => ?_
               try simp -implicitDefEqProofs (maxSteps := 4000000) (disch := first | omega | decide | (simp only [go_sem]; omega)) only [go_sem, ↓reduceIte]
               repeat (with_reducible refine And.intro (by first | assumption | omega | (simp; done) | (simp; omega)) ?_)
               refine toEnd hC ?_
               refine endX_seq ?_
               refine runX_seq ?_
               refine runX_seq ?_
               refine runX_regionC fun C hC => ?_
               try simp -implicitDefEqProofs (maxSteps := 4000000) (disch := first | omega | decide | (simp only [go_sem]; omega)) only [go_sem, ↓reduceIte]
               repeat (with_reducible refine And.intro (by first | assumption | omega | (simp; done) | (simp; omega)) ?_)
               refine toEnd hC ?_
               refine endX_seq ?_
               refine runX_block ?_
               refine runX_loop [0, 11, 15, 16, 17] (fun m S => ∃ (x28 : Int) (x29 : Int), S = F4_S4 a0 v10 x26 x28 x29 ∧ m ≤ m3 ∧ F4_L4 m a0 v10 x26 x28 x29 = some r) m3 ⟨F4_S4 a0 v10 x26 (0 : Int) (0 : Int), ?_, (0 : Int), (0 : Int), rfl, Nat.le_refl _, h⟩ ?_
               ·simp only [F4_S4]
                (try simp -implicitDefEqProofs (maxSteps := 4000000) (disch := first | omega | decide | (simp only [go_sem]; omega)) only [go_sem, ↓reduceIte])
                first | exact leS_refl _ | (refine leS_le ?_ ?_ <;> first | exact leL_refl _ | exact leOs_refl _ | (simp only [List.append_assoc, List.cons_append, List.nil_append]; exact leOs_refl _) | (refine leOs.cons (by first | exact leO.same _ | (refine leO.box (leT_agg (by repeat (first | exact leL_refl _ | refine leL_cons (by first | exact leT_refl _ | exact leT_virt | exact leT_junk _ | exact leT_sl | exact leT_sln | exact leT_nil | (refine leT_agg (by repeat (first | exact leL_refl _ | refine leL_cons (by first | exact leT_refl _ | exact leT_sl | exact leT_sln | exact leT_nil) ?_)))) ?_))) rfl) | (refine leO.box (by first | exact leT_virt | exact leT_sl | exact leT_sln) rfl)) ?_; repeat (first | exact leOs_refl _ | refine leOs.cons (by first | exact leO.same _ | (refine leO.box (leT_agg (by repeat (first | exact leL_refl _ | refine leL_cons (by first | exact leT_refl _ | exact leT_virt | exact leT_junk _ | exact leT_sl | exact leT_sln | exact leT_nil | (refine leT_agg (by repeat (first | exact leL_refl _ | refine leL_cons (by first | exact leT_refl _ | exact leT_sl | exact leT_sln | exact leT_nil) ?_)))) ?_))) rfl) | (refine leO.box (by first | exact leT_virt | exact leT_sl | exact leT_sln) rfl)) ?_)) | (repeat (first | exact leL_refl _ | refine leL_cons (by first | exact leT_refl _ | exact leT_virt | exact leT_junk _ | exact leT_sl | exact leT_sln | exact leT_nil | (refine leT_agg (by repeat (first | exact leL_refl _ | refine leL_cons (by first | exact leT_refl _ | exact leT_sl | exact leT_sln | exact leT_nil) ?_)))) ?_)))
               ·clear h
                rintro m4 S ⟨x28, x29, rfl, hm4, h⟩
                cases m4 with
                | zero => first | cases (show (none : Option _) = some _ from h) | (rw [F4_L4] at h; cases h)
                | succ m4 =>
                 rw [F4_L4] at h
                 simp only [F4_S4]
                 refine runX_seq ?_
                 refine runX_seq ?_
                 refine runX_regionC fun C hC => ?_
                 try simp -implicitDefEqProofs (maxSteps := 4000000) (disch := first | omega | decide | (simp only [go_sem]; omega)) only [go_sem, ↓reduceIte]
                 repeat (with_reducible refine And.intro (by first | assumption | omega | (simp; done) | (simp; omega)) ?_)
                 refine toEnd hC ?_
                 refine endX_seq ?_
                 rcases iteB_some h with ⟨c30, h⟩ | ⟨c30, h⟩
                 ·refine runX_condT rfl c30 ?_
                  refine runX_skip ?_
                  refine endX_seq ?_
                  refine runX_seq ?_
                  refine runX_block ?_
                  refine runX_meet [0, 11, 15, 16, 17] (fun S => ∃ (x34 : Int), S = F4_S5 a0 v10 x26 x29 x34 ∧ F4_J5 m4 a0 v10 x26 x29 x34 = some r) ?_ ?_
                  ·refine runX_seq ?_
                   refine runX_drawC mixed (by kernel_rfl) fun C hC => ?_
                   obtain ⟨g31, h⟩ := grd_some h
                   obtain ⟨g32, h⟩ := grd_some h
                   try simp -implicitDefEqProofs (maxSteps := 4000000) (disch := first | omega | decide | (simp only [go_sem]; omega)) only [go_sem, ↓reduceIte]
                   repeat (with_reducible refine And.intro (by first | assumption | omega | (simp; done) | (simp; omega)) ?_)
                   refine toEnd hC ?_
                   refine endX_seq ?_
                   rcases iteB_some h with ⟨c33, h⟩ | ⟨c33, h⟩
                   ·refine runX_condT rfl c33 ?_
                    refine runX_regionC fun C hC => ?_
                    try simp -implicitDefEqProofs (maxSteps := 4000000) (disch := first | omega | decide | (simp only [go_sem]; omega)) only [go_sem, ↓reduceIte]
                    repeat (with_reducible refine And.intro (by first | assumption | omega | (simp; done) | (simp; omega)) ?_)
                    refine toEnd hC ?_
                    refine endX_q (meetQ_normal ⟨F4_S5 a0 v10 x26 x29 (IntKind.wrap .i64 (x28 + (1 : Int))), ?_, (IntKind.wrap .i64 (x28 + (1 : Int))), rfl, h⟩)
                    simp only [F4_S5]
                    (try simp -implicitDefEqProofs (maxSteps := 4000000) (disch := first | omega | decide | (simp only [go_sem]; omega)) only [go_sem, ↓reduceIte])
                    first | exact leS_refl _ | (refine leS_le ?_ ?_ <;> first | exact leL_refl _ | exact leOs_refl _ | (simp only [List.append_assoc, List.cons_append, List.nil_append]; exact leOs_refl _) | (refine leOs.cons (by first | exact leO.same _ | (refine leO.box (leT_agg (by repeat (first | exact leL_refl _ | refine leL_cons (by first | exact leT_refl _ | exact leT_virt | exact leT_junk _ | exact leT_sl | exact leT_sln | exact leT_nil | (refine leT_agg (by repeat (first | exact leL_refl _ | refine leL_cons (by first | exact leT_refl _ | exact leT_sl | exact leT_sln | exact leT_nil) ?_)))) ?_))) rfl) | (refine leO.box (by first | exact leT_virt | exact leT_sl | exact leT_sln) rfl)) ?_; repeat (first | exact leOs_refl _ | refine leOs.cons (by first | exact leO.same _ | (refine leO.box (leT_agg (by repeat (first | exact leL_refl _ | refine leL_cons (by first | exact leT_refl _ | exact leT_virt | exact leT_junk _ | exact leT_sl | exact leT_sln | exact leT_nil | (refine leT_agg (by repeat (first | exact leL_refl _ | refine leL_cons (by first | exact leT_refl _ | exact leT_sl | exact leT_sln | exact leT_nil) ?_)))) ?_))) rfl) | (refine leO.box (by first | exact leT_virt | exact leT_sl | exact leT_sln) rfl)) ?_)) | (repeat (first | exact leL_refl _ | refine leL_cons (by first | exact leT_refl _ | exact leT_virt | exact leT_junk _ | exact leT_sl | exact leT_sln | exact leT_nil | (refine leT_agg (by repeat (first | exact leL_refl _ | refine leL_cons (by first | exact leT_refl _ | exact leT_sl | exact leT_sln | exact leT_nil) ?_)))) ?_)))
                   ·refine runX_condF rfl c33 ?_
                    refine runX_skip ?_
                    refine endX_q (meetQ_normal ⟨F4_S5 a0 v10 x26 x29 x28, ?_, x28, rfl, h⟩)
                    simp only [F4_S5]
                    (try simp -implicitDefEqProofs (maxSteps := 4000000) (disch := first | omega | decide | (simp only [go_sem]; omega)) only [go_sem, ↓reduceIte])
                    first | exact leS_refl _ | (refine leS_le ?_ ?_ <;> first | exact leL_refl _ | exact leOs_refl _ | (simp only [List.append_assoc, List.cons_append, List.nil_append]; exact leOs_refl _) | (refine leOs.cons (by first | exact leO.same _ | (refine leO.box (leT_agg (by repeat (first | exact leL_refl _ | refine leL_cons (by first | exact leT_refl _ | exact leT_virt | exact leT_junk _ | exact leT_sl | exact leT_sln | exact leT_nil | (refine leT_agg (by repeat (first | exact leL_refl _ | refine leL_cons (by first | exact leT_refl _ | exact leT_sl | exact leT_sln | exact leT_nil) ?_)))) ?_))) rfl) | (refine leO.box (by first | exact leT_virt | exact leT_sl | exact leT_sln) rfl)) ?_; repeat (first | exact leOs_refl _ | refine leOs.cons (by first | exact leO.same _ | (refine leO.box (leT_agg (by repeat (first | exact leL_refl _ | refine leL_cons (by first | exact leT_refl _ | exact leT_virt | exact leT_junk _ | exact leT_sl | exact leT_sln | exact leT_nil | (refine leT_agg (by repeat (first | exact leL_refl _ | refine leL_cons (by first | exact leT_refl _ | exact leT_sl | exact leT_sln | exact leT_nil) ?_)))) ?_))) rfl) | (refine leO.box (by first | exact leT_virt | exact leT_sl | exact leT_sln) rfl)) ?_)) | (repeat (first | exact leL_refl _ | refine leL_cons (by first | exact leT_refl _ | exact leT_virt | exact leT_junk _ | exact leT_sl | exact leT_sln | exact leT_nil | (refine leT_agg (by repeat (first | exact leL_refl _ | refine leL_cons (by first | exact leT_refl _ | exact leT_sl | exact leT_sln | exact leT_nil) ?_)))) ?_)))
                  ·clear h
                   rintro S ⟨x34, rfl, h⟩
                   rw [F4_J5] at h
                   simp only [F4_S5]
                   refine runX_seq ?_
                   refine runX_drawC mixed (by kernel_rfl) fun C hC => ?_
                   obtain ⟨g35, h⟩ := grd_some h
                   obtain ⟨g36, h⟩ := grd_some h
                   try simp -implicitDefEqProofs (maxSteps := 4000000) (disch := first | omega | decide | (simp only [go_sem]; omega)) only [go_sem, ↓reduceIte]
                   repeat (with_reducible refine And.intro (by first | assumption | omega | (simp; done) | (simp; omega)) ?_)
                   refine toEnd hC ?_
                   refine endX_seq ?_
                   rcases iteB_some h with ⟨c37, h⟩ | ⟨c37, h⟩
                   ·refine runX_condT rfl c37 ?_
                    refine runX_regionC fun C hC => ?_
                    try simp -implicitDefEqProofs (maxSteps := 4000000) (disch := first | omega | decide | (simp only [go_sem]; omega)) only [go_sem, ↓reduceIte]
                    repeat (with_reducible refine And.intro (by first | assumption | omega | (simp; done) | (simp; omega)) ?_)
                    refine toEnd hC ?_
                    refine endX_blk ?_
                    refine endX_seq ?_
                    refine runX_regionC fun C hC => ?_
                    try simp -implicitDefEqProofs (maxSteps := 4000000) (disch := first | omega | decide | (simp only [go_sem]; omega)) only [go_sem, ↓reduceIte]
                    repeat (with_reducible refine And.intro (by first | assumption | omega | (simp; done) | (simp; omega)) ?_)
                    refine toEnd hC ?_
                    refine endX_q (roundQ_normal ⟨m4, by omega, F4_S4 a0 v10 x26 (IntKind.wrap .i64 (x34 - (1 : Int))) (IntKind.wrap .i64 (x29 + (1 : Int))), ?_, (IntKind.wrap .i64 (x34 - (1 : Int))), (IntKind.wrap .i64 (x29 + (1 : Int))), rfl, by omega, h⟩)
                    simp only [F4_S4]
                    (try simp -implicitDefEqProofs (maxSteps := 4000000) (disch := first | omega | decide | (simp only [go_sem]; omega)) only [go_sem, ↓reduceIte])
                    first | exact leS_refl _ | (refine leS_le ?_ ?_ <;> first | exact leL_refl _ | exact leOs_refl _ | (simp only [List.append_assoc, List.cons_append, List.nil_append]; exact leOs_refl _) | (refine leOs.cons (by first | exact leO.same _ | (refine leO.box (leT_agg (by repeat (first | exact leL_refl _ | refine leL_cons (by first | exact leT_refl _ | exact leT_virt | exact leT_junk _ | exact leT_sl | exact leT_sln | exact leT_nil | (refine leT_agg (by repeat (first | exact leL_refl _ | refine leL_cons (by first | exact leT_refl _ | exact leT_sl | exact leT_sln | exact leT_nil) ?_)))) ?_))) rfl) | (refine leO.box (by first | exact leT_virt | exact leT_sl | exact leT_sln) rfl)) ?_; repeat (first | exact leOs_refl _ | refine leOs.cons (by first | exact leO.same _ | (refine leO.box (leT_agg (by repeat (first | exact leL_refl _ | refine leL_cons (by first | exact leT_refl _ | exact leT_virt | exact leT_junk _ | exact leT_sl | exact leT_sln | exact leT_nil | (refine leT_agg (by repeat (first | exact leL_refl _ | refine leL_cons (by first | exact leT_refl _ | exact leT_sl | exact leT_sln | exact leT_nil) ?_)))) ?_))) rfl) | (refine leO.box (by first | exact leT_virt | exact leT_sl | exact leT_sln) rfl)) ?_)) | (repeat (first | exact leL_refl _ | refine leL_cons (by first | exact leT_refl _ | exact leT_virt | exact leT_junk _ | exact leT_sl | exact leT_sln | exact leT_nil | (refine leT_agg (by repeat (first | exact leL_refl _ | refine leL_cons (by first | exact leT_refl _ | exact leT_sl | exact leT_sln | exact leT_nil) ?_)))) ?_)))
                   ·refine runX_condF rfl c37 ?_
                    refine runX_skip ?_
                    refine endX_blk ?_
                    refine endX_seq ?_
                    refine runX_regionC fun C hC => ?_
                    try simp -implicitDefEqProofs (maxSteps := 4000000) (disch := first | omega | decide | (simp only [go_sem]; omega)) only [go_sem, ↓reduceIte]
                    repeat (with_reducible refine And.intro (by first | assumption | omega | (simp; done) | (simp; omega)) ?_)
                    refine toEnd hC ?_
                    refine endX_q (roundQ_normal ⟨m4, by omega, F4_S4 a0 v10 x26 x34 (IntKind.wrap .i64 (x29 + (1 : Int))), ?_, x34, (IntKind.wrap .i64 (x29 + (1 : Int))), rfl, by omega, h⟩)
                    simp only [F4_S4]
                    (try simp -implicitDefEqProofs (maxSteps := 4000000) (disch := first | omega | decide | (simp only [go_sem]; omega)) only [go_sem, ↓reduceIte])
                    first | exact leS_refl _ | (refine leS_le ?_ ?_ <;> first | exact leL_refl _ | exact leOs_refl _ | (simp only [List.append_assoc, List.cons_append, List.nil_append]; exact leOs_refl _) | (refine leOs.cons (by first | exact leO.same _ | (refine leO.box (leT_agg (by repeat (first | exact leL_refl _ | refine leL_cons (by first | exact leT_refl _ | exact leT_virt | exact leT_junk _ | exact leT_sl | exact leT_sln | exact leT_nil | (refine leT_agg (by repeat (first | exact leL_refl _ | refine leL_cons (by first | exact leT_refl _ | exact leT_sl | exact leT_sln | exact leT_nil) ?_)))) ?_))) rfl) | (refine leO.box (by first | exact leT_virt | exact leT_sl | exact leT_sln) rfl)) ?_; repeat (first | exact leOs_refl _ | refine leOs.cons (by first | exact leO.same _ | (refine leO.box (leT_agg (by repeat (first | exact leL_refl _ | refine leL_cons (by first | exact leT_refl _ | exact leT_virt | exact leT_junk _ | exact leT_sl | exact leT_sln | exact leT_nil | (refine leT_agg (by repeat (first | exact leL_refl _ | refine leL_cons (by first | exact leT_refl _ | exact leT_sl | exact leT_sln | exact leT_nil) ?_)))) ?_))) rfl) | (refine leO.box (by first | exact leT_virt | exact leT_sl | exact leT_sln) rfl)) ?_)) | (repeat (first | exact leL_refl _ | refine leL_cons (by first | exact leT_refl _ | exact leT_virt | exact leT_junk _ | exact leT_sl | exact leT_sln | exact leT_nil | (refine leT_agg (by repeat (first | exact leL_refl _ | refine leL_cons (by first | exact leT_refl _ | exact leT_sl | exact leT_sln | exact leT_nil) ?_)))) ?_)))
                 ·refine runX_condF rfl c30 ?_
                  refine runX_exit ?_
                  refine endX_seqE ?_
                  refine endX_q (roundQ_exit ?_)
                  refine endX_blkE ?_
                  refine endX_seq ?_
                  refine runX_seq ?_
                  refine runX_regionC fun C hC => ?_
                  try simp -implicitDefEqProofs (maxSteps := 4000000) (disch := first | omega | decide | (simp only [go_sem]; omega)) only [go_sem, ↓reduceIte]
                  repeat (with_reducible refine And.intro (by first | assumption | omega | (simp; done) | (simp; omega)) ?_)
                  refine toEnd hC ?_
                  refine endX_seq ?_
                  rcases iteB_some h with ⟨c38, h⟩ | ⟨c38, h⟩
                  ·refine runX_condT rfl c38 ?_
                   refine runX_seq ?_
                   refine runX_regionC fun C hC => ?_
                   try simp -implicitDefEqProofs (maxSteps := 4000000) (disch := first | omega | decide | (simp only [go_sem]; omega)) only [go_sem, ↓reduceIte]
                   repeat (with_reducible refine And.intro (by first | assumption | omega | (simp; done) | (simp; omega)) ?_)
                   refine toEnd hC ?_
                   refine endX_seq ?_
                   refine runX_ret ?_
                   refine endX_blkR ?_
                   refine endX_seqR ?_
                   refine endX_q (roundQ_ret ?_)
                   refine endX_blkR ?_
                   refine endX_seqR ?_
                   refine endX_q ?_
                   obtain rfl := Option.some.inj h
                   show RetW _ _ _ _ _
                   simp only [RetW]
                   (try simp -implicitDefEqProofs (maxSteps := 4000000) (disch := first | omega | decide | (simp only [go_sem]; omega)) only [go_sem, ↓reduceIte])
                   (try simp (disch := omega) only [if_pos, Nat.sub_zero])
                   exact leT_refl _
                  ·refine runX_condF rfl c38 ?_
                   refine runX_skip ?_
                   refine endX_blk ?_
                   refine endX_seq ?_
                   refine runX_regionC fun C hC => ?_
                   try simp -implicitDefEqProofs (maxSteps := 4000000) (disch := first | omega | decide | (simp only [go_sem]; omega)) only [go_sem, ↓reduceIte]
                   repeat (with_reducible refine And.intro (by first | assumption | omega | (simp; done) | (simp; omega)) ?_)
                   refine toEnd hC ?_
                   refine endX_q (roundQ_normal ⟨m4, by omega, F4_S3 a0 v10 (IntKind.wrap .i64 (x26 + (1 : Int))), ?_, (IntKind.wrap .i64 (x26 + (1 : Int))), rfl, by omega, h⟩)
                   simp only [F4_S3]
                   (try simp -implicitDefEqProofs (maxSteps := 4000000) (disch := first | omega | decide | (simp only [go_sem]; omega)) only [go_sem, ↓reduceIte])
                   first | exact leS_refl _ | (refine leS_le ?_ ?_ <;> first | exact leL_refl _ | exact leOs_refl _ | (simp only [List.append_assoc, List.cons_append, List.nil_append]; exact leOs_refl _) | (refine leOs.cons (by first | exact leO.same _ | (refine leO.box (leT_agg (by repeat (first | exact leL_refl _ | refine leL_cons (by first | exact leT_refl _ | exact leT_virt | exact leT_junk _ | exact leT_sl | exact leT_sln | exact leT_nil | (refine leT_agg (by repeat (first | exact leL_refl _ | refine leL_cons (by first | exact leT_refl _ | exact leT_sl | exact leT_sln | exact leT_nil) ?_)))) ?_))) rfl) | (refine leO.box (by first | exact leT_virt | exact leT_sl | exact leT_sln) rfl)) ?_; repeat (first | exact leOs_refl _ | refine leOs.cons (by first | exact leO.same _ | (refine leO.box (leT_agg (by repeat (first | exact leL_refl _ | refine leL_cons (by first | exact leT_refl _ | exact leT_virt | exact leT_junk _ | exact leT_sl | exact leT_sln | exact leT_nil | (refine leT_agg (by repeat (first | exact leL_refl _ | refine leL_cons (by first | exact leT_refl _ | exact leT_sl | exact leT_sln | exact leT_nil) ?_)))) ?_))) rfl) | (refine leO.box (by first | exact leT_virt | exact leT_sl | exact leT_sln) rfl)) ?_)) | (repeat (first | exact leL_refl _ | refine leL_cons (by first | exact leT_refl _ | exact leT_virt | exact leT_junk _ | exact leT_sl | exact leT_sln | exact leT_nil | (refine leT_agg (by repeat (first | exact leL_refl _ | refine leL_cons (by first | exact leT_refl _ | exact leT_sl | exact leT_sln | exact leT_nil) ?_)))) ?_)))
              ·refine runX_condF rfl c27 ?_
               refine runX_exit ?_
               refine endX_seqE ?_
               refine endX_q (roundQ_exit ?_)
               refine endX_blkE ?_
               refine endX_seq ?_
               refine runX_seq ?_
               refine runX_regionC fun C hC => ?_
               try simp -implicitDefEqProofs (maxSteps := 4000000) (disch := first | omega | decide | (simp only [go_sem]; omega)) only [go_sem, ↓reduceIte]
               repeat (with_reducible refine And.intro (by first | assumption | omega | (simp; done) | (simp; omega)) ?_)
               refine toEnd hC ?_
               refine endX_seq ?_
               refine runX_ret ?_
               refine endX_q ?_
               obtain rfl := Option.some.inj h
               show RetW _ _ _ _ _
               simp only [RetW]
               (try simp -implicitDefEqProofs (maxSteps := 4000000) (disch := first | omega | decide | (simp only [go_sem]; omega)) only [go_sem, ↓reduceIte])
               (try simp (disch := omega) only [if_pos, Nat.sub_zero])
               exact leT_refl _
end Go.Proofs.YtdaojihnaajfeaaDoorX

/- Shapes of arguments, as plain values. Of no program. -/
set_option linter.unusedVariables false
namespace Go.Proofs.YtdaojihnaajfeaaDoorX
open Go Go.RowKit
theorem RepR.le {E : Env} {sz : Nat} : ∀ {l l' : List T} {c : List Value}, l.length = l'.length → (∀ i, leT anyE (l.getD i .junk) (l'.getD i .junk)) → RepR E sz l c → RepR E sz l' c
  | [], [], c, _, _, h => h
  | x :: l, y :: l', c, hl, hi, h => by
    simp only [RepR] at h ⊢
    obtain ⟨u, c', h1, h2, h3, h4⟩ := h
    exact ⟨u, c', h1, h2, by simpa using hi 0 E true u trivial (by simpa using h3), RepR.le (by simpa using hl) (fun i => by simpa using hi (i + 1)) h4⟩
  | [], _ :: _, c, hl, _, _ => by simp at hl
  | _ :: _, [], c, hl, _, _ => by simp at hl
theorem leT_slE {sz : Nat} {f : Bool} {l l' : List T} (hl : l.length = l'.length) (h : ∀ i, leT anyE (l.getD i .junk) (l'.getD i .junk)) : leT anyE (.sl sz f l) (.sl sz false l') := fun E cl v hp k => by
  simp only [Rep] at k ⊢
  obtain ⟨a, cap, c, h1, h2, h3, h4, h5⟩ := k
  exact ⟨a, cap, c, by rw [h1, hl], by rw [← hl]; exact h2, (fun h => by cases h), RepR.le hl h h4, h5⟩
theorem elems_shape {α : Type} (enc : α → T) (ok : α → Prop) : ∀ (l : List T), (∀ y ∈ l, ∃ v, leT anyE y (enc v) ∧ ok v) → ∃ vs : List α, vs.length = l.length ∧ (∀ i, leT anyE (l.getD i .junk) ((vs.map enc).getD i .junk)) ∧ ∀ v ∈ vs, ok v
  | [], _ => ⟨[], rfl, fun i => by simp [leT_refl], fun v hv => by simp at hv⟩
  | y :: l, h => by
    obtain ⟨v, h1, h2⟩ := h y (by simp)
    obtain ⟨vs, h3, h4, h5⟩ := elems_shape enc ok l fun z hz => h z (by simp [hz])
    refine ⟨v :: vs, by simp [h3], fun i => ?_, fun w hw => ?_⟩
    · cases i with
      | zero => simpa using h1
      | succ i => simpa using h4 i
    · rcases List.mem_cons.1 hw with rfl | hw
      · exact h2
      · exact h5 w hw
theorem sl_shape {α : Type} (enc : α → T) (ok : α → Prop) (l : List T) (h : ∀ y ∈ l, ∃ v, leT anyE y (enc v) ∧ ok v) {sz : Nat} {f : Bool} : ∃ vs : List α, leT anyE (.sl sz f l) (.sl sz false (vs.map enc)) ∧ vs.length = l.length ∧ ∀ v ∈ vs, ok v := by
  obtain ⟨vs, h1, h2, h3⟩ := elems_shape enc ok l h
  exact ⟨vs, leT_slE (by simp [h1]) h2, h1, h3⟩
end Go.Proofs.YtdaojihnaajfeaaDoorX

set_option linter.unusedVariables false
set_option linter.unusedSimpArgs false
namespace Go.Proofs.YtdaojihnaajfeaaDoorX
open Go Go.RowKit Go.Proofs
set_option maxRecDepth 100000
def okT9 (v : List UInt8) : Prop := v.length ≤ 9223372036854775807
def okT28 (v : (List UInt8) × (List UInt8)) : Prop := okT9 v.1 ∧ okT9 v.2
def okT22 (v : List ((List UInt8) × (List UInt8))) : Prop := v.length ≤ 9223372036854775807 ∧ ∀ y ∈ v, okT28 y
def okT3 (v : Int) : Prop := (-9223372036854775808 : Int) ≤ v ∧ v ≤ 9223372036854775807
theorem shp9 : ∀ (n : Nat) (x : T), ShapeW Tryd.prog n 9 x → ∃ v : List UInt8, x = .imm (.string (bs v)) ∧ okT9 v
  | 0, x, h => h.elim
  | n + 1, x, h => by
    simp only [ShapeW, Tryd.underlying9] at h
    obtain ⟨s, rfl, hs⟩ := h
    exact ⟨s.data.toList, by rw [← of_bs], hs⟩
theorem shp30 : ∀ (n : Nat) (x : T), ShapeW Tryd.prog n 30 x → ∃ v : (List UInt8) × (List UInt8), leT anyE x (.agg [.imm (.string (bs v.1)), .imm (.string (bs v.2))]) ∧ okT28 v
  | 0, x, h => h.elim
  | n + 1, x, h => by
    simp only [ShapeW, Tryd.underlying30] at h
    obtain ⟨ys, rfl, hl, hf⟩ := h
    match ys, hl with
    | [y0, y1], _ =>
      have h0 := hf 0 _ y0 rfl rfl
      obtain ⟨v0, rfl, k0⟩ := shp9 n _ h0
      have h1 := hf 1 _ y1 rfl rfl
      obtain ⟨v1, rfl, k1⟩ := shp9 n _ h1
      refine ⟨(v0, v1), leT_agg ?_, k0, k1⟩
      show leL anyE [_, _] _
      exact leL_cons (leT_refl _) (leL_cons (leT_refl _) (leL_nil))
theorem shp22 : ∀ (n : Nat) (x : T), ShapeW Tryd.prog n 22 x → ∃ (f : Bool) (l : List T) (v : List ((List UInt8) × (List UInt8))), x = .sl 2 f l ∧ leT anyE x (.sl 2 false (List.map eT28 v)) ∧ okT22 v
  | 0, x, h => h.elim
  | n + 1, x, h => by
    simp only [ShapeW, Tryd.underlying22] at h
    obtain ⟨f, l, rfl, hl, he⟩ := h
    rw [cz30]
    obtain ⟨v, h1, h2, h3⟩ := sl_shape eT28 okT28 l fun y hy => (by
      obtain ⟨v, hv, hk⟩ := shp30 n y (he y hy)
      exact ⟨v, hv, hk⟩)
    exact ⟨f, l, v, rfl, h1, by rw [h2]; exact hl, h3⟩
theorem shp3 : ∀ (n : Nat) (x : T), ShapeW Tryd.prog n 3 x → ∃ v : Int, x = .imm (.int .i64 v) ∧ okT3 v
  | 0, x, h => h.elim
  | n + 1, x, h => by
    simp only [ShapeW, Tryd.underlying3] at h
    obtain ⟨i, rfl, hi⟩ := h
    exact ⟨i, rfl, wf_of hi⟩
theorem shapedQueryBack (main : ∀ (v0 : List ((List UInt8) × (List UInt8))) (v1 : Int), okT22 v0 → okT3 v1 → ∃ n, F4 n v0 v1 = some true) (xs : List T) (h : ShapesW Tryd.prog [22, 3] xs) : FnC Tryd.prog 4 xs (tb true) := by
  obtain ⟨x0, xs0, rfl, ⟨n0, h0⟩, x1, xs1, rfl, ⟨n1, h1⟩, rfl⟩ := h
  obtain ⟨_, _, v0, _, e0, k0⟩ := shp22 _ _ h0
  obtain ⟨v1, rfl, k1⟩ := shp3 _ _ h1
  obtain ⟨N, hN⟩ := main v0 v1 k0 k1
  exact (F4_ok N v0 v1 true hN).le (leL_cons (e0) (leL_cons (leT_refl _) (leL_nil))) (leT_refl _)
end Go.Proofs.YtdaojihnaajfeaaDoorX

/- Plain functions with fuel: what they come to. Of no program. -/
set_option linter.unusedVariables false
set_option linter.unusedSimpArgs false
namespace Go.Proofs.YtdaojihnaajfeaaDoorX
open Go
def Ev {α : Type} (f : Nat → Option α) (r : α) : Prop := ∃ N, ∀ n, N ≤ n → f n = some r
theorem Ev.pure {α : Type} {r : α} : Ev (fun _ => some r) r := ⟨0, fun _ _ => rfl⟩
theorem Ev.const {α : Type} {x : Option α} {r : α} (h : x = some r) : Ev (fun _ => x) r := ⟨0, fun _ _ => h⟩
theorem Ev.bind {α β : Type} {f : Nat → Option α} {g : Nat → α → Option β} {v : α} {r : β} (h : Ev f v) (h' : Ev (fun n => g n v) r) : Ev (fun n => (f n).bind (g n)) r := by
  obtain ⟨N, h⟩ := h
  obtain ⟨M, h'⟩ := h'
  exact ⟨max N M, fun n hn => by show (f n).bind (g n) = _; rw [h n (by omega)]; exact h' n (by omega)⟩
theorem Ev.step {α : Type} {f : Nat → Option α} {r : α} (h : Ev (fun n => f (n + 1)) r) : Ev f r := by
  obtain ⟨N, h⟩ := h
  refine ⟨N + 1, fun n hn => ?_⟩
  obtain ⟨m, rfl⟩ : ∃ m, n = m + 1 := ⟨n - 1, by omega⟩
  exact h m (by omega)
theorem Ev.congr {α : Type} {f g : Nat → Option α} {r : α} (h : Ev g r) (e : ∀ n, f n = g n) : Ev f r := by
  obtain ⟨N, h⟩ := h
  exact ⟨N, fun n hn => (e n).trans (h n hn)⟩
theorem iteB_t {α : Type} (x y : Option α) : iteB true x y = x := rfl
theorem iteB_f {α : Type} (x y : Option α) : iteB false x y = y := rfl
theorem grd_t {α : Type} {p : Prop} [Decidable p] (x : Option α) (h : p) : grd p x = x := if_pos h
theorem bind_some' {α β : Type} (v : α) (g : α → Option β) : (some v).bind g = g v := rfl
theorem w64 {n : Int} (h : -9223372036854775808 ≤ n ∧ n ≤ 9223372036854775807) : IntKind.wrap .i64 n = n := Go.IntWalk.i64_in _ h
theorem wu8 {n : Int} (h : 0 ≤ n ∧ n ≤ 255) : IntKind.wrap .u8 n = n := Go.IntWalk.u8_in _ h
theorem u8_lt (a : UInt8) : (0 : Int) ≤ (a.toNat : Int) ∧ (a.toNat : Int) ≤ 255 := by
  have := a.toNat_lt; omega
theorem drop_cons {α : Type} (l : List α) (i : Nat) (d : α) (h : i < l.length) : l.drop i = l.getD i d :: l.drop (i + 1) := by
  rw [List.drop_eq_getElem_cons h, List.getD_eq_getElem?_getD, List.getElem?_eq_getElem h]; rfl
theorem toNat_nat (n : Nat) : ((n : Int)).toNat = n := rfl
end Go.Proofs.YtdaojihnaajfeaaDoorX

/- Bytes as numbers. Of no program. -/
set_option linter.unusedVariables false
set_option linter.unusedSimpArgs false
namespace Go.Proofs.YtdaojihnaajfeaaDoorX
open Go
def Bytes (l : List Int) : Prop := ∀ x ∈ l, 0 ≤ x ∧ x ≤ 255
theorem Bytes.cons {a : Int} {r : List Int} (h : 0 ≤ a ∧ a ≤ 255) (hr : Bytes r) : Bytes (a :: r) := by
  intro x hx
  rcases List.mem_cons.1 hx with rfl | hx
  · exact h
  · exact hr x hx
theorem Bytes.drop {l : List Int} (h : Bytes l) (n : Nat) : Bytes (l.drop n) := fun x hx => h x (List.mem_of_mem_drop hx)
theorem Bytes.append {l r : List Int} (h : Bytes l) (h' : Bytes r) : Bytes (l ++ r) := fun x hx => by
  rcases List.mem_append.1 hx with hx | hx
  · exact h x hx
  · exact h' x hx
def bt (s : List UInt8) (i : Nat) : Int := ((s.getD i 0).toNat : Int)
def ints (s : List UInt8) : List Int := s.map ofB
theorem ints_len (s : List UInt8) : (ints s).length = s.length := by simp [ints]
theorem ints_bytes (s : List UInt8) : Bytes (ints s) := by
  intro x hx
  unfold ints at hx
  obtain ⟨c, _, rfl⟩ := List.mem_map.1 hx
  exact u8_lt c
theorem ints_get (s : List UInt8) (i : Nat) : (ints s).getD i 0 = bt s i := by
  unfold ints bt
  rw [List.getD_eq_getElem?_getD, List.getElem?_map, List.getD_eq_getElem?_getD]
  cases s[i]? <;> rfl
theorem drop_bt (s : List UInt8) (i : Nat) (h : i < s.length) : (ints s).drop i = bt s i :: (ints s).drop (i + 1) := by
  rw [drop_cons (ints s) i 0 (by rw [ints_len]; exact h), ints_get]
theorem ofB_toB {x : Int} (h : 0 ≤ x ∧ x ≤ 255) : ofB (toB x) = x := by
  unfold ofB toB
  rw [UInt8.toNat_ofNat']
  omega
theorem map_toB_eq {l : List Int} (hl : Bytes l) (t : List UInt8) : (l.map toB == t) = decide (l = ints t) := by
  rw [Bool.eq_iff_iff, beq_iff_eq, decide_eq_true_eq]
  constructor
  · rintro rfl
    unfold ints
    rw [List.map_map]
    conv => lhs; rw [← List.map_id l]
    exact List.map_congr_left fun x hx => (ofB_toB (hl x hx)).symm
  · rintro rfl
    unfold ints
    rw [List.map_map]
    conv => rhs; rw [← List.map_id t]
    refine List.map_congr_left fun x _ => ?_
    show UInt8.ofNat ((x.toNat : Int)).toNat = x
    rw [toNat_nat]; simp
theorem of_ints {s : List UInt8} {l : List Int} (h : ints s = l) : s = l.map toB := by
  have hb : Bytes l := h ▸ ints_bytes s
  have := map_toB_eq hb s
  rw [h, decide_eq_true rfl] at this
  exact (beq_iff_eq.1 this).symm
theorem bq {a b : Int} (h : ¬ a = b) : (a == b) = false := beq_eq_false_iff_ne.2 h
theorem bqt {a b : Int} (h : a = b) : (a == b) = true := by rw [h]; exact beq_self_eq_true b
theorem all_bytes {l : List Int} (h : Bytes l) : (l.all fun x => decide (0 ≤ x) && decide (x < 256)) = true := by
  rw [List.all_eq_true]
  intro x hx
  have := h x hx
  simp only [Bool.and_eq_true, decide_eq_true_eq]
  omega
theorem g64 (i : Nat) (h : i ≤ 1000000000) : IntKind.wrap .i64 ((i : Int) + 1) = ((i + 1 : Nat) : Int) := by rw [w64 (by omega)]; omega
theorem Bytes.getD {l : List Int} (h : Bytes l) (i : Nat) : 0 ≤ l.getD i 0 ∧ l.getD i 0 ≤ 255 := by
  rw [List.getD_eq_getElem?_getD]
  cases e : l[i]? with
  | none => exact ⟨by decide, by decide⟩
  | some x => exact h x (List.mem_of_getElem? e)
theorem Bytes.take {l : List Int} (h : Bytes l) (n : Nat) : Bytes (l.take n) := fun x hx => h x (List.mem_of_mem_take hx)
end Go.Proofs.YtdaojihnaajfeaaDoorX

set_option linter.unusedVariables false
set_option linter.unusedSimpArgs false
namespace Go.Proofs.YtdaojihnaajfeaaDoorX
open Go Go.RowKit Go.Proofs
set_option maxRecDepth 100000
attribute [local go_sem ↓] stepsK_build stepsK_bs appendS
attribute [local go_sem] String.reduceEq String.reduceNe reduceCtorEq Int.reduceEq Nat.reduceAdd Nat.reduceSub Nat.reduceMul Nat.reduceLT Nat.reduceLeDiff Nat.reduceEqDiff Nat.reduceBEq Int.reduceToNat Int.reduceLT Int.reduceLE Int.reduceGT Int.reduceGE Int.reduceAdd Int.reduceSub Int.reduceMul Int.reduceNeg Int.reduceBEq Int.reduceBNe Int.reducePow Int.reduceDiv Int.reduceMod Int.reduceTDiv Int.reduceTMod Int.reduceNatCast
/-! ### shadowboxref04.Kind -/
def F93 (n : Nat) (a0 : Int) : Option (Int) := iteB (decide ((48 : Int) ≤ a0)) (iteB (decide (a0 ≤ (57 : Int))) (some (1 : Int)) (iteB (decide ((97 : Int) ≤ a0)) (iteB (decide (a0 ≤ (102 : Int))) (some (2 : Int)) (iteB (decide ((103 : Int) ≤ a0)) (iteB (decide (a0 ≤ (122 : Int))) (some (3 : Int)) (iteB (decide ((65 : Int) ≤ a0)) (iteB (decide (a0 ≤ (90 : Int))) (some (4 : Int)) (some (0 : Int))) (some (0 : Int)))) (iteB (decide ((65 : Int) ≤ a0)) (iteB (decide (a0 ≤ (90 : Int))) (some (4 : Int)) (some (0 : Int))) (some (0 : Int))))) (iteB (decide ((103 : Int) ≤ a0)) (iteB (decide (a0 ≤ (122 : Int))) (some (3 : Int)) (iteB (decide ((65 : Int) ≤ a0)) (iteB (decide (a0 ≤ (90 : Int))) (some (4 : Int)) (some (0 : Int))) (some (0 : Int)))) (iteB (decide ((65 : Int) ≤ a0)) (iteB (decide (a0 ≤ (90 : Int))) (some (4 : Int)) (some (0 : Int))) (some (0 : Int)))))) (iteB (decide ((97 : Int) ≤ a0)) (iteB (decide (a0 ≤ (102 : Int))) (some (2 : Int)) (iteB (decide ((103 : Int) ≤ a0)) (iteB (decide (a0 ≤ (122 : Int))) (some (3 : Int)) (iteB (decide ((65 : Int) ≤ a0)) (iteB (decide (a0 ≤ (90 : Int))) (some (4 : Int)) (some (0 : Int))) (some (0 : Int)))) (iteB (decide ((65 : Int) ≤ a0)) (iteB (decide (a0 ≤ (90 : Int))) (some (4 : Int)) (some (0 : Int))) (some (0 : Int))))) (iteB (decide ((103 : Int) ≤ a0)) (iteB (decide (a0 ≤ (122 : Int))) (some (3 : Int)) (iteB (decide ((65 : Int) ≤ a0)) (iteB (decide (a0 ≤ (90 : Int))) (some (4 : Int)) (some (0 : Int))) (some (0 : Int)))) (iteB (decide ((65 : Int) ≤ a0)) (iteB (decide (a0 ≤ (90 : Int))) (some (4 : Int)) (some (0 : Int))) (some (0 : Int)))))
end Go.Proofs.YtdaojihnaajfeaaDoorX

set_option linter.unusedVariables false
set_option linter.unusedSimpArgs false
namespace Go.Proofs.YtdaojihnaajfeaaDoorX
open Go Go.RowKit Go.Proofs
set_option maxRecDepth 100000
attribute [local go_sem ↓] stepsK_build stepsK_bs appendS
attribute [local go_sem] String.reduceEq String.reduceNe reduceCtorEq Int.reduceEq Nat.reduceAdd Nat.reduceSub Nat.reduceMul Nat.reduceLT Nat.reduceLeDiff Nat.reduceEqDiff Nat.reduceBEq Int.reduceToNat Int.reduceLT Int.reduceLE Int.reduceGT Int.reduceGE Int.reduceAdd Int.reduceSub Int.reduceMul Int.reduceNeg Int.reduceBEq Int.reduceBNe Int.reducePow Int.reduceDiv Int.reduceMod Int.reduceTDiv Int.reduceTMod Int.reduceNatCast
/-! ### shadowboxref04.value -/
def F92 (n : Nat) (a0 : Int) : Option (Int) := (F93 n a0).bind fun v1 => iteB (v1 == (1 : Int)) (some (IntKind.wrap .i64 ((IntKind.wrap .u8 (a0 - (48 : Int)))))) (iteB (v1 == (2 : Int)) (some (IntKind.wrap .i64 ((IntKind.wrap .i64 ((IntKind.wrap .u8 (a0 - (97 : Int))))) + (10 : Int)))) (some (-1 : Int)))
end Go.Proofs.YtdaojihnaajfeaaDoorX

set_option linter.unusedVariables false
set_option linter.unusedSimpArgs false
namespace Go.Proofs.YtdaojihnaajfeaaDoorX
open Go Go.RowKit Go.Proofs
set_option maxRecDepth 100000
attribute [local go_sem ↓] stepsK_build stepsK_bs appendS
attribute [local go_sem] String.reduceEq String.reduceNe reduceCtorEq Int.reduceEq Nat.reduceAdd Nat.reduceSub Nat.reduceMul Nat.reduceLT Nat.reduceLeDiff Nat.reduceEqDiff Nat.reduceBEq Int.reduceToNat Int.reduceLT Int.reduceLE Int.reduceGT Int.reduceGE Int.reduceAdd Int.reduceSub Int.reduceMul Int.reduceNeg Int.reduceBEq Int.reduceBNe Int.reducePow Int.reduceDiv Int.reduceMod Int.reduceTDiv Int.reduceTMod Int.reduceNatCast
end Go.Proofs.YtdaojihnaajfeaaDoorX

/- Bytes of digits: the program's and the reference's. -/
set_option linter.unusedVariables false
set_option linter.unusedSimpArgs false
namespace Go.Proofs.YtdaojihnaajfeaaDoorX
open Go
def hvS (c : Int) : Int := if kindOf c = 1 then c - 48 else if kindOf c = 2 then c - 87 else -1
theorem hv_fin : ∀ c : Fin 256, (-1 ≤ hvS (c.val : Int) ∧ hvS (c.val : Int) ≤ 15) ∧ F91 0 (c.val : Int) = some (if hvS (c.val : Int) < 0 then 0 else hvS (c.val : Int), decide (0 ≤ hvS (c.val : Int))) ∧ F92 0 (c.val : Int) = some (hvS (c.val : Int)) := by decide +kernel
theorem hv_bd (c : UInt8) : -1 ≤ hvS (c.toNat : Int) ∧ hvS (c.toNat : Int) ≤ 15 := (hv_fin ⟨c.toNat, c.toNat_lt⟩).1
theorem hv_p (n : Nat) (c : UInt8) : F91 n (c.toNat : Int) = some (if hvS (c.toNat : Int) < 0 then 0 else hvS (c.toNat : Int), decide (0 ≤ hvS (c.toNat : Int))) := (hv_fin ⟨c.toNat, c.toNat_lt⟩).2.1
def hexP : List UInt8 → List Int → List Int × Bool
  | a :: b :: r, acc => if hvS (a.toNat : Int) < 0 ∨ hvS (b.toNat : Int) < 0 then ([], false) else hexP r (acc ++ [16 * hvS (a.toNat : Int) + hvS (b.toNat : Int)])
  | _, acc => (acc, true)
def hexS (l : List UInt8) : List Int × Bool := if l.length % 2 ≠ 0 then ([], false) else hexP l []
theorem or16 {a b : Int} (ha : 0 ≤ a ∧ a ≤ 15) (hb : 0 ≤ b ∧ b ≤ 15) : IntKind.wrap .u8 (bOr .u8 (IntKind.wrap .u8 (bShl .u8 a 4)) b) = 16 * a + b := by
  have hs : bShl .u8 a 4 = a * 16 := by unfold bShl; rw [show (2 : Int) ^ min 4 IntKind.u8.bits = 16 by decide]
  rw [hs, wu8 (n := a * 16) (by omega), bOr_add .u8 4 (a * 16) b (by omega) (by show a * 16 < 256; omega) (by show a * 16 % 16 = 0; omega) hb.1 (by show b < 16; omega) (by decide), wu8 (by omega)]
  omega
theorem ev_hexP (l : List UInt8) (hl : l.length ≤ 1000000) : ∀ (k i : Nat) (acc : List Int), i + 2 * k = l.length → acc.length ≤ i → Ev (fun n => F58_L1 n l (i : Int) acc) (hexP (l.drop i) acc)
  | 0, i, acc, hi, ha => by
    rw [List.drop_of_length_le (by omega)]
    refine Ev.step ((Ev.const (x := some (acc, true)) rfl).congr fun n => ?_)
    rw [F58_L1, decide_eq_false (by omega), iteB_f]
  | k + 1, i, acc, hi, ha => by
    have w1 : IntKind.wrap .i64 ((i : Int) + 1) = ((i + 1 : Nat) : Int) := by rw [w64 (by omega)]; omega
    have w2 : IntKind.wrap .i64 ((i : Int) + 2) = ((i + 2 : Nat) : Int) := by rw [w64 (by omega)]; omega
    have b1 := hv_bd (l.getD i 0)
    have b2 := hv_bd (l.getD (i + 1) 0)
    rw [drop_cons l i 0 (by omega), drop_cons l (i + 1) 0 (by omega), hexP]
    by_cases h1 : hvS ((l.getD i 0).toNat : Int) < 0
    · rw [if_pos (.inl h1)]
      refine Ev.step ((Ev.const (x := some ([], false)) rfl).congr fun n => ?_)
      rw [F58_L1, decide_eq_true (by omega), iteB_t, grd_t _ (by omega), toNat_nat, hv_p, bind_some', w1, grd_t _ (by omega), toNat_nat, hv_p, bind_some', decide_eq_false (by omega)]
      rfl
    by_cases h2 : hvS ((l.getD (i + 1) 0).toNat : Int) < 0
    · rw [if_pos (.inr h2)]
      refine Ev.step ((Ev.const (x := some ([], false)) rfl).congr fun n => ?_)
      rw [F58_L1, decide_eq_true (by omega), iteB_t, grd_t _ (by omega), toNat_nat, hv_p, bind_some', w1, grd_t _ (by omega), toNat_nat, hv_p, bind_some', decide_eq_true (by omega), decide_eq_false (by omega)]
      rfl
    rw [if_neg (fun h => h.elim h1 h2)]
    refine Ev.step ((ev_hexP l hl k (i + 2) (acc ++ [16 * hvS ((l.getD i 0).toNat : Int) + hvS ((l.getD (i + 1) 0).toNat : Int)]) (by omega) (by simp; omega)).congr fun n => ?_)
    rw [F58_L1, decide_eq_true (by omega), iteB_t, grd_t _ (by omega), toNat_nat, hv_p, bind_some', w1, grd_t _ (by omega), toNat_nat, hv_p, bind_some', decide_eq_true (by omega), decide_eq_true (by omega), if_neg h1, if_neg h2]
    show iteB false _ (iteB false _ _) = _
    rw [iteB_f, iteB_f, grd_t _ (by omega), w2, or16 ⟨by omega, by omega⟩ ⟨by omega, by omega⟩]
theorem ev_ReadHex (l : List UInt8) (hl : l.length ≤ 1000000) : Ev (fun n => F58 n l) (hexS l) := by
  unfold hexS
  have hm : (l.length : Int).tmod 2 = ((l.length % 2 : Nat) : Int) := (Int.ofNat_tmod l.length 2).symm
  by_cases h : l.length % 2 ≠ 0
  · rw [if_pos h]
    refine (Ev.const (x := some ([], false)) rfl).congr fun n => ?_
    rw [F58, hm, show (((l.length % 2 : Nat) : Int) != 0) = true by rw [bne_iff_ne]; omega, iteB_t]
  · rw [if_neg h]
    refine (ev_hexP l hl (l.length / 2) 0 [] (by omega) (by simp)).congr fun n => ?_
    rw [F58, hm, show l.length % 2 = 0 by omega]
    rfl
end Go.Proofs.YtdaojihnaajfeaaDoorX

/- Small letters, plainly. -/
set_option linter.unusedVariables false
set_option linter.unusedSimpArgs false
namespace Go.Proofs.YtdaojihnaajfeaaDoorX
open Go
def lowI (x : Int) : Int := if kindOf x = 4 then x + 32 else x
def lowT (s : List UInt8) : List UInt8 := ((ints s).map lowI).map toB
theorem low_wrap {x : Int} (h : kindOf x = 4) : IntKind.wrap .u8 (x + 32) = x + 32 := by
  unfold kindOf at h
  refine wu8 ?_
  repeat' split at h
  all_goals first | omega | (simp at h)
end Go.Proofs.YtdaojihnaajfeaaDoorX

/- Texts cut at a byte. -/
set_option linter.unusedVariables false
set_option linter.unusedSimpArgs false
namespace Go.Proofs.YtdaojihnaajfeaaDoorX
open Go
def splitB (c : UInt8) : List UInt8 → List (List UInt8)
  | [] => [[]]
  | x :: l => if x = c then [] :: splitB c l else match splitB c l with
    | [] => [[x]]
    | y :: ys => (x :: y) :: ys
theorem split_ne (c : UInt8) : ∀ l, splitB c l ≠ []
  | [] => by simp [splitB]
  | x :: l => by
    rw [splitB]
    split
    · simp
    · split <;> simp
theorem idx_cases (c : UInt8) : ∀ s : List UInt8, (Lib.indexByte s c = -1 ∧ c ∉ s ∧ s.count c = 0 ∧ splitB c s = [s]) ∨
    ∃ m : Nat, m < s.length ∧ Lib.indexByte s c = (m : Int) ∧ c ∉ s.take m ∧ s = s.take m ++ c :: s.drop (m + 1) ∧ s.count c = 1 + (s.drop (m + 1)).count c ∧ splitB c s = s.take m :: splitB c (s.drop (m + 1))
  | [] => .inl ⟨rfl, by simp, rfl, rfl⟩
  | x :: l => by
    by_cases h : x = c
    · subst h
      refine .inr ⟨0, by simp, ?_, by simp, by simp, by simp; omega, by simp [splitB]⟩
      rw [Lib.indexByte, beq_self_eq_true, if_pos rfl]; rfl
    · have hb : (x == c) = false := by rw [beq_eq_false_iff_ne]; exact h
      rcases idx_cases c l with ⟨h1, h2, h3, h4⟩ | ⟨m, h1, h2, h3, h4, h5, h6⟩
      · refine .inl ⟨?_, ?_, ?_, ?_⟩
        · rw [Lib.indexByte, hb, h1]; rfl
        · simp only [List.mem_cons, not_or]; exact ⟨fun e => h e.symm, h2⟩
        · rw [List.count_cons_of_ne h, h3]
        · rw [splitB, if_neg h, h4]
      · refine .inr ⟨m + 1, by simp; omega, ?_, ?_, ?_, ?_, ?_⟩
        · rw [Lib.indexByte, hb, h2]
          simp only [Bool.false_eq_true, if_false]
          rw [if_neg (by rw [beq_iff_eq]; omega)]; omega
        · rw [List.take_succ_cons]; simp only [List.mem_cons, not_or]; exact ⟨fun e => h e.symm, h3⟩
        · rw [List.take_succ_cons, List.drop_succ_cons, List.cons_append, ← h4]
        · rw [List.count_cons_of_ne h, List.drop_succ_cons, h5]
        · rw [splitB, if_neg h, h6, List.take_succ_cons, List.drop_succ_cons]
theorem Index_eq (n : Nat) (s : List UInt8) (c : UInt8) : F55 n s [c] = some (Lib.indexByte s c) := rfl
def cutB (c : UInt8) (s : List UInt8) : List UInt8 × List UInt8 × Bool := if c ∈ s then (s.take (Lib.indexByte s c).toNat, s.drop ((Lib.indexByte s c).toNat + 1), true) else (s, [], false)
theorem Cut_eq (n : Nat) (s : List UInt8) (c : UInt8) (hs : s.length ≤ 1000000) : F14 n s [c] = some (cutB c s) := by
  unfold cutB
  rw [F14, F32, Index_eq, bind_some', show (([c] : List UInt8).length : Int) = 1 from rfl]
  rcases idx_cases c s with ⟨h1, h2, h3, h4⟩ | ⟨m, h1, h2, h3, h4, h5, h6⟩
  · rw [if_neg h2, h1]; rfl
  · have hm : c ∈ s := by rw [h4]; simp
    rw [if_pos hm, h2, decide_eq_true (by omega), iteB_t, w64 (by omega), grd_t _ (by omega), grd_t _ (by omega), bind_some', show ((m : Int) + 1).toNat = m + 1 by omega, toNat_nat]
theorem idx_app (c : UInt8) (b : List UInt8) : ∀ a : List UInt8, c ∉ a → Lib.indexByte (a ++ c :: b) c = (a.length : Int)
  | [], _ => by rw [List.nil_append, Lib.indexByte, beq_self_eq_true, if_pos rfl]; rfl
  | x :: a, h => by
    simp only [List.mem_cons, not_or] at h
    rw [List.cons_append, Lib.indexByte, show (x == c) = false by (rw [beq_eq_false_iff_ne]; exact fun e => h.1 e.symm), idx_app c b a h.2]
    simp only [Bool.false_eq_true, if_false]
    rw [if_neg (by rw [beq_iff_eq]; omega), List.length_cons]; omega
theorem cut_app (c : UInt8) (a b : List UInt8) (h : c ∉ a) : cutB c (a ++ c :: b) = (a, b, true) := by
  unfold cutB
  rw [if_pos (by simp), idx_app c b a h, toNat_nat, List.take_left']
  · rw [show a.length + 1 = (a ++ [c]).length by simp, show a ++ c :: b = (a ++ [c]) ++ b by simp, List.drop_left']; rfl
  · rfl
theorem cut_none (c : UInt8) (a : List UInt8) (h : c ∉ a) : cutB c a = (a, [], false) := by unfold cutB; rw [if_neg h]
end Go.Proofs.YtdaojihnaajfeaaDoorX

/- Texts with marks, and queries: what they are, in plain words. -/
set_option linter.unusedVariables false
set_option linter.unusedSimpArgs false
namespace Go.Proofs.YtdaojihnaajfeaaDoorX
open Go
def pctA : List UInt8 → List Int → List UInt8 × Bool
  | [], acc => (acc.map toB, true)
  | c :: l, acc => if c = 37 then (if l.length < 2 then ([], false) else if (hexS (lowT (l.take 2))).2 = true then pctA (l.drop 2) (acc ++ (hexS (lowT (l.take 2))).1) else ([], false)) else pctA l (acc ++ [ofB c])
termination_by l => l.length
decreasing_by all_goals (simp only [List.length_drop, List.length_cons]; omega)
def pctS (l : List UInt8) : List UInt8 × Bool := pctA l []
theorem pctA_app (q : List UInt8) : ∀ (p : List UInt8) (acc : List Int), (37 : UInt8) ∉ p → pctA (p ++ q) acc = pctA q (acc ++ ints p)
  | [], acc, _ => by rw [List.nil_append, show ints [] = [] from rfl, List.append_nil]
  | c :: p, acc, h => by
    have hc : c ≠ 37 := fun e => h (by rw [e]; exact List.mem_cons_self)
    rw [List.cons_append, pctA, if_neg hc, pctA_app q p _ (fun m => h (List.mem_cons_of_mem _ m)), List.append_assoc]; rfl
theorem pctA_all (p : List UInt8) (acc : List Int) (h : (37 : UInt8) ∉ p) : pctA p acc = ((acc ++ ints p).map toB, true) := by
  have := pctA_app [] p acc h
  rw [List.append_nil] at this
  rw [this, pctA]
theorem low_len (l : List UInt8) : (lowT l).length = l.length := by unfold lowT ints; simp
def blk (c : UInt8) : UInt8 := if c = 43 then 32 else c
theorem blk_map_no : ∀ p : List UInt8, (43 : UInt8) ∉ p → p.map blk = p
  | [], _ => rfl
  | c :: p, h => by
    have hc : c ≠ 43 := fun e => h (by rw [e]; exact List.mem_cons_self)
    rw [List.map_cons, blk_map_no p (fun m => h (List.mem_cons_of_mem _ m)), show blk c = c from if_neg hc]
theorem index_one (c : UInt8) : ∀ s : List UInt8, Lib.index s [c] = Lib.indexByte s c
  | [] => rfl
  | b :: l => by
    rw [Lib.index, Lib.indexByte, index_one c l]
    have : ([c] : List UInt8).isPrefixOf (b :: l) = (c == b) := by rw [List.isPrefixOf, show ([] : List UInt8).isPrefixOf l = true by cases l <;> rfl, Bool.and_true]
    rw [this, show (c == b) = (b == c) from by rw [Bool.eq_iff_iff, beq_iff_eq, beq_iff_eq]; exact eq_comm]
theorem replK_blk : ∀ (k : Nat) (s : List UInt8), s.length ≤ k → Lib.replaceK [43] [32] (s.count 43) s = s.map blk
  | k, s, hk => by
    rcases idx_cases 43 s with ⟨h1, h2, h3, _⟩ | ⟨m, h1, h2, h3, h4, h5, _⟩
    · rw [h3, Lib.replaceK, blk_map_no s h2]
    · match k, hk with
      | 0, hk => omega
      | k + 1, hk =>
        have ih := replK_blk k (s.drop (m + 1)) (by rw [List.length_drop]; omega)
        rw [h5, Nat.add_comm, Lib.replaceK_hit [43] [32] _ s m (by rw [index_one]; exact h2), show m + ([43] : List UInt8).length = m + 1 from rfl, ih]
        conv => rhs; rw [h4]
        rw [List.map_append, List.map_cons, blk_map_no _ h3, show blk 43 = 32 from rfl, List.append_assoc]; rfl
theorem repl_blk (s : List UInt8) : Lib.replaceAll s [43] [32] = s.map blk := by
  unfold Lib.replaceAll Lib.replace
  rw [if_neg (by decide), show Lib.replaceNum s [43] (-1) = s.count 43 by unfold Lib.replaceNum; rw [if_pos (.inl (by decide)), Lib.count_one]]
  exact replK_blk s.length s (Nat.le_refl _)
theorem mem_blk (s : List UInt8) : (61 : UInt8) ∈ s.map blk ↔ (61 : UInt8) ∈ s := by
  constructor
  · intro h
    obtain ⟨c, hc, e⟩ := List.mem_map.1 h
    unfold blk at e
    split at e
    · cases e
    · rw [← e]; exact hc
  · intro h
    exact List.mem_map.2 ⟨61, h, rfl⟩
theorem cut_blk (s : List UInt8) : cutB 61 (s.map blk) = ((cutB 61 s).1.map blk, (cutB 61 s).2.1.map blk, (cutB 61 s).2.2) := by
  by_cases h : (61 : UInt8) ∈ s
  · obtain ⟨p, q, rfl, hp⟩ := List.eq_append_cons_of_mem h
    rw [List.map_append, List.map_cons, show blk 61 = 61 from rfl, cut_app 61 (p.map blk) (q.map blk) (fun e => hp ((mem_blk p).1 e)), cut_app 61 p q hp]
  · rw [cut_none 61 s h, cut_none 61 _ (fun e => h ((mem_blk s).1 e))]; rfl
def partT (s : List UInt8) : (List UInt8 × List UInt8) × Bool :=
  (((pctS ((cutB 61 s).1.map blk)).1, (pctS ((cutB 61 s).2.1.map blk)).1), !((cutB 61 s).1 == []) && (pctS ((cutB 61 s).1.map blk)).2 && (pctS ((cutB 61 s).2.1.map blk)).2)
abbrev Pr := List UInt8 × List UInt8
def parseL : List (List UInt8) → List Pr → List Pr × Bool
  | [], out => (out, true)
  | s :: l, out => if (partT s).2 = false ∨ out.length = 64 then ([], false) else parseL l (out ++ [(partT s).1])
def parseT (s : List UInt8) : List Pr × Bool := if s = [] then ([], true) else parseL (splitB 38 s) []
theorem split_cut (c : UInt8) (s : List UInt8) : splitB c s = if (cutB c s).2.2 = true then (cutB c s).1 :: splitB c (cutB c s).2.1 else [(cutB c s).1] := by
  rcases idx_cases c s with ⟨h1, h2, h3, h4⟩ | ⟨m, h1, h2, h3, h4, h5, h6⟩
  · rw [cut_none c s h2, h4]; rfl
  · have hm : c ∈ s := by rw [h4]; simp
    unfold cutB
    rw [if_pos hm, h2, if_pos rfl, show ((m : Int)).toNat = m by omega]
    exact h6
end Go.Proofs.YtdaojihnaajfeaaDoorX

set_option linter.unusedVariables false
set_option linter.unusedSimpArgs false
namespace Go.Proofs.YtdaojihnaajfeaaDoorX
open Go Go.RowKit Go.Proofs
set_option maxRecDepth 100000
attribute [local go_sem ↓] stepsK_build stepsK_bs appendS
attribute [local go_sem] String.reduceEq String.reduceNe reduceCtorEq Int.reduceEq Nat.reduceAdd Nat.reduceSub Nat.reduceMul Nat.reduceLT Nat.reduceLeDiff Nat.reduceEqDiff Nat.reduceBEq Int.reduceToNat Int.reduceLT Int.reduceLE Int.reduceGT Int.reduceGE Int.reduceAdd Int.reduceSub Int.reduceMul Int.reduceNeg Int.reduceBEq Int.reduceBNe Int.reducePow Int.reduceDiv Int.reduceMod Int.reduceTDiv Int.reduceTMod Int.reduceNatCast
end Go.Proofs.YtdaojihnaajfeaaDoorX

/- Small letters: hex.Lower. -/
set_option linter.unusedVariables false
set_option linter.unusedSimpArgs false
namespace Go.Proofs.YtdaojihnaajfeaaDoorX
open Go
theorem set_low (l : List Int) (i : Nat) (h : i < l.length) : (((l.take i).map lowI) ++ l.drop i).set i (lowI (l.getD i 0)) = ((l.take (i + 1)).map lowI) ++ l.drop (i + 1) := by
  have hl : ((l.take i).map lowI).length = i := by rw [List.length_map, List.length_take]; omega
  rw [List.set_append_right _ _ (by omega), hl, Nat.sub_self, drop_cons l i 0 h, List.set_cons_zero, List.take_add_one, List.map_append, List.append_assoc]
  congr 1
  rw [List.getD_eq_getElem?_getD, List.getElem?_eq_getElem h]
  rfl
theorem low_loop (s : List UInt8) (hs : s.length ≤ 1000000000) : ∀ (d i : Nat), i + d = s.length → Ev (fun n => F52_L1 n s (i : Int) ((((ints s).take i).map lowI) ++ (ints s).drop i)) (lowT s) := by
  intro d
  induction d with
  | zero =>
    intro i hi
    rw [List.take_of_length_le (by rw [ints_len]; omega), List.drop_of_length_le (by rw [ints_len]; omega), List.append_nil]
    refine Ev.step (Ev.pure.congr fun n => ?_)
    rw [F52_L1, decide_eq_false (by omega), iteB_f]; rfl
  | succ d ih =>
    intro i hi
    have hlen : ((((ints s).take i).map lowI) ++ (ints s).drop i).length = s.length := by simp [ints_len]; omega
    have hti : (((ints s).take i).map lowI).length = i := by rw [List.length_map, List.length_take, ints_len]; omega
    have hget : ((((ints s).take i).map lowI) ++ (ints s).drop i).getD i default = bt s i := by
      rw [List.getD_eq_getElem?_getD, List.getElem?_append_right (by omega), hti, Nat.sub_self, drop_bt s i (by omega)]; rfl
    have hset := set_low (ints s) i (by rw [ints_len]; omega)
    rw [ints_get] at hset
    refine Ev.step ((ih (i + 1) (by omega)).congr fun n => ?_)
    rw [F52_L1, decide_eq_true (by omega), iteB_t, toNat_nat, g64 i (by omega), hget, hlen]
    simp only [grd_t _ (show 0 ≤ (i : Int) ∧ (i : Int) < (s.length : Int) by omega), grd_t _ (show i < s.length by omega)]
    rw [show F61 n (bt s i) = some (kindOf (bt s i)) from rfl, bind_some', ← hset]
    by_cases h4 : kindOf (bt s i) = 4
    · rw [show (kindOf (bt s i) == 4) = true by rw [h4]; rfl, iteB_t, low_wrap h4, show lowI (bt s i) = bt s i + 32 from if_pos h4]
    · rw [show (kindOf (bt s i) == 4) = false from bq h4, iteB_f, show lowI (bt s i) = bt s i from if_neg h4]
      have hg : ((((ints s).take i).map lowI) ++ (ints s).drop i)[i]? = some (bt s i) := by
        rw [List.getElem?_append_right (by omega), hti, Nat.sub_self, drop_bt s i (by omega)]; rfl
      have he : ((((ints s).take i).map lowI) ++ (ints s).drop i).set i (bt s i) = (((ints s).take i).map lowI) ++ (ints s).drop i := by
        refine List.ext_getElem? fun j => ?_
        rw [List.getElem?_set]
        split
        · rename_i hij
          subst hij
          rw [hg, if_pos (by omega)]
        · rfl
      rw [he]
theorem ev_Lower (s : List UInt8) (hs : s.length ≤ 1000000000) : Ev (fun n => F52 n s) (lowT s) :=
  (low_loop s hs s.length 0 (by omega)).congr fun n => rfl
end Go.Proofs.YtdaojihnaajfeaaDoorX

set_option linter.unusedVariables false
set_option linter.unusedSimpArgs false
namespace Go.Proofs.YtdaojihnaajfeaaDoorX
open Go Go.RowKit Go.Proofs
set_option maxRecDepth 100000
attribute [local go_sem ↓] stepsK_build stepsK_bs appendS
attribute [local go_sem] String.reduceEq String.reduceNe reduceCtorEq Int.reduceEq Nat.reduceAdd Nat.reduceSub Nat.reduceMul Nat.reduceLT Nat.reduceLeDiff Nat.reduceEqDiff Nat.reduceBEq Int.reduceToNat Int.reduceLT Int.reduceLE Int.reduceGT Int.reduceGE Int.reduceAdd Int.reduceSub Int.reduceMul Int.reduceNeg Int.reduceBEq Int.reduceBNe Int.reducePow Int.reduceDiv Int.reduceMod Int.reduceTDiv Int.reduceTMod Int.reduceNatCast
end Go.Proofs.YtdaojihnaajfeaaDoorX

/- Texts with marks: the program's and the reference's. -/
set_option linter.unusedVariables false
set_option linter.unusedSimpArgs false
namespace Go.Proofs.YtdaojihnaajfeaaDoorX
open Go
theorem idxB (n : Nat) (s : List UInt8) : F57 n s (37 : Int) = some (Lib.indexByte s 37) := rfl
theorem hexS_len (l : List UInt8) (h : l.length = 2) : (hexS l).1.length ≤ 1 := by
  match l, h with
  | [a, b], _ =>
    unfold hexS
    rw [if_neg (by simp), hexP]
    split
    · exact Nat.zero_le _
    · exact Nat.le_refl _
theorem ev_pdec : ∀ (k : Nat) (l : List UInt8) (acc : List Int), l.length ≤ k → l.length + acc.length ≤ 1000000 → Ev (fun n => F34_L1 n l acc) (pctA l acc) := by
  intro k
  induction k with
  | zero =>
    intro l acc hk hb
    obtain rfl : l = [] := List.length_eq_zero_iff.1 (by omega)
    refine Ev.step (Ev.pure.congr fun n => ?_)
    rw [F34_L1, pctA]; rfl
  | succ k ih =>
    intro l acc hk hb
    by_cases h0 : l = []
    · subst h0
      refine Ev.step (Ev.pure.congr fun n => ?_)
      rw [F34_L1, pctA]; rfl
    · have hne : (!(l == [])) = true := by rw [Bool.not_eq_true', beq_eq_false_iff_ne]; exact h0
      rcases idx_cases 37 l with ⟨h1, h2, h3, _⟩ | ⟨m, h1, h2, h3, h4, h5, _⟩
      · rw [pctA_all l acc h2]
        refine Ev.step (Ev.pure.congr fun n => ?_)
        rw [F34_L1, hne, iteB_t, idxB, bind_some', h1, decide_eq_true (by decide), iteB_t, grd_t _ (by omega)]; rfl
      · have hs : pctA l acc = pctA (37 :: l.drop (m + 1)) (acc ++ ints (l.take m)) := by
          conv => lhs; rw [h4]
          exact pctA_app _ _ _ h3
        have hdl : (l.drop (m + 1)).length = l.length - (m + 1) := List.length_drop
        have htl : (l.take m).length = m := by rw [List.length_take]; omega
        rw [hs, pctA, if_pos rfl]
        have w3 : IntKind.wrap .i64 ((m : Int) + 3) = ((m + 3 : Nat) : Int) := by rw [w64 (by omega)]; omega
        have w1 : IntKind.wrap .i64 ((m : Int) + 1) = ((m + 1 : Nat) : Int) := by rw [w64 (by omega)]; omega
        have hcut : (l.take (m + 3)).drop (m + 1) = (l.drop (m + 1)).take 2 := by rw [List.drop_take]; congr 1; omega
        have hdrop : l.drop (m + 3) = (l.drop (m + 1)).drop 2 := by rw [List.drop_drop]
        by_cases h6 : (l.drop (m + 1)).length < 2
        · rw [if_pos h6]
          refine Ev.step (Ev.pure.congr fun n => ?_)
          rw [F34_L1, hne, iteB_t, idxB, bind_some', h2, decide_eq_false (by omega), iteB_f, grd_t _ (by omega), toNat_nat, grd_t _ (by omega), w3, decide_eq_true (by omega), iteB_t]
        · rw [if_neg h6]
          have h2l : ((l.drop (m + 1)).take 2).length = 2 := by rw [List.length_take]; omega
          obtain ⟨N1, e1⟩ := ev_Lower ((l.drop (m + 1)).take 2) (by omega)
          obtain ⟨N2, e2⟩ := ev_ReadHex (lowT ((l.drop (m + 1)).take 2)) (by rw [low_len]; omega)
          have hxl := hexS_len (lowT ((l.drop (m + 1)).take 2)) (by rw [low_len]; exact h2l)
          generalize hx : hexS (lowT ((l.drop (m + 1)).take 2)) = x at *
          have u : ∀ n, N1 + N2 ≤ n → F34_L1 (n + 1) l acc = iteB (!x.2) (some ([], false)) (F34_L1 n ((l.drop (m + 1)).drop 2) ((acc ++ ints (l.take m)) ++ x.1)) := by
            intro n hn
            have q1 := e1 n (by omega)
            have q2 := e2 n (by omega)
            dsimp only at q1 q2
            rw [F34_L1, hne, iteB_t, idxB, bind_some', h2, decide_eq_false (by omega), iteB_f, grd_t _ (by omega), toNat_nat, grd_t _ (by omega), w3, decide_eq_false (by omega), iteB_f, w1, grd_t _ (by omega), toNat_nat, toNat_nat, hcut, q1, bind_some', q2, bind_some', grd_t _ (by omega), grd_t _ (by omega), hdrop]
            rfl
          cases h7 : x.2 with
          | false =>
            rw [if_neg (by decide)]
            refine Ev.step ⟨N1 + N2, fun n hn => ?_⟩
            show F34_L1 (n + 1) l acc = _
            rw [u n hn, h7]; rfl
          | true =>
            rw [if_pos rfl]
            obtain ⟨N3, e3⟩ := ih ((l.drop (m + 1)).drop 2) ((acc ++ ints (l.take m)) ++ x.1) (by rw [List.length_drop]; omega) (by rw [List.length_drop, List.length_append, List.length_append, ints_len]; omega)
            refine Ev.step ⟨N1 + N2 + N3, fun n hn => ?_⟩
            have q3 := e3 n (by omega)
            dsimp only at q3
            show F34_L1 (n + 1) l acc = _
            rw [u n (by omega), h7, Bool.not_true, iteB_f, q3]
theorem ev_PDecode (l : List UInt8) (hl : l.length ≤ 1000000) : Ev (fun n => F34 n l) (pctS l) := ev_pdec l.length l [] (Nat.le_refl _) (by simp; omega)
end Go.Proofs.YtdaojihnaajfeaaDoorX

set_option linter.unusedVariables false
set_option linter.unusedSimpArgs false
namespace Go.Proofs.YtdaojihnaajfeaaDoorX
open Go Go.RowKit Go.Proofs
set_option maxRecDepth 100000
attribute [local go_sem ↓] stepsK_build stepsK_bs appendS
attribute [local go_sem] String.reduceEq String.reduceNe reduceCtorEq Int.reduceEq Nat.reduceAdd Nat.reduceSub Nat.reduceMul Nat.reduceLT Nat.reduceLeDiff Nat.reduceEqDiff Nat.reduceBEq Int.reduceToNat Int.reduceLT Int.reduceLE Int.reduceGT Int.reduceGE Int.reduceAdd Int.reduceSub Int.reduceMul Int.reduceNeg Int.reduceBEq Int.reduceBNe Int.reducePow Int.reduceDiv Int.reduceMod Int.reduceTDiv Int.reduceTMod Int.reduceNatCast
end Go.Proofs.YtdaojihnaajfeaaDoorX

set_option linter.unusedVariables false
set_option linter.unusedSimpArgs false
namespace Go.Proofs.YtdaojihnaajfeaaDoorX
open Go Go.RowKit Go.Proofs
set_option maxRecDepth 100000
attribute [local go_sem ↓] stepsK_build stepsK_bs appendS
attribute [local go_sem] String.reduceEq String.reduceNe reduceCtorEq Int.reduceEq Nat.reduceAdd Nat.reduceSub Nat.reduceMul Nat.reduceLT Nat.reduceLeDiff Nat.reduceEqDiff Nat.reduceBEq Int.reduceToNat Int.reduceLT Int.reduceLE Int.reduceGT Int.reduceGE Int.reduceAdd Int.reduceSub Int.reduceMul Int.reduceNeg Int.reduceBEq Int.reduceBNe Int.reducePow Int.reduceDiv Int.reduceMod Int.reduceTDiv Int.reduceTMod Int.reduceNatCast
end Go.Proofs.YtdaojihnaajfeaaDoorX

set_option linter.unusedVariables false
set_option linter.unusedSimpArgs false
namespace Go.Proofs.YtdaojihnaajfeaaDoorX
open Go Go.RowKit Go.Proofs
set_option maxRecDepth 100000
attribute [local go_sem ↓] stepsK_build stepsK_bs appendS
attribute [local go_sem] String.reduceEq String.reduceNe reduceCtorEq Int.reduceEq Nat.reduceAdd Nat.reduceSub Nat.reduceMul Nat.reduceLT Nat.reduceLeDiff Nat.reduceEqDiff Nat.reduceBEq Int.reduceToNat Int.reduceLT Int.reduceLE Int.reduceGT Int.reduceGE Int.reduceAdd Int.reduceSub Int.reduceMul Int.reduceNeg Int.reduceBEq Int.reduceBNe Int.reducePow Int.reduceDiv Int.reduceMod Int.reduceTDiv Int.reduceTMod Int.reduceNatCast
end Go.Proofs.YtdaojihnaajfeaaDoorX

/- Queries that are parsed: the program's and the reference's. -/
set_option linter.unusedVariables false
set_option linter.unusedSimpArgs false
namespace Go.Proofs.YtdaojihnaajfeaaDoorX
open Go
theorem cut_len (c : UInt8) (s : List UInt8) : (cutB c s).1.length ≤ s.length ∧ (cutB c s).2.1.length ≤ s.length := by
  unfold cutB
  split
  · simp only [List.length_take, List.length_drop]; omega
  · simp
theorem ev_part (s : List UInt8) (hs : s.length ≤ 1000000) : Ev (fun n => F15 n s) (partT s) := by
  have hl := cut_len 61 s
  have hrep : ∀ n, F33 n s [43] [32] = some (s.map blk) := by
    intro n
    have hcb : Lib.countB (bs s) (bs [43]) ≤ s.length := Lib.countB_le (bs [43]) (by rw [bs_size]; decide) s.length (bs s) (by rw [bs_size]; omega)
    rw [F33, if_pos ⟨by omega, by decide, by show s.length + Lib.countB (bs s) (bs [43]) * 1 ≤ 140737488355328; omega⟩, repl_blk]
  obtain ⟨N1, e1⟩ := ev_PDecode ((cutB 61 s).1.map blk) (by rw [List.length_map]; omega)
  obtain ⟨N2, e2⟩ := ev_PDecode ((cutB 61 s).2.1.map blk) (by rw [List.length_map]; omega)
  refine ⟨N1 + N2, fun n hn => ?_⟩
  have q1 := e1 n (by omega)
  have q2 := e2 n (by omega)
  dsimp only at q1 q2
  show F15 n s = _
  rw [F15, hrep, bind_some', Cut_eq n (s.map blk) 61 (by rw [List.length_map]; omega), bind_some', cut_blk]
  dsimp only
  rw [q1, bind_some', q2, bind_some']
  unfold partT
  have he : ((cutB 61 s).1.map blk == []) = ((cutB 61 s).1 == []) := by
    cases (cutB 61 s).1 <;> rfl
  rw [he]
  cases ((cutB 61 s).1 == []) with
  | true => rfl
  | false =>
    rw [Bool.not_false, iteB_t, Bool.true_and]
    cases (pctS ((cutB 61 s).1.map blk)).2 with
    | false => rfl
    | true => rw [iteB_t, Bool.true_and]
theorem ev_parse_l : ∀ (k : Nat) (s : List UInt8) (out : List Pr), s.length ≤ k → s.length ≤ 1000000 → out.length ≤ 64 → Ev (fun n => F7_L1 n s true out) (parseL (splitB 38 s) out) := by
  intro k
  induction k with
  | zero =>
    intro s out hk hs ho
    obtain rfl : s = [] := List.length_eq_zero_iff.1 (by omega)
    obtain ⟨N1, e1⟩ := ev_part [] (by simp)
    have hsp : splitB 38 [] = [[]] := rfl
    rw [hsp, parseL]
    have u : ∀ n, N1 ≤ n → F7_L1 (n + 1) [] true out = iteB (!(partT []).2) (some ([], false)) (iteB ((out.length : Int) == (64 : Int)) (some ([], false)) (F7_L1 n [] false (out ++ [(partT []).1]))) := by
      intro n hn
      have q1 := e1 n (by omega)
      dsimp only at q1
      rw [F7_L1, iteB_t, Cut_eq n [] 38 (by simp), bind_some', show cutB 38 ([] : List UInt8) = ([], [], false) from rfl]
      dsimp only
      rw [q1, bind_some', grd_t _ (by omega)]
    cases h1 : (partT []).2 with
    | false =>
      rw [if_pos (.inl rfl)]
      exact Ev.step ⟨N1, fun n hn => by show F7_L1 (n + 1) [] true out = _; rw [u n hn, h1]; rfl⟩
    | true =>
      by_cases h64 : out.length = 64
      · rw [if_pos (.inr h64)]
        exact Ev.step ⟨N1, fun n hn => by show F7_L1 (n + 1) [] true out = _; rw [u n hn, h1, Bool.not_true, iteB_f, bqt (by omega), iteB_t]⟩
      · rw [if_neg (by rintro (a | a); exact absurd a (by decide); exact h64 a), parseL]
        refine Ev.step ⟨N1 + 1, fun n hn => ?_⟩
        obtain ⟨m, rfl⟩ : ∃ m, n = m + 1 := ⟨n - 1, by omega⟩
        show F7_L1 (m + 1 + 1) [] true out = _
        rw [u (m + 1) (by omega), h1, Bool.not_true, iteB_f, bq (by omega), iteB_f, F7_L1, iteB_f]
  | succ k ih =>
    intro s out hk hs ho
    have hcl := cut_len 38 s
    obtain ⟨N1, e1⟩ := ev_part (cutB 38 s).1 (by omega)
    rw [split_cut 38 s]
    have u : ∀ n, N1 ≤ n → F7_L1 (n + 1) s true out = iteB (!(partT (cutB 38 s).1).2) (some ([], false)) (iteB ((out.length : Int) == (64 : Int)) (some ([], false)) (F7_L1 n (cutB 38 s).2.1 (cutB 38 s).2.2 (out ++ [(partT (cutB 38 s).1).1]))) := by
      intro n hn
      have q1 := e1 n (by omega)
      dsimp only at q1
      rw [F7_L1, iteB_t, Cut_eq n s 38 (by omega), bind_some', q1, bind_some', grd_t _ (by omega)]
    have hlt : (cutB 38 s).2.2 = true → (cutB 38 s).2.1.length < s.length := by
      unfold cutB
      split
      · rename_i hm
        intro _
        have : 0 < s.length := List.length_pos_iff.2 (by rintro rfl; cases hm)
        rw [List.length_drop]; omega
      · intro h; cases h
    have key : parseL (if (cutB 38 s).2.2 = true then (cutB 38 s).1 :: splitB 38 (cutB 38 s).2.1 else [(cutB 38 s).1]) out = if (partT (cutB 38 s).1).2 = false ∨ out.length = 64 then ([], false) else parseL (if (cutB 38 s).2.2 = true then splitB 38 (cutB 38 s).2.1 else []) (out ++ [(partT (cutB 38 s).1).1]) := by
      split <;> (conv => lhs; rw [parseL])
    rw [key]
    cases h1 : (partT (cutB 38 s).1).2 with
    | false =>
      rw [if_pos (.inl rfl)]
      exact Ev.step ⟨N1, fun n hn => by show F7_L1 (n + 1) s true out = _; rw [u n hn, h1]; rfl⟩
    | true =>
      by_cases h64 : out.length = 64
      · rw [if_pos (.inr h64)]
        exact Ev.step ⟨N1, fun n hn => by show F7_L1 (n + 1) s true out = _; rw [u n hn, h1, Bool.not_true, iteB_f, bqt (by omega), iteB_t]⟩
      · rw [if_neg (by rintro (a | a); exact absurd a (by decide); exact h64 a)]
        cases h2 : (cutB 38 s).2.2 with
        | false =>
          rw [if_neg (by decide), parseL]
          refine Ev.step ⟨N1 + 1, fun n hn => ?_⟩
          obtain ⟨m, rfl⟩ : ∃ m, n = m + 1 := ⟨n - 1, by omega⟩
          show F7_L1 (m + 1 + 1) s true out = _
          rw [u (m + 1) (by omega), h1, Bool.not_true, iteB_f, bq (by omega), iteB_f, h2, F7_L1, iteB_f]
        | true =>
          rw [if_pos rfl]
          have := hlt h2
          obtain ⟨N2, e2⟩ := ih (cutB 38 s).2.1 (out ++ [(partT (cutB 38 s).1).1]) (by omega) (by omega) (by rw [List.length_append]; simp; omega)
          refine Ev.step ⟨N1 + N2, fun n hn => ?_⟩
          have q2 := e2 n (by omega)
          dsimp only at q2
          show F7_L1 (n + 1) s true out = _
          rw [u n (by omega), h1, Bool.not_true, iteB_f, bq (by omega), iteB_f, h2]
          exact q2
theorem ev_Parse (s : List UInt8) (hs : s.length ≤ 1000000) : Ev (fun n => F7 n s) (parseT s) := by
  unfold parseT
  by_cases h : s = []
  · rw [if_pos h]
    exact Ev.pure.congr fun n => by rw [F7, h]; rfl
  · rw [if_neg h]
    refine (ev_parse_l s.length s [] (Nat.le_refl _) hs (by simp)).congr fun n => ?_
    rw [F7, show (s == []) = false from beq_eq_false_iff_ne.2 h, iteB_f]
end Go.Proofs.YtdaojihnaajfeaaDoorX

/- Texts that are encoded: what they are, and how they are decoded. -/
set_option linter.unusedVariables false
set_option linter.unusedSimpArgs false
namespace Go.Proofs.YtdaojihnaajfeaaDoorX
open Go
def plI (x : Int) : Bool := if x = 45 ∨ x = 46 ∨ x = 95 ∨ x = 126 then true else kindOf x != 0
theorem stays_fin : ∀ c : Fin 256, F37 0 (c.val : Int) false = some (plI (c.val : Int), false) := by decide +kernel
theorem stays_eq (n : Nat) (c : UInt8) : F37 n (c.toNat : Int) false = some (plI (c.toNat : Int), false) := stays_fin ⟨c.toNat, c.toNat_lt⟩
def hexD (k : Nat) : UInt8 := ([48, 49, 50, 51, 52, 53, 54, 55, 56, 57, 65, 66, 67, 68, 69, 70] : List UInt8).getD k 0
def encB (c : UInt8) : List UInt8 := if plI (c.toNat : Int) = true then [c] else [37, hexD (c.toNat / 16), hexD (c.toNat % 16)]
def encS (s : List UInt8) : List UInt8 := s.flatMap encB
theorem enc_fin : ∀ c : Fin 256, (0 ≤ bShr .u8 (c.val : Int) 4 ∧ bShr .u8 (c.val : Int) 4 < 16 ∧ (bShr .u8 (c.val : Int) 4).toNat = c.val / 16) ∧ (0 ≤ IntKind.wrap .u8 (bAnd .u8 (c.val : Int) 15) ∧ IntKind.wrap .u8 (bAnd .u8 (c.val : Int) 15) < 16 ∧ (IntKind.wrap .u8 (bAnd .u8 (c.val : Int) 15)).toNat = c.val % 16) := by decide +kernel
theorem hexD_fin : ∀ c : Fin 256, (plI (c.val : Int) = true → c.val ≠ 37 ∧ c.val ≠ 38 ∧ c.val ≠ 61 ∧ c.val ≠ 43) ∧ (hexD (c.val / 16) ≠ 38 ∧ hexD (c.val / 16) ≠ 61 ∧ hexD (c.val / 16) ≠ 43) ∧ (hexD (c.val % 16) ≠ 38 ∧ hexD (c.val % 16) ≠ 61 ∧ hexD (c.val % 16) ≠ 43) ∧ hexS (lowT [hexD (c.val / 16), hexD (c.val % 16)]) = ([(c.val : Int)], true) := by decide +kernel
theorem enc_no {s : List UInt8} : (38 : UInt8) ∉ encS s ∧ (61 : UInt8) ∉ encS s ∧ (43 : UInt8) ∉ encS s := by
  have key : ∀ x ∈ encS s, x ≠ 38 ∧ x ≠ 61 ∧ x ≠ 43 := by
    intro x hx
    obtain ⟨c, _, hc⟩ := List.mem_flatMap.1 hx
    obtain ⟨h1, h2, h3, _⟩ := hexD_fin ⟨c.toNat, c.toNat_lt⟩
    unfold encB at hc
    split at hc
    · rename_i hp
      obtain rfl := List.mem_singleton.1 hc
      obtain ⟨_, q1, q2, q3⟩ := h1 hp
      exact ⟨fun e => q1 (by rw [e]; rfl), fun e => q2 (by rw [e]; rfl), fun e => q3 (by rw [e]; rfl)⟩
    · simp only [List.mem_cons, List.not_mem_nil, or_false] at hc
      rcases hc with rfl | rfl | rfl
      · exact ⟨by decide, by decide, by decide⟩
      · exact h2
      · exact h3
  exact ⟨fun h => (key _ h).1 rfl, fun h => (key _ h).2.1 rfl, fun h => (key _ h).2.2 rfl⟩
theorem pct_enc : ∀ (s : List UInt8) (acc : List Int), pctA (encS s) acc = ((acc ++ ints s).map toB, true)
  | [], acc => by
    show pctA [] acc = _
    rw [pctA, show ints [] = [] from rfl, List.append_nil]
  | c :: s, acc => by
    obtain ⟨h1, _, _, h4⟩ := hexD_fin ⟨c.toNat, c.toNat_lt⟩
    have hi : ints (c :: s) = ofB c :: ints s := rfl
    show pctA (encB c ++ encS s) acc = _
    unfold encB
    split
    · rename_i hp
      have hc : c ≠ 37 := fun e => (h1 hp).1 (by rw [e]; rfl)
      show pctA (c :: encS s) acc = _
      rw [pctA, if_neg hc, pct_enc s, hi, List.append_assoc]; rfl
    · show pctA (37 :: hexD (c.toNat / 16) :: hexD (c.toNat % 16) :: encS s) acc = _
      have h4 : hexS (lowT [hexD (c.toNat / 16), hexD (c.toNat % 16)]) = ([(c.toNat : Int)], true) := h4
      rw [pctA, if_pos rfl, if_neg (by simp), show (hexD (c.toNat / 16) :: hexD (c.toNat % 16) :: encS s).take 2 = [hexD (c.toNat / 16), hexD (c.toNat % 16)] from rfl, h4, if_pos rfl, show (hexD (c.toNat / 16) :: hexD (c.toNat % 16) :: encS s).drop 2 = encS s from rfl, pct_enc s, hi, List.append_assoc]; rfl
theorem pctS_enc (s : List UInt8) : pctS (encS s) = (s, true) := by
  unfold pctS
  rw [pct_enc, List.nil_append, show (ints s).map toB = s from (of_ints rfl).symm]
theorem enc_nil (s : List UInt8) : encS s = [] ↔ s = [] := by
  cases s with
  | nil => exact ⟨fun _ => rfl, fun _ => rfl⟩
  | cons c s =>
    constructor
    · intro h
      have h : encB c ++ encS s = [] := h
      unfold encB at h
      split at h <;> simp at h
    · intro h; cases h
theorem enc_len : ∀ s : List UInt8, (encS s).length ≤ 3 * s.length
  | [] => Nat.le_refl _
  | c :: s => by
    have := enc_len s
    show (encB c ++ encS s).length ≤ _
    rw [List.length_append, List.length_cons]
    have : (encB c).length ≤ 3 := by unfold encB; split <;> simp
    omega
theorem ev_enc_l (s : List UInt8) (hs : s.length ≤ 1000000) : ∀ (k i : Nat), i + k = s.length → Ev (fun n => F17_L1 n s (i : Int) false (ints (encS (s.take i)))) (encS s) := by
  intro k
  induction k with
  | zero =>
    intro i hi
    rw [List.take_of_length_le (by omega)]
    refine Ev.step (Ev.pure.congr fun n => ?_)
    rw [F17_L1, decide_eq_false (by omega), iteB_f, show (ints (encS s)).map toB = encS s from (of_ints rfl).symm]
  | succ k ih =>
    intro i hi
    have ht : s.take (i + 1) = s.take i ++ [s.getD i 0] := by
      rw [List.take_succ_eq_append_getElem (by omega), List.getD_eq_getElem?_getD, List.getElem?_eq_getElem (by omega)]; rfl
    have e := ih (i + 1) (by omega)
    rw [ht, show encS (s.take i ++ [s.getD i 0]) = encS (s.take i) ++ encB (s.getD i 0) by unfold encS; rw [List.flatMap_append]; simp, show ints (encS (s.take i) ++ encB (s.getD i 0)) = ints (encS (s.take i)) ++ ints (encB (s.getD i 0)) by unfold ints; rw [List.map_append]] at e
    have hl : (ints (encS (s.take i))).length ≤ 3 * i := by
      rw [ints_len]; have := enc_len (s.take i); rw [List.length_take] at this; omega
    generalize ints (encS (s.take i)) = acc at *
    generalize hc : s.getD i 0 = c at *
    obtain ⟨⟨a1, a2, a3⟩, b1, b2, b3⟩ := enc_fin ⟨c.toNat, c.toNat_lt⟩
    have a1 : 0 ≤ bShr .u8 (c.toNat : Int) 4 := a1
    have a2 : bShr .u8 (c.toNat : Int) 4 < 16 := a2
    have a3 : (bShr .u8 (c.toNat : Int) 4).toNat = c.toNat / 16 := a3
    have b1 : 0 ≤ IntKind.wrap .u8 (bAnd .u8 (c.toNat : Int) 15) := b1
    have b2 : IntKind.wrap .u8 (bAnd .u8 (c.toNat : Int) 15) < 16 := b2
    have b3 : (IntKind.wrap .u8 (bAnd .u8 (c.toNat : Int) 15)).toNat = c.toNat % 16 := b3
    refine Ev.step (e.congr fun n => ?_)
    rw [F17_L1, decide_eq_true (by omega), iteB_t, grd_t _ (by omega), toNat_nat, hc, stays_eq, bind_some']
    dsimp only
    unfold encB
    cases hp : plI (c.toNat : Int) with
    | true => rw [iteB_t, grd_t _ (by omega), g64 i (by omega), if_pos rfl]; rfl
    | false => rw [iteB_f, grd_t _ ⟨a1, a2⟩, grd_t _ ⟨b1, b2⟩, grd_t _ (by omega), g64 i (by omega), if_neg (by decide), a3, b3]; rfl
theorem ev_Encode (s : List UInt8) (hs : s.length ≤ 1000000) : Ev (fun n => F17 n s false) (encS s) := by
  refine (ev_enc_l s hs s.length 0 (by omega)).congr fun n => ?_
  rw [F17, grd_t _ (by omega)]; rfl
end Go.Proofs.YtdaojihnaajfeaaDoorX

/- The order of pairs, sorted. -/
set_option linter.unusedVariables false
set_option linter.unusedSimpArgs false
namespace Go.Proofs.YtdaojihnaajfeaaDoorX
open Go
theorem pl_trans (a b c : List UInt8 × List UInt8) : pairLe a b = true → pairLe b c = true → pairLe a c = true := by
  rw [pairLe_iff, pairLe_iff, pairLe_iff]; exact pcmp_trans a b c
theorem pl_total (a b : List UInt8 × List UInt8) : (pairLe a b || pairLe b a) = true := by
  rw [Bool.or_eq_true, pairLe_iff, pairLe_iff, pcmp_anti a b]; omega
theorem pl_anti (a b : List UInt8 × List UInt8) (h : pairLe a b = true) (h' : pairLe b a = true) : a = b := by
  rw [pairLe_iff] at h h'
  rw [pcmp_anti a b] at h'
  exact pcmp_eq a b (by omega)
theorem sort_perm {l m : List (List UInt8 × List UInt8)} (h : l.Perm m) : l.mergeSort pairLe = m.mergeSort pairLe :=
  List.Perm.eq_of_pairwise (le := fun a b => pairLe a b = true) (fun a b _ _ => pl_anti a b) (List.pairwise_mergeSort pl_trans pl_total l) (List.pairwise_mergeSort pl_trans pl_total m) (((List.mergeSort_perm l _).trans h).trans (List.mergeSort_perm m _).symm)
end Go.Proofs.YtdaojihnaajfeaaDoorX

/- strings.Builder, plain. -/
set_option linter.unusedVariables false
set_option linter.unusedSimpArgs false
namespace Go.Proofs.YtdaojihnaajfeaaDoorX
open Go
theorem bld_String (n : Nat) (b : Bool) (l : List Int) (h : Bytes l) (hl : l.length ≤ 549755813888) : F22 n (b, l) = some (l.map toB, (b, l)) := by
  unfold F22
  exact if_pos ⟨hl, all_bytes h⟩
theorem bld_Write (n : Nat) (b : Bool) (l : List Int) (s : List UInt8) (hl : l.length + s.length ≤ 549755813888) : F21 n (b, l) s = some ((s.length : Int), (), true, l ++ ints s) := by
  unfold F21
  rw [show F42 n (b, l) = some (true, l) from rfl, bind_some', grd_t _ hl]
  rfl
end Go.Proofs.YtdaojihnaajfeaaDoorX

/- Queries as they are signed: what they are. -/
set_option linter.unusedVariables false
set_option linter.unusedSimpArgs false
namespace Go.Proofs.YtdaojihnaajfeaaDoorX
open Go
def enc2 (p : Pr) : Pr := (encS p.1, encS p.2)
def qPart (p : Pr) : List UInt8 := (p.1 ++ [61]) ++ p.2
def qAll : Bool → List Pr → List UInt8
  | _, [] => []
  | f, p :: ps => (if f = true then [38] else []) ++ (qPart p ++ qAll true ps)
def canT (l : List Pr) : List UInt8 := qAll false ((l.map enc2).mergeSort pairLe)
theorem ints_append (a b : List UInt8) : ints (a ++ b) = ints a ++ ints b := by unfold ints; rw [List.map_append]
theorem toB_ints2 (t : List UInt8) : (ints t).map toB = t := (of_ints rfl).symm
theorem ev_canL2 (x2 v8 : List Pr) (hx : x2.length = v8.length) (hl : v8.length ≤ 100) (hb : ∀ p ∈ v8, p.1.length + p.2.length ≤ 6000) : ∀ (k i : Nat) (b : Bool) (t : List UInt8), i + k = v8.length → t.length ≤ i * 6002 → Ev (fun n => F10_L2 n x2 v8 (i : Int) b (ints t)) (t ++ qAll (decide (0 < i)) (v8.drop i)) := by
  intro k
  induction k with
  | zero =>
    intro i b t hi ht
    rw [List.drop_of_length_le (by omega), qAll, List.append_nil]
    refine Ev.step (Ev.pure.congr fun n => ?_)
    rw [F10_L2, decide_eq_false (by omega), iteB_f, bld_String n b (ints t) (ints_bytes t) (by rw [ints_len]; omega), bind_some', toB_ints2]
  | succ k ih =>
    intro i b t hi ht
    have hm : v8.getD i default ∈ v8 := by
      rw [List.getD_eq_getElem?_getD, List.getElem?_eq_getElem (by omega)]
      exact List.getElem_mem _
    have hpl := hb _ hm
    rw [drop_cons v8 i default (by omega), qAll]
    generalize hp : v8.getD i default = p at *
    have key : ∀ (b' : Bool) (t' : List UInt8), t'.length ≤ i * 6002 + 1 → Ev (fun n => F10_J3 n x2 (i : Int) v8 b' (ints t')) (t' ++ (qPart p ++ qAll true (v8.drop (i + 1)))) := by
      intro b' t' ht'
      have e := ih (i + 1) true (t' ++ qPart p) (by omega) (by
        rw [List.length_append]; unfold qPart; rw [List.length_append, List.length_append, List.length_singleton, Nat.add_mul]; omega)
      rw [show decide (0 < i + 1) = true from decide_eq_true (by omega), List.append_assoc, ints_append] at e
      refine e.congr fun n => ?_
      rw [F10_J3, toNat_nat, hp, grd_t _ (by omega), grd_t _ (by omega), bld_Write n b' (ints t') ((p.1 ++ [61]) ++ p.2) (by rw [ints_len, List.length_append, List.length_append, List.length_singleton]; omega), bind_some', g64 i (by omega)]
      rfl
    by_cases h0 : 0 < i
    · rw [show (if decide (0 < i) = true then ([38] : List UInt8) else []) = [38] from if_pos (decide_eq_true h0)]
      have e := key true (t ++ [38]) (by rw [List.length_append]; simp; omega)
      rw [List.append_assoc, ints_append] at e
      refine Ev.step (e.congr fun n => ?_)
      rw [F10_L2, decide_eq_true (by omega), iteB_t, grd_t _ (by omega), toNat_nat, grd_t _ (by omega), decide_eq_true (by omega), iteB_t, bld_Write n b (ints t) [38] (by rw [ints_len]; simp; omega), bind_some']
    · rw [show (if decide (0 < i) = true then ([38] : List UInt8) else []) = [] from if_neg (by rw [decide_eq_false h0]; decide), List.nil_append]
      have e := key b t (Nat.le_trans ht (Nat.le_succ _))
      refine Ev.step (e.congr fun n => ?_)
      rw [F10_L2, decide_eq_true (by omega), iteB_t, grd_t _ (by omega), toNat_nat, grd_t _ (by omega), decide_eq_false (by omega), iteB_f]
def okQ (l : List Pr) : Prop := l.length ≤ 90 ∧ ∀ p ∈ l, p.1.length ≤ 900 ∧ p.2.length ≤ 900
theorem okQ_perm {l m : List Pr} (h : okQ l) (hp : m.Perm l) : okQ m := ⟨hp.length_eq ▸ h.1, fun p hm => h.2 p (hp.subset hm)⟩
theorem ev_canL1 (l : List Pr) (h : okQ l) : ∀ (k i : Nat), i + k = l.length → Ev (fun n => F10_L1 n l (i : Int) ((l.take i).map enc2)) (canT l) := by
  intro k
  induction k with
  | zero =>
    intro i hi
    rw [List.take_of_length_le (by omega)]
    have hlen := h.1
    have hms : ((l.map enc2).mergeSort pairLe).length = l.length := by rw [List.length_mergeSort, List.length_map]
    have e := ev_canL2 (l.map enc2) ((l.map enc2).mergeSort pairLe) (by rw [List.length_mergeSort]) (by omega) (fun p hp => by
      have hp : p ∈ l.map enc2 := (List.mergeSort_perm _ _).subset hp
      obtain ⟨q, hq, rfl⟩ := List.mem_map.1 hp
      have := h.2 q hq
      have := enc_len q.1
      have := enc_len q.2
      show (encS q.1).length + (encS q.2).length ≤ 6000
      omega) l.length 0 false [] (by omega) (by simp)
    refine Ev.step (e.congr fun n => ?_)
    rw [F10_L1, decide_eq_false (by omega), iteB_f, F18, if_pos (by rw [List.length_map]; omega), bind_some']
    rfl
  | succ k ih =>
    intro i hi
    have hm : l.getD i default ∈ l := by
      rw [List.getD_eq_getElem?_getD, List.getElem?_eq_getElem (by omega)]
      exact List.getElem_mem _
    have ht : l.take (i + 1) = l.take i ++ [l.getD i default] := by
      rw [List.take_succ_eq_append_getElem (by omega), List.getD_eq_getElem?_getD, List.getElem?_eq_getElem (by omega)]; rfl
    have e := ih (i + 1) (by omega)
    rw [ht, List.map_append] at e
    have hal : ((l.take i).map enc2).length = i := by rw [List.length_map, List.length_take]; omega
    have hq := h.2 _ hm
    have hln := h.1
    generalize (l.take i).map enc2 = acc at *
    generalize hp : l.getD i default = p at *
    obtain ⟨N1, e1⟩ := ev_Encode p.1 (by omega)
    obtain ⟨N2, e2⟩ := ev_Encode p.2 (by omega)
    obtain ⟨N3, e3⟩ := e
    refine Ev.step ⟨N1 + N2 + N3, fun n hn => ?_⟩
    have q1 := e1 n (by omega)
    have q2 := e2 n (by omega)
    have q3 := e3 n (by omega)
    dsimp only at q1 q2 q3
    show F10_L1 (n + 1) l (i : Int) acc = _
    rw [F10_L1, decide_eq_true (by omega), iteB_t, grd_t _ (by omega), toNat_nat, hp, q1, bind_some', q2, bind_some', grd_t _ (by omega), g64 i (by omega)]
    exact q3
theorem ev_Canon (l : List Pr) (h : okQ l) : Ev (fun n => F10 n l) (canT l) := (ev_canL1 l h l.length 0 (by omega)).congr fun n => rfl
theorem ev_own29_l (l : List Pr) : ∀ (k i : Nat) (x : Int) (acc : List Pr), i + k = l.length → acc.length = i → 10 * (i : Int) ≤ x → x ≤ 900 → (∀ p ∈ l.take i, p.1.length ≤ 900 ∧ p.2.length ≤ 900) → ∃ v, Ev (fun n => F9_L1 n l x (i : Int) acc) v ∧ (v.2 = true → okQ l)
  | 0, i, x, acc, hi, ha, h0, h1, hp => by
    refine ⟨(acc, true), Ev.step (Ev.pure.congr fun n => by rw [F9_L1, decide_eq_false (by omega), iteB_f]), fun _ => ⟨by omega, ?_⟩⟩
    rw [List.take_of_length_le (by omega)] at hp
    exact hp
  | k + 1, i, x, acc, hi, ha, h0, h1, hp => by
    have ht : l.take (i + 1) = l.take i ++ [l.getD i default] := by
      rw [List.take_succ_eq_append_getElem (by omega), List.getD_eq_getElem?_getD, List.getElem?_eq_getElem (by omega)]; rfl
    obtain ⟨p, hp0, hp1, hpe⟩ : ∃ p : Nat, p ≤ 900 ∧ (p < 900 → p = (l.getD i default).1.length) ∧ (if (900 : Int) < (((l.getD i default).1).length : Int) then (900 : Int) else (((l.getD i default).1).length : Int)) = (p : Int) := by
      split
      · exact ⟨900, by omega, by omega, rfl⟩
      · exact ⟨_, by omega, fun _ => rfl, rfl⟩
    obtain ⟨q, hq0, hq1, hqe⟩ : ∃ q : Nat, q ≤ 900 ∧ (q < 900 → q = (l.getD i default).2.length) ∧ (if (900 : Int) < (((l.getD i default).2).length : Int) then (900 : Int) else (((l.getD i default).2).length : Int)) = (q : Int) := by
      split
      · exact ⟨900, by omega, by omega, rfl⟩
      · exact ⟨_, by omega, fun _ => rfl, rfl⟩
    have hw : IntKind.wrap .i64 (IntKind.wrap .i64 (IntKind.wrap .i64 (x + 10) + (p : Int)) + (q : Int)) = x + 10 + p + q := by
      rw [w64 (n := x + 10) (by omega), w64 (n := x + 10 + p) (by omega), w64 (by omega)]
    have u : ∀ n, F9_L1 (n + 1) l x (i : Int) acc = iteB (decide ((900 : Int) < x + 10 + p + q)) (some ([], false)) (F9_L1 n l (x + 10 + p + q) ((i + 1 : Nat) : Int) (acc ++ [((l.getD i default).1, (l.getD i default).2)])) := by
      intro n
      rw [F9_L1, decide_eq_true (by omega), iteB_t, grd_t _ (by omega), grd_t _ (by omega), toNat_nat, hpe, hqe, hw, grd_t _ (by omega), grd_t _ (by omega), g64 i (by omega)]
    by_cases hx : (900 : Int) < x + 10 + p + q
    · refine ⟨([], false), Ev.step (Ev.pure.congr fun n => by rw [u, decide_eq_true hx, iteB_t]), fun h => by cases h⟩
    · obtain ⟨v, e, h⟩ := ev_own29_l l k (i + 1) (x + 10 + p + q) (acc ++ [((l.getD i default).1, (l.getD i default).2)]) (by omega) (by rw [List.length_append]; simp; omega) (by omega) (by omega) (by
        rw [ht]
        intro y hy
        rcases List.mem_append.1 hy with hy | hy
        · exact hp y hy
        · obtain rfl := List.mem_singleton.1 hy
          have := hp1 (by omega)
          have := hq1 (by omega)
          omega)
      exact ⟨v, Ev.step (e.congr fun n => by rw [u, decide_eq_false hx, iteB_f]), h⟩
theorem ev_own29 (l : List Pr) : ∃ v, Ev (fun n => F9 n l) v ∧ (v.2 = true → okQ l) := by
  obtain ⟨v, e, h⟩ := ev_own29_l l l.length 0 0 [] (by omega) rfl (by omega) (by omega) (by simp)
  exact ⟨v, e.congr fun n => rfl, h⟩
end Go.Proofs.YtdaojihnaajfeaaDoorX

/- What is signed of pairs is parsed to them. -/
set_option linter.unusedVariables false
set_option linter.unusedSimpArgs false
namespace Go.Proofs.YtdaojihnaajfeaaDoorX
open Go
theorem split_app (c : UInt8) (a b : List UInt8) (h : c ∉ a) : splitB c (a ++ c :: b) = a :: splitB c b := by
  rw [split_cut, cut_app c a b h]; rfl
theorem split_no (c : UInt8) (a : List UInt8) (h : c ∉ a) : splitB c a = [a] := by
  rw [split_cut, cut_none c a h]; rfl
theorem part_no (p : Pr) : (38 : UInt8) ∉ qPart (enc2 p) := by
  unfold qPart enc2
  rw [List.mem_append, List.mem_append, List.mem_singleton]
  rintro ((h | h) | h)
  · exact enc_no.1 h
  · cases h
  · exact enc_no.1 h
theorem split_q : ∀ (ps : List Pr) (a : List UInt8), (38 : UInt8) ∉ a → splitB 38 (a ++ qAll true (ps.map enc2)) = a :: ps.map fun p => qPart (enc2 p)
  | [], a, h => by
    show splitB 38 (a ++ []) = [a]
    rw [List.append_nil, split_no 38 a h]
  | p :: ps, a, h => by
    show splitB 38 (a ++ ([38] ++ (qPart (enc2 p) ++ qAll true (ps.map enc2)))) = _
    rw [show a ++ ([38] ++ (qPart (enc2 p) ++ qAll true (ps.map enc2))) = a ++ 38 :: (qPart (enc2 p) ++ qAll true (ps.map enc2)) from rfl, split_app 38 _ _ h, split_q ps _ (part_no p)]
    rfl
theorem part_q (p : Pr) : partT (qPart (enc2 p)) = (p, !(p.1 == [])) := by
  have hc : cutB 61 (qPart (enc2 p)) = (encS p.1, encS p.2, true) := by
    unfold qPart enc2
    rw [List.append_assoc]
    exact cut_app 61 (encS p.1) (encS p.2) enc_no.2.1
  unfold partT
  rw [hc]
  dsimp only
  rw [blk_map_no _ enc_no.2.2, blk_map_no _ enc_no.2.2, pctS_enc, pctS_enc]
  have : (encS p.1 == []) = (p.1 == []) := by
    by_cases h : p.1 = []
    · rw [h]; rfl
    · rw [beq_eq_false_iff_ne.2 h, beq_eq_false_iff_ne.2 (fun e => h ((enc_nil _).1 e))]
  rw [this, Bool.and_true, Bool.and_true]
theorem parse_ok : ∀ (ps : List Pr) (out : List Pr), (∀ p ∈ ps, p.1 ≠ []) → out.length + ps.length ≤ 64 → parseL (ps.map fun p => qPart (enc2 p)) out = (out ++ ps, true)
  | [], out, _, _ => by rw [List.map_nil, parseL, List.append_nil]
  | p :: ps, out, h, hl => by
    rw [List.length_cons] at hl
    have hp := h p List.mem_cons_self
    rw [List.map_cons, parseL, part_q, if_neg (by
      rintro (e | e)
      · rw [beq_eq_false_iff_ne.2 hp] at e; cases e
      · omega), parse_ok ps _ (fun q hq => h q (List.mem_cons_of_mem _ hq)) (by rw [List.length_append, List.length_singleton]; omega), List.append_assoc]
    rfl
theorem parse_bad : ∀ (ps : List Pr) (out : List Pr), (∃ p ∈ ps, p.1 = []) → (parseL (ps.map fun p => qPart (enc2 p)) out).2 = false
  | [], out, ⟨p, hp, _⟩ => by cases hp
  | p :: ps, out, ⟨q, hq, e⟩ => by
    rw [List.map_cons, parseL, part_q]
    split
    · rfl
    · rename_i hh
      rcases List.mem_cons.1 hq with rfl | hq
      · exact absurd (.inl (by rw [e]; rfl)) hh
      · exact parse_bad ps _ ⟨q, hq, e⟩
def dec2 (e : Pr) : Pr := ((pctS e.1).1, (pctS e.2).1)
theorem dec_enc (p : Pr) : dec2 (enc2 p) = p := by
  unfold dec2 enc2; rw [pctS_enc, pctS_enc]
def sortQ (l : List Pr) : List Pr := ((l.map enc2).mergeSort pairLe).map dec2
theorem sortQ_perm (l : List Pr) : (sortQ l).Perm l := by
  have h := (List.mergeSort_perm (l.map enc2) pairLe).map dec2
  rw [List.map_map, show (dec2 ∘ enc2) = id from funext dec_enc, List.map_id] at h
  exact h
theorem sortQ_enc (l : List Pr) : (sortQ l).map enc2 = (l.map enc2).mergeSort pairLe := by
  unfold sortQ
  rw [List.map_map]
  conv => rhs; rw [← List.map_id ((l.map enc2).mergeSort pairLe)]
  refine List.map_congr_left fun e he => ?_
  have he : e ∈ l.map enc2 := (List.mergeSort_perm _ _).subset he
  obtain ⟨p, _, rfl⟩ := List.mem_map.1 he
  show enc2 (dec2 (enc2 p)) = enc2 p
  rw [dec_enc]
theorem canT_perm {l m : List Pr} (h : l.Perm m) : canT l = canT m := by
  unfold canT
  rw [sort_perm (h.map enc2)]
theorem canT_q (l : List Pr) : canT l = qAll false ((sortQ l).map enc2) := by
  unfold canT; rw [sortQ_enc]
theorem q_first (p : Pr) (ps : List Pr) : qAll false ((p :: ps).map enc2) = qPart (enc2 p) ++ qAll true (ps.map enc2) := rfl
theorem q_ne (p : Pr) (ps : List Pr) : qAll false ((p :: ps).map enc2) ≠ [] := by
  rw [q_first]; unfold qPart; simp
theorem parse_can (l : List Pr) (h : ∀ p ∈ l, p.1 ≠ []) (hl : l.length ≤ 60) : parseT (canT l) = (sortQ l, true) := by
  rw [canT_q]
  have hp := sortQ_perm l
  have h2 : ∀ p ∈ sortQ l, p.1 ≠ [] := fun p hm => h p (hp.subset hm)
  have hl2 : (sortQ l).length ≤ 60 := hp.length_eq ▸ hl
  cases hs : sortQ l with
  | nil => rfl
  | cons p ps =>
    rw [hs] at h2 hl2
    unfold parseT
    rw [if_neg (q_ne p ps), q_first, split_q ps _ (part_no p)]
    exact parse_ok (p :: ps) [] h2 (by simpa using (by omega : (p :: ps).length ≤ 64))
theorem parse_can_bad (l : List Pr) (h : ∃ p ∈ l, p.1 = []) : (parseT (canT l)).2 = false := by
  rw [canT_q]
  have hp := sortQ_perm l
  obtain ⟨q, hq, e⟩ := h
  have hq : q ∈ sortQ l := hp.symm.subset hq
  cases hs : sortQ l with
  | nil => rw [hs] at hq; cases hq
  | cons p ps =>
    rw [hs] at hq
    unfold parseT
    rw [if_neg (q_ne p ps), q_first, split_q ps _ (part_no p)]
    exact parse_bad (p :: ps) [] ⟨q, hq, e⟩
theorem qAll_len : ∀ (l : List Pr) (f : Bool), (∀ p ∈ l, p.1.length + p.2.length ≤ 6000) → (qAll f l).length ≤ l.length * 6002
  | [], f, h => by simp [qAll]
  | p :: ps, f, h => by
    have := qAll_len ps true (fun q hq => h q (List.mem_cons_of_mem _ hq))
    have := h p List.mem_cons_self
    have hf : (if f = true then ([38] : List UInt8) else []).length ≤ 1 := by split <;> simp
    rw [qAll, List.length_append, List.length_append, List.length_cons]
    unfold qPart
    rw [List.length_append, List.length_append, List.length_singleton, Nat.add_mul]
    omega
theorem canT_len (l : List Pr) (h : okQ l) : (canT l).length ≤ 600000 := by
  unfold canT
  have hlen : ((l.map enc2).mergeSort pairLe).length = l.length := by rw [List.length_mergeSort, List.length_map]
  have := qAll_len ((l.map enc2).mergeSort pairLe) false (fun p hp => by
    have hp : p ∈ l.map enc2 := (List.mergeSort_perm _ _).subset hp
    obtain ⟨q, hq, rfl⟩ := List.mem_map.1 hp
    have := h.2 q hq
    have := enc_len q.1
    have := enc_len q.2
    show (encS q.1).length + (encS q.2).length ≤ 6000
    omega)
  have := h.1
  rw [hlen] at *
  have : l.length * 6002 ≤ 90 * 6002 := Nat.mul_le_mul_right _ h.1
  omega
end Go.Proofs.YtdaojihnaajfeaaDoorX

/- QueryBack: the law. -/
set_option linter.unusedVariables false
set_option linter.unusedSimpArgs false
namespace Go.Proofs.YtdaojihnaajfeaaDoorX
open Go
theorem count_take (l : List Pr) (x : Pr) (k : Nat) (h : k < l.length) : (l.take (k + 1)).count x = (l.take k).count x + (if (((l.getD k default).1 == x.1) && ((l.getD k default).2 == x.2)) = true then 1 else 0) := by
  have ht : l.take (k + 1) = l.take k ++ [l.getD k default] := by
    rw [List.take_succ_eq_append_getElem h, List.getD_eq_getElem?_getD, List.getElem?_eq_getElem h]; rfl
  rw [ht, List.count_append, List.count_singleton]
  rfl
theorem count_le2 (l : List Pr) (x : Pr) (k : Nat) : (l.take k).count x ≤ l.length := Nat.le_trans List.count_le_length (by rw [List.length_take]; omega)
theorem ev_J2B (l m : List Pr) (b : Bool) (hp : m.Perm l) (hl : l.length ≤ 60) : ∀ (d i : Nat), i + d = m.length → Ev (fun n => F4_L3 n l (m, b) (i : Int)) true := by
  have hlen := hp.length_eq
  intro d
  induction d with
  | zero =>
    intro i hi
    refine Ev.step (Ev.pure.congr fun n => ?_)
    rw [F4_L3]
    dsimp only
    rw [decide_eq_false (by omega), iteB_f]
  | succ d ih =>
    intro i hi
    have next := ih (i + 1) (by omega)
    have inner : ∀ (e k : Nat) (c : Int), k + e = l.length → c = ((l.take k).count (m.getD i default) : Int) - ((m.take k).count (m.getD i default) : Int) → Ev (fun n => F4_L4 n l (m, b) (i : Int) c (k : Int)) true := by
      intro e
      induction e with
      | zero =>
        intro k c hk hc
        have h0 : c = 0 := by
          rw [hc, List.take_of_length_le (by omega), List.take_of_length_le (by omega), hp.count_eq]; omega
        refine Ev.step (next.congr fun n => ?_)
        rw [F4_L4]
        rw [decide_eq_false (by omega), iteB_f, h0, show ((0 : Int) != 0) = false from rfl, iteB_f, g64 i (by omega)]
      | succ e ihe =>
        intro k c hk hc
        have b1 := count_le2 l (m.getD i default) k
        have b2 := count_le2 m (m.getD i default) k
        have s1 := count_take l (m.getD i default) k (by omega)
        have s2 := count_take m (m.getD i default) k (by omega)
        have r := ihe (k + 1)
        have step : ∀ (c1 : Int), -100 ≤ c1 ∧ c1 ≤ 100 → ((l.take (k + 1)).count (m.getD i default) : Int) - ((m.take (k + 1)).count (m.getD i default) : Int) = c1 - (if (((m.getD k default).1 == (m.getD i default).1) && ((m.getD k default).2 == (m.getD i default).2)) = true then 1 else 0) → Ev (fun n => F4_J5 n l (m, b) (i : Int) (k : Int) c1) true := by
          intro c1 hb1 he
          cases hq : (((m.getD k default).1 == (m.getD i default).1) && ((m.getD k default).2 == (m.getD i default).2)) with
          | true =>
            rw [hq, if_pos rfl] at he
            refine (r (c1 - 1) (by omega) he.symm).congr fun n => ?_
            rw [F4_J5]
            dsimp only
            rw [grd_t _ (by omega), grd_t _ (by omega), toNat_nat, toNat_nat, hq, iteB_t, w64 (n := c1 - 1) (by omega), g64 k (by omega)]
          | false =>
            rw [hq, if_neg (by decide)] at he
            refine (r c1 (by omega) (by omega)).congr fun n => ?_
            rw [F4_J5]
            dsimp only
            rw [grd_t _ (by omega), grd_t _ (by omega), toNat_nat, toNat_nat, hq, iteB_f, g64 k (by omega)]
        cases hq : (((l.getD k default).1 == (m.getD i default).1) && ((l.getD k default).2 == (m.getD i default).2)) with
        | true =>
          rw [hq, if_pos rfl] at s1
          refine Ev.step ((step (c + 1) (by omega) (by rw [s1, s2]; split <;> omega)).congr fun n => ?_)
          rw [F4_L4]
          dsimp only
          rw [decide_eq_true (by omega), iteB_t, grd_t _ (by omega), grd_t _ (by omega), toNat_nat, toNat_nat, hq, iteB_t, w64 (n := c + 1) (by omega)]
        | false =>
          rw [hq, if_neg (by decide)] at s1
          refine Ev.step ((step c (by omega) (by rw [s1, s2]; split <;> omega)).congr fun n => ?_)
          rw [F4_L4]
          dsimp only
          rw [decide_eq_true (by omega), iteB_t, grd_t _ (by omega), grd_t _ (by omega), toNat_nat, toNat_nat, hq, iteB_f]
    refine Ev.step ((inner l.length 0 0 (by omega) (by simp)).congr fun n => ?_)
    rw [F4_L3]
    dsimp only
    rw [decide_eq_true (by omega), iteB_t]
    rfl
theorem can_a : canT [(([97] : List UInt8), ([] : List UInt8))] = [97, 61] := by
  have h : enc2 (([97] : List UInt8), ([] : List UInt8)) = ([97], []) := by
    unfold enc2 encS
    rw [List.flatMap_cons, List.flatMap_nil, List.append_nil, show encB 97 = [97] by decide +kernel]
  unfold canT
  rw [List.map_cons, List.map_nil, h, List.mergeSort_singleton]
  rfl
theorem okQ_a : okQ [(([97] : List UInt8), ([] : List UInt8))] := ⟨by decide, fun p hp => by obtain rfl := List.mem_singleton.1 hp; exact ⟨by decide, by decide⟩⟩
theorem at_bd (a : Int) (L : Nat) (h0 : 0 < L) (hL : L ≤ 100000) : 0 ≤ (IntKind.wrap .i64 ((a.tmod (L : Int)) + (L : Int))).tmod (L : Int) ∧ (IntKind.wrap .i64 ((a.tmod (L : Int)) + (L : Int))).tmod (L : Int) < (L : Int) := by
  have h1 : a.tmod (L : Int) < (L : Int) := Int.tmod_lt_of_pos a (by omega)
  have h2 : -(L : Int) < a.tmod (L : Int) := Int.lt_tmod_of_pos a (by omega)
  rw [w64 (by omega)]
  exact ⟨Int.tmod_nonneg _ (by omega), Int.tmod_lt_of_pos _ (by omega)⟩
theorem ev_L1B (l : List Pr) (a : Int) (h : okQ l) (hl : l.length ≤ 60) : ∀ (d i : Nat), i + d = l.length → (∀ p ∈ l.take i, p.1 ≠ []) → Ev (fun n => F4_L1 n l a (canT l) (i : Int)) true := by
  have hcl := canT_len l h
  intro d
  induction d with
  | zero =>
    intro i hi hne
    rw [List.take_of_length_le (by omega)] at hne
    have hp := sortQ_perm l
    have hpl := hp.length_eq
    obtain ⟨N1, e1⟩ := ev_Parse (canT l) (by omega)
    rw [parse_can l hne hl] at e1
    obtain ⟨N2, e2⟩ := ev_Canon (sortQ l) (okQ_perm h hp)
    rw [canT_perm hp] at e2
    obtain ⟨N3, e3⟩ := ev_Canon _ okQ_a
    rw [can_a] at e3
    obtain ⟨N4, e4⟩ := ev_J2B l (sortQ l) true hp hl (sortQ l).length 0 (by omega)
    have e4' : ∀ n, N4 ≤ n → F4_J2 n l (sortQ l, true) = some true := by
      intro n hn
      have q4 := e4 n hn
      dsimp only at q4
      rw [F4_J2]
      exact q4
    by_cases h1 : (1 : Int) < (l.length : Int)
    · obtain ⟨b1, b2⟩ := at_bd a l.length (by omega) (by omega)
      generalize hj : (IntKind.wrap .i64 ((a.tmod (l.length : Int)) + (l.length : Int))).tmod (l.length : Int) = j at b1 b2
      have hturn : (l.drop j.toNat ++ l.take j.toNat).Perm l := by
        have := List.perm_append_comm (l₁ := l.drop j.toNat) (l₂ := l.take j.toNat)
        rw [List.take_append_drop] at this
        exact this
      obtain ⟨N5, e5⟩ := ev_Canon (l.drop j.toNat ++ l.take j.toNat) (okQ_perm h hturn)
      rw [canT_perm hturn] at e5
      refine Ev.step ⟨N1 + N2 + N3 + N4 + N5, fun n hn => ?_⟩
      have q1 := e1 n (by omega)
      have q2 := e2 n (by omega)
      have q3 := e3 n (by omega)
      have q4 := e4' n (by omega)
      have q5 := e5 n (by omega)
      dsimp only at q1 q2 q3 q5
      show F4_L1 (n + 1) l a (canT l) (i : Int) = _
      rw [F4_L1, decide_eq_false (by omega), iteB_f, q1, bind_some']
      dsimp only
      rw [Bool.not_true, iteB_f, show (((sortQ l).length : Int) != (l.length : Int)) = false by rw [hpl]; simp, iteB_f, q2, bind_some', beq_self_eq_true, Bool.not_true, iteB_f, q3, bind_some', beq_self_eq_true, Bool.not_true, iteB_f, decide_eq_true h1, iteB_t, hj, grd_t _ (by omega), grd_t _ (by omega), grd_t _ (by omega), grd_t _ (by rw [List.length_drop]; omega), grd_t _ (by omega), grd_t _ (by rw [List.length_drop, List.length_take]; omega), q5, bind_some', beq_self_eq_true, Bool.not_true, iteB_f, q4]
    · refine Ev.step ⟨N1 + N2 + N3 + N4, fun n hn => ?_⟩
      have q1 := e1 n (by omega)
      have q2 := e2 n (by omega)
      have q3 := e3 n (by omega)
      have q4 := e4' n (by omega)
      dsimp only at q1 q2 q3
      show F4_L1 (n + 1) l a (canT l) (i : Int) = _
      rw [F4_L1, decide_eq_false (by omega), iteB_f, q1, bind_some']
      dsimp only
      rw [Bool.not_true, iteB_f, show (((sortQ l).length : Int) != (l.length : Int)) = false by rw [hpl]; simp, iteB_f, q2, bind_some', beq_self_eq_true, Bool.not_true, iteB_f, q3, bind_some', beq_self_eq_true, Bool.not_true, iteB_f, decide_eq_false h1, iteB_f, q4]
  | succ d ih =>
    intro i hi hne
    have hm : l.getD i default ∈ l := by
      rw [List.getD_eq_getElem?_getD, List.getElem?_eq_getElem (by omega)]
      exact List.getElem_mem _
    have ht : l.take (i + 1) = l.take i ++ [l.getD i default] := by
      rw [List.take_succ_eq_append_getElem (by omega), List.getD_eq_getElem?_getD, List.getElem?_eq_getElem (by omega)]; rfl
    by_cases h0 : (l.getD i default).1 = []
    · obtain ⟨N1, e1⟩ := ev_Parse (canT l) (by omega)
      have hb := parse_can_bad l ⟨_, hm, h0⟩
      refine Ev.step ⟨N1, fun n hn => ?_⟩
      have q1 := e1 n hn
      dsimp only at q1
      show F4_L1 (n + 1) l a (canT l) (i : Int) = _
      rw [F4_L1, decide_eq_true (by omega), iteB_t, grd_t _ (by omega), toNat_nat, show ((l.getD i default).1 == []) = true by rw [h0]; rfl, iteB_t, q1, bind_some', hb]
      rfl
    · refine Ev.step ((ih (i + 1) (by omega) (by
        rw [ht]
        intro p hp
        rcases List.mem_append.1 hp with hp | hp
        · exact hne p hp
        · obtain rfl := List.mem_singleton.1 hp
          exact h0)).congr fun n => ?_)
      rw [F4_L1, decide_eq_true (by omega), iteB_t, grd_t _ (by omega), toNat_nat, show ((l.getD i default).1 == []) = false from beq_eq_false_iff_ne.2 h0, iteB_f, g64 i (by omega)]
theorem law_main (v0 : List Pr) (v1 : Int) (h0 : okT22 v0) (h1 : okT3 v1) : ∃ n, F4 n v0 v1 = some true := by
  have key : Ev (fun n => F4 n v0 v1) true := by
    obtain ⟨w, ⟨N1, e1⟩, hw⟩ := ev_own29 v0
    cases hf : w.2 with
    | false =>
      refine ⟨N1, fun n hn => ?_⟩
      have q1 := e1 n hn
      dsimp only at q1
      show F4 n v0 v1 = _
      rw [F4, q1, bind_some', hf, Bool.not_false, iteB_t]
    | true =>
      have hok := hw hf
      by_cases h6 : (60 : Int) < (v0.length : Int)
      · refine ⟨N1, fun n hn => ?_⟩
        have q1 := e1 n hn
        dsimp only at q1
        show F4 n v0 v1 = _
        rw [F4, q1, bind_some', hf, Bool.not_true, iteB_f, decide_eq_true h6, iteB_t]
      · obtain ⟨N2, e2⟩ := ev_Canon v0 hok
        obtain ⟨N3, e3⟩ := ev_L1B v0 v1 hok (by omega) v0.length 0 (by omega) (by simp)
        refine ⟨N1 + N2 + N3, fun n hn => ?_⟩
        have q1 := e1 n (by omega)
        have q2 := e2 n (by omega)
        have q3 := e3 n (by omega)
        dsimp only at q1 q2 q3
        show F4 n v0 v1 = _
        rw [F4, q1, bind_some', hf, Bool.not_true, iteB_f, decide_eq_false h6, iteB_f, q2, bind_some']
        exact q3
  obtain ⟨N, h⟩ := key
  exact ⟨N, h N (Nat.le_refl _)⟩
end Go.Proofs.YtdaojihnaajfeaaDoorX

/- A row that is there, of nothing, and functions that hand out a row of their own. Of no program. -/
set_option linter.unusedVariables false
set_option linter.unusedSimpArgs false
namespace Go.Proofs.YtdaojihnaajfeaaDoorX
open Go Go.RowKit
theorem FnR.fresh {P : Program} {f : FuncId} {t : TypeId} {sz : Nat} {args : List T} {l : List T} (hf : enters P f) (hz : refsCL args = [])
    (h : ∀ (E : Env) (vs : Array Value), RepL E false args vs.toList → Calls P f vs E.w fun e w' => ∃ v' xs, e = .returned v' ∧ w'.ownsRow E.w.heap.size t sz v' l.length xs ∧ Below E.w.heap.size E.w w' ∧ RepR E sz l xs) :
    FnR P f [some (.buf t sz [] 0)] args (.rsl 0 sz 0 l.length) [some (.buf t sz l 0)] := by
  refine ⟨hf, rfl, rfl, by rw [hz]; rfl, fun B μ vs hO hOwn hv => ?_⟩
  refine (h ⟨B.w, μ, [some (.buf t sz [] 0)], B.ban⟩ vs hv).mono fun e w' ⟨v', xs, he, hown, hb, hr⟩ => ?_
  have hb : Below B.w.heap.size B.w w' := hb
  have hk : Kept B w' := ⟨hb.os, hb.tape, hb.output, hb.size, fun k h1 _ => hb.block k h1,
    fun k lk h1 j _ => cell_of_block (hb.block k (B.lt k lk h1)), fun k lk h1 c t fr hc => ⟨c, fr, (hb.block k (B.lt k lk h1)).trans hc, rfl⟩⟩
  obtain ⟨hxl, hown⟩ := hown
  rcases hown with ⟨rfl, hn⟩ | ⟨g, cap, cur, rfl, hg, hheap, hcap, _, hcs, hct⟩
  · have hl : l = [] := List.length_eq_zero_iff.1 hn
    subst hl
    refine ⟨_, fun _ => none, he, ⟨fun o x hx => ?_, fun o o' x x' b _ _ _ _ h1 _ => by cases h1⟩, ?_, hk, fun o x b _ _ h1 => by cases h1⟩
    · have hx : ([some (Own.buf t sz [] 0)] : List (Option Own))[o]? = some (some x) := hx
      cases o with
      | zero => simp at hx; subst hx; exact ⟨Nat.le_refl _, .inl ⟨rfl, rfl⟩⟩
      | succ o => simp at hx
    · simp only [Rep]
      exact ⟨trivial, ⟨_, rfl⟩, .inl ⟨trivial, rfl, trivial, ⟨⟨none, fun x h => by cases h⟩, rfl⟩⟩⟩
  · have hst : StepC ⟨B.w, μ, [some (.buf t sz [] 0)], B.ban⟩ ⟨w', fun o => if o = 0 then some g else none, [some (.buf t sz l 0)], B.ban⟩ := by
      refine ⟨fun b j v ⟨h1, h2, h3⟩ => ⟨(cell_of_block (hb.block b (cell_lt h1))).trans h1, fun lk ⟨o, y, k1, k2, k3⟩ => ?_, h3⟩, fun b c t fr hc => ⟨c, fr, (hb.block b (Array.getElem?_eq_some_iff.1 hc).1).trans hc, rfl⟩⟩
      have hlt := cell_lt h1
      have k2 : (if o = 0 then some g else none) = some b := k2
      split at k2
      · injection k2 with k2
        have : B.w.heap.size ≤ b := k2 ▸ hg
        have hlt : b < B.w.heap.size := hlt
        omega
      · cases k2
    refine ⟨_, fun o => if o = 0 then some g else none, he, ⟨fun o x hx => ?_, fun o o' x x' b h1 h2 _ _ _ _ => ?_⟩, ?_, hk, fun o x b h1 _ h2 => ?_⟩
    · have hx : ([some (Own.buf t sz l 0)] : List (Option Own))[o]? = some (some x) := hx
      cases o with
      | zero =>
        simp at hx; subst hx
        refine ⟨Nat.zero_le _, .inr ⟨g, cur, (0, 0), xs, cur.toList.drop (l.length * sz), rfl, hheap, .inl rfl, ?_, RepR.stepC hst _ _ _ hr⟩⟩
        rw [← hct]; exact (List.take_append_drop _ _).symm
      | succ o => simp at hx
    · have h1 : ([some (Own.buf t sz l 0)] : List (Option Own))[o]? = some (some x) := h1
      have h2 : ([some (Own.buf t sz l 0)] : List (Option Own))[o']? = some (some x') := h2
      have := (List.getElem?_eq_some_iff.1 h1).1
      have := (List.getElem?_eq_some_iff.1 h2).1
      simp at *
      omega
    · simp only [Rep]
      exact ⟨trivial, ⟨_, rfl⟩, .inr ⟨g, 0, cap, cur, t, (0, 0), rfl, rfl, hcap, .inr (by omega), hheap, by rw [Nat.zero_add, hcs]; exact Nat.le_refl _⟩⟩
    · have h2 : (if o = 0 then some g else none) = some b := h2
      split at h2
      · injection h2 with h2; exact .inl (h2 ▸ hg)
      · cases h2
end Go.Proofs.YtdaojihnaajfeaaDoorX

/- Rows whose functions read a library's variables: the world's shape is kept. Of no program. -/
set_option linter.unusedVariables false
set_option linter.unusedSimpArgs false
namespace Go.Proofs.YtdaojihnaajfeaaDoorX
open Go Go.RowKit
theorem handed_and_shaped {H : Type} {enc : TypeId × Value → H} {a : Assume} {C : Checked} {os : Os} {f : FuncId} {fn : Func} {s : ChangeSpec} {conds : List PathCond} {apart fresh handsOn again : Bool} {X : World → Array Value → Prop}
    (hX : ∀ (w w' : World) (args : Array Value), w.heap = w'.heap → X w args → X w' args)
    (own : ownKnob C.prog.godebug = none) (started : os.Started) (noInit : C.prog.inits.idxOf? f = none) (hfn : C.prog.funcs[f]? = some fn)
    (witness : ∃ (w : World) (tape : Tape) (i : Input), w.os = os ∧ (w.forCall tape i).Shaped C.prog ∧ i.vars = [] ∧ Input.okWide C.prog (w.forCall tape i) .any w.heap.size f i ∧
      ((s.pre enc C.prog fn conds apart (w.forCall tape i).memory i.args ∧ X (w.forCall tape i).memory i.args) ∧ sizedMet enc C.prog fn (OpenSpec.ofChange s) apart (w.forCall tape i).memory i.args) ∧ a.holds C.prog (lone (Frame.enter C.prog f i.args .normal) [] (w.forCall tape i)))
    (contract : ∀ (W : World) (base : Nat) (args : Array Value) (ds gs : List (DataW H)) (before : List MemPlace),
      (∀ (j : Nat) t v, fn.params[j]? = some t → args[j]? = some v → Value.okWide C.prog W .any base t v) →
      DataW.Whole enc C.prog fn.params.toList s.vars apart W args.toList ds gs before →
      conds.all (PathCond.test C.prog ⟨fn.params.toList, ds, s.plain.varTypes C.prog, gs⟩) = true →
      (DataW.weightsEach C.prog (fn.params.toList ++ s.plain.varTypes C.prog) (ds ++ gs)).all (· ≤ reachBytes) = true → X W args → W.ShapedOpen C.prog →
      a.holds C.prog (lone (Frame.enter C.prog f args .normal) [] W) →
      Calls C.prog f args W fun e W' => ∃ v, e = .returned v ∧ s.post enc C.prog fn apart fresh handsOn again W args v W') :
    ReturnsInHanded a C os f .any (fun w args => (s.pre enc C.prog fn conds apart w args ∧ X w args) ∧ sizedMet enc C.prog fn (OpenSpec.ofChange s) apart w args) (s.post enc C.prog fn apart fresh handsOn again) := by
  refine returnsInHanded_of_calls own started noInit witness ?_
  intro w tape i _ hsh _ hok hpre hholds
  obtain ⟨_, _, _, fn', hfn', _, _, _, _, hval⟩ := hok
  have e : fn' = fn := Option.some.inj (hfn'.symm.trans hfn)
  subst e
  obtain ⟨⟨⟨ds, gs, before, hw, hc⟩, hx⟩, hz⟩ := hpre
  have hw' := DataW.Whole.of_heap (w' := w.forCall tape i) (by rfl) hw
  refine (contract (w.forCall tape i) w.heap.size i.args ds gs before hval hw' hc (hz.weights hw) (hX _ _ _ (by rfl) hx) hsh hholds).mono fun e W' ⟨v, he, hp⟩ => ?_
  subst he
  exact ChangeSpec.post_blind hp
end Go.Proofs.YtdaojihnaajfeaaDoorX

set_option linter.unusedVariables false
namespace Go.Proofs.YtdaojihnaajfeaaDoorX
open Go Go.RowKit Go.Proofs
set_option maxRecDepth 100000
theorem shapedRow (xs : List T) (h : ShapesW Tryd.prog [22, 3] xs) : FnC Tryd.prog 4 xs (tb true) := shapedQueryBack law_main xs h
end Go.Proofs.YtdaojihnaajfeaaDoorX
namespace Go.Proofs.YtdaojihnaajfeaaDoor.queryBack
open Go.ChangeShapes Go.WideShapes Go.ChangeAt Go.RowKit
set_option linter.unusedVariables false
theorem own : ownKnob Tryd.prog.godebug = none := by kernel_rfl
set_option maxRecDepth 100000 in
theorem lifted (os : Os) (started : os.Started) (H : Type) (enc : TypeId × Value → H) :
    ReturnsInHanded {} Tryd.checked os 4 .any (fun w args => (Rows.queryBackSpec.pre enc Tryd.prog Tryd.f4 [] false w args ∧ laidMetH Tryd.prog Rows.queryBackRow.laid w) ∧ sizedMet enc Tryd.prog Tryd.f4 (OpenSpec.ofChange Rows.queryBackSpec) false w args) (Rows.queryBackSpec.post enc Tryd.prog Tryd.f4 false true false false) := by
  refine YtdaojihnaajfeaaDoorX.handed_and_shaped (C := Tryd.checked) (X := fun w _ => laidMetH Tryd.prog Rows.queryBackRow.laid w) (fun _ _ _ hh h => h.of_heap hh) own started (by kernel_rfl) Tryd.func4
    (ChangeSpec.witness_shaped (enc := enc) (C := Tryd.checked) (os := os) (X := fun w _ => laidMetH Tryd.prog Rows.queryBackRow.laid w) false (World.laidAll Tryd.prog os Rows.queryBackRow.laid) #[.slice none 0 0, .int .i64 0] 8 (World.laidAll_os _ _ _)
      (World.shaped_of_ZipB (by kernel_rfl) (by kernel_rfl)) (by kernel_rfl) (by kernel_rfl) (by kernel_rfl)
      (by rw [MakeChecks.laidMetH_plain _ _ _ (by kernel_rfl)]; exact laidMet_laidAll _ (by kernel_rfl) (by kernel_rfl))) ?_
  intro W base args ds gs before hval0 hW _ _ hL hsh _
  exact YtdaojihnaajfeaaDoorX.row_contract (P := Tryd.prog) (fn := Tryd.f4) (s := Rows.queryBackSpec) (ts := [22, 3]) (tb := 4) (L := [22, 3, 30, 28, 9]) (by kernel_rfl) (by kernel_rfl) (by kernel_rfl) (by kernel_rfl) (by kernel_rfl) (by kernel_rfl) rfl
    (fun H ds h => by
      match ds, h with
      | [d0, d1], _ => rfl) YtdaojihnaajfeaaDoorX.shapedRow W (fun g hg => by
    have e : g = 0 := by simpa [YtdaojihnaajfeaaDoorX.globsI] using hg
    subst e
    exact cell_of_shapedOpen_int (P := Tryd.prog) (g := 0) (t := 3) (zero := #[.int .i64 0]) hsh (of_decide_eq_true (by kernel_rfl)) (by kernel_rfl) rfl (by kernel_rfl) (by kernel_rfl) Tryd.underlying3) base args ds gs before hval0 hW
theorem over : Rows.queryBackRow.holds Tryd.pinned (OpenSpec.ofChange Rows.queryBackSpec) :=
  OpenClaim.holds_of_wide 4 Tryd.f4 rfl rfl rfl rfl rfl rfl rfl ⟨rfl, rfl, rfl, rfl, rfl⟩ rfl rfl rfl rfl rfl (by kernel_rfl) Tryd.func4 (by kernel_rfl)
    (of_decide_eq_true (by kernel_rfl)) (by unfold Func.isWrapper; first | (rw [if_pos (by decide +kernel)]; kernel_rfl) | (rw [if_neg (by decide +kernel)]; exact ⟨rfl, rfl⟩))
    (fun os started H enc _ => lifted os started H enc)
theorem proved : Rows.QueryBackCardSaid :=
  Claim7.holds_tied_plain_at .later [] [.data, .pinned] true (true, "ab0fcd7b148f43f0b787e0edd2a00380ea616befb36f3a8a87e567b9bc545811") false
    over (fun _ h => by cases h) (by kernel_rfl) (fun _ h => by cases h) queryBack_row_tie rfl ⟨rfl, rfl⟩ (by kernel_rfl) rfl
    (fun f fn hf hfn => by
      obtain rfl : f = 4 := Option.some.inj ((show Tryd.prog.funcNamed "shadowbox/shadowboxlaw29.QueryBack" = some 4 by kernel_rfl).symm.trans hf) |>.symm
      obtain rfl : fn = Tryd.f4 := (Option.some.inj (Tryd.func4.symm.trans hfn)).symm
      exact ⟨by kernel_rfl, fun j t ht => by
        rw [Tryd.params4] at ht
        have hm : t ∈ [22, 3] := by simpa using Array.mem_of_getElem? ht
        have hall : ([22, 3].all fun u => !Tryd.prog.wantsStandIn u) = true := by kernel_rfl
        exact (show Tryd.prog.wantsStandIn t = false by simpa using List.all_eq_true.1 hall t hm)⟩)
    (by kernel_rfl)
#print axioms proved
end Go.Proofs.YtdaojihnaajfeaaDoor.queryBack
namespace Go.Proofs.YtdaojihnaajfeaaDoor
theorem queryBack_holds : Rows.QueryBackCardSaid := queryBack.proved
end Go.Proofs.YtdaojihnaajfeaaDoor
