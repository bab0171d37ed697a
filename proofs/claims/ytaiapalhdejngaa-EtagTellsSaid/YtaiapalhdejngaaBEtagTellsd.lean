/- Part of the proof of EtagTells: walks and plain words, merged. -/
import Derived.Test.YtaiapalhdejngaaBEtagTellsb
import Derived.Test.YtaiapalhdejngaaBEtagTellsc
import Derived.Lib.Bytealg
set_option linter.unusedVariables false
set_option linter.unusedSimpArgs false

set_option linter.unusedVariables false
set_option linter.unusedSimpArgs false
namespace Go.Proofs.YtaiapalhdejngaaX
open Go Go.RowKit Go.Proofs
set_option maxRecDepth 100000
attribute [local go_sem ↓] stepsK_build stepsK_bs appendS
attribute [local go_sem] String.reduceEq String.reduceNe reduceCtorEq Int.reduceEq Nat.reduceAdd Nat.reduceSub Nat.reduceMul Nat.reduceLT Nat.reduceLeDiff Nat.reduceEqDiff Nat.reduceBEq Int.reduceToNat Int.reduceLT Int.reduceLE Int.reduceGT Int.reduceGE Int.reduceAdd Int.reduceSub Int.reduceMul Int.reduceNeg Int.reduceBEq Int.reduceBNe Int.reducePow Int.reduceDiv Int.reduceMod Int.reduceTDiv Int.reduceTMod Int.reduceNatCast
/-! ### md5.Text -/
def F54_S1 (v1 : List (Int)) (x2 : Int) (x3 : List (Int)) : St := ⟨[.junk, .junk, .junk, .rsl 0 1 0 x3.length, .junk, .junk, .junk, .agg (List.map byteT v1), .imm (.int .i64 x2), .junk, .junk, .junk, .junk, .junk, .junk, .junk, .junk, .junk, .junk, .junk, .junk, .junk, .junk], [some (.buf 5 1 (List.map byteT x3) 0)]⟩
def F54_L1 : Nat → (List (Int)) → (Int) → (List (Int)) → Option (List UInt8)
 | 0, _, _, _ => none
 | m1 + 1, v1, x2, x3 => iteB (decide (x2 < (16 : Int))) (grd (0 ≤ x2 ∧ x2 < (16 : Int) ∧ x2.toNat < v1.length) (grd (0 ≤ (bShr .u8 (v1.getD x2.toNat default) 4) ∧ (bShr .u8 (v1.getD x2.toNat default) 4) < (16 : Int)) (grd (0 ≤ (IntKind.wrap .u8 (bAnd .u8 (v1.getD x2.toNat default) (15 : Int))) ∧ (IntKind.wrap .u8 (bAnd .u8 (v1.getD x2.toNat default) (15 : Int))) < (16 : Int)) (grd ((x3.length + 2) ≤ 549755813888) (F54_L1 m1 v1 (IntKind.wrap .i64 (x2 + (1 : Int))) (x3 ++ ([((([48, 49, 50, 51, 52, 53, 54, 55, 56, 57, 97, 98, 99, 100, 101, 102] : List UInt8).getD (bShr .u8 (v1.getD x2.toNat default) 4).toNat 0).toNat : Int), ((([48, 49, 50, 51, 52, 53, 54, 55, 56, 57, 97, 98, 99, 100, 101, 102] : List UInt8).getD (IntKind.wrap .u8 (bAnd .u8 (v1.getD x2.toNat default) (15 : Int))).toNat 0).toNat : Int)]))))))) (some (x3.map toB))
def F54 (n : Nat) (a0 : List (Int)) : Option (List UInt8) := (F45 n a0).bind fun v1 => F54_L1 n v1 (0 : Int) []
set_option maxHeartbeats 4000000 in
theorem F54_ok : ∀ (n : Nat) (a0 : List (Int)) (r : List UInt8), F54 n a0 = some r → FnC Try.prog 54 [.sl 1 false (List.map byteT a0)] (.imm (.string (bs r)))
 | n, a0, r, h => by
  unfold F54 at h
  refine FnC.goX mixed Try.func54 (by kernel_rfl) rfl ?_
  simp only [Try.ntmps54, List.length_cons, List.length_nil, List.replicate, List.cons_append, List.nil_append, Nat.reduceAdd, Nat.reduceSub]
  refine runX_seq ?_
  refine runX_regionC fun C hC => ?_
  try simp -implicitDefEqProofs (disch := omega) only [go_sem, ↓reduceIte]
  refine toEnd hC ?_
  refine endX_seq ?_
  refine runX_seq ?_
  refine runX_regionC fun C hC => ?_
  try simp -implicitDefEqProofs (disch := omega) only [go_sem, ↓reduceIte]
  refine toEnd hC ?_
  refine endX_seq ?_
  refine runX_seq ?_
  refine runX_seq ?_
  refine runX_regionC fun C hC => ?_
  obtain ⟨v1, h1, h⟩ := bnd_some h
  try simp -implicitDefEqProofs (maxSteps := 4000000) (disch := first | omega | decide | (simp only [go_sem]; omega)) only [go_sem, ↓reduceIte]
  repeat (with_reducible refine And.intro (by first | assumption | omega | (simp; done) | (simp; omega)) ?_)
  refine callG_X (by first | rfl | (simp only [go_sem]; done) | (simp only [closedL, closedT, Bool.and_true]; exact closedL_map _ (fun _ => by first | rfl | (simp only [go_sem]; done)) _)) (F45_ok n a0 _ h1) (by repeat (first | exact leL_refl _ | refine leL_cons (by first | exact leT_refl _ | exact leT_virt | exact leT_junk _ | exact leT_sl | exact leT_sln | exact leT_nil | (refine leT_agg (by repeat (first | exact leL_refl _ | refine leL_cons (by first | exact leT_refl _ | exact leT_sl | exact leT_sln | exact leT_nil) ?_)))) ?_)) ?_
  try simp -implicitDefEqProofs (maxSteps := 4000000) (disch := first | omega | decide | (simp only [go_sem]; omega)) only [go_sem, ↓reduceIte]
  repeat (with_reducible refine And.intro (by first | assumption | omega | (simp; done) | (simp; omega)) ?_)
  refine toEnd hC ?_
  refine endX_seq ?_
  refine runX_block ?_
  refine runX_loop [3, 7, 8] (fun m S => ∃ (x2 : Int) (x3 : List (Int)), S = F54_S1 v1 x2 x3 ∧ m ≤ n ∧ F54_L1 m v1 x2 x3 = some r) n ⟨F54_S1 v1 (0 : Int) [], ?_, (0 : Int), [], rfl, Nat.le_refl _, h⟩ ?_
  ·(try simp -implicitDefEqProofs (disch := omega) only [go_sem, ↓reduceIte])
   simp only [F54_S1]
   refine leS_trans (leS_pad _ _ 1) ?_
   simp only [List.replicate, List.cons_append, List.nil_append]
   refine leS_virt 0 5 1 rfl ?_ ?_ rfl
   ·repeat (first | exact leL_refl _ | refine leL_cons (by first | exact leT_refl _ | exact leT_virt | exact leT_junk _ | exact leT_sl | exact leT_sln | exact leT_nil | (refine leT_agg (by repeat (first | exact leL_refl _ | refine leL_cons (by first | exact leT_refl _ | exact leT_sl | exact leT_sln | exact leT_nil) ?_)))) ?_)
   ·repeat (first | exact leOs_refl _ | refine leOs.cons (by first | exact leO.same _ | (refine leO.box (leT_agg (by repeat (first | exact leL_refl _ | refine leL_cons (by first | exact leT_refl _ | exact leT_virt | exact leT_junk _ | exact leT_sl | exact leT_sln | exact leT_nil | (refine leT_agg (by repeat (first | exact leL_refl _ | refine leL_cons (by first | exact leT_refl _ | exact leT_sl | exact leT_sln | exact leT_nil) ?_)))) ?_))) rfl) | (refine leO.box (by first | exact leT_virt | exact leT_sl | exact leT_sln) rfl)) ?_)
  ·clear h
   rintro m1 S ⟨x2, x3, rfl, hm1, h⟩
   cases m1 with
   | zero => first | cases (show (none : Option _) = some _ from h) | (rw [F54_L1] at h; cases h)
   | succ m1 =>
    rw [F54_L1] at h
    simp only [F54_S1]
    refine runX_seq ?_
    refine runX_regionC fun C hC => ?_
    try simp -implicitDefEqProofs (disch := omega) only [go_sem, ↓reduceIte]
    refine toEnd hC ?_
    refine endX_seq ?_
    refine runX_seq ?_
    rcases iteB_some h with ⟨c4, h⟩ | ⟨c4, h⟩
    ·refine runX_condT rfl c4 ?_
     refine runX_skip ?_
     refine endX_seq ?_
     refine runX_seq ?_
     refine runX_block ?_
     refine runX_seq ?_
     refine runX_regionC fun C hC => ?_
     obtain ⟨g5, h⟩ := grd_some h
     try simp -implicitDefEqProofs (maxSteps := 4000000) (disch := first | omega | decide | (simp only [go_sem]; omega)) only [go_sem, ↓reduceIte]
     repeat (with_reducible refine And.intro (by first | assumption | omega | (simp; done) | (simp; omega)) ?_)
     refine toEnd hC ?_
     refine endX_seq ?_
     refine runX_drawC mixed (by kernel_rfl) fun C hC => ?_
     obtain ⟨g6, h⟩ := grd_some h
     obtain ⟨g7, h⟩ := grd_some h
     try simp -implicitDefEqProofs (maxSteps := 4000000) (disch := first | omega | decide | (simp only [go_sem]; omega)) only [go_sem, ↓reduceIte]
     repeat (with_reducible refine And.intro (by first | assumption | omega | (simp; done) | (simp; omega)) ?_)
     refine buildX_val ?_
     obtain ⟨g8, h⟩ := grd_some h
     try simp -implicitDefEqProofs (maxSteps := 4000000) (disch := first | omega | decide | (simp only [go_sem]; omega)) only [go_sem, ↓reduceIte]
     repeat (with_reducible refine And.intro (by first | assumption | omega | (simp; done) | (simp; omega)) ?_)
     refine toEnd hC ?_
     refine endX_blk ?_
     refine endX_seq ?_
     refine runX_regionC fun C hC => ?_
     try simp -implicitDefEqProofs (disch := omega) only [go_sem, ↓reduceIte]
     refine toEnd hC ?_
     refine endX_q (roundQ_normal ⟨m1, by omega, F54_S1 v1 (IntKind.wrap .i64 (x2 + (1 : Int))) (x3 ++ ([((([48, 49, 50, 51, 52, 53, 54, 55, 56, 57, 97, 98, 99, 100, 101, 102] : List UInt8).getD (bShr .u8 (v1.getD x2.toNat default) 4).toNat 0).toNat : Int), ((([48, 49, 50, 51, 52, 53, 54, 55, 56, 57, 97, 98, 99, 100, 101, 102] : List UInt8).getD (IntKind.wrap .u8 (bAnd .u8 (v1.getD x2.toNat default) (15 : Int))).toNat 0).toNat : Int)])), ?_, (IntKind.wrap .i64 (x2 + (1 : Int))), (x3 ++ ([((([48, 49, 50, 51, 52, 53, 54, 55, 56, 57, 97, 98, 99, 100, 101, 102] : List UInt8).getD (bShr .u8 (v1.getD x2.toNat default) 4).toNat 0).toNat : Int), ((([48, 49, 50, 51, 52, 53, 54, 55, 56, 57, 97, 98, 99, 100, 101, 102] : List UInt8).getD (IntKind.wrap .u8 (bAnd .u8 (v1.getD x2.toNat default) (15 : Int))).toNat 0).toNat : Int)])), rfl, by omega, h⟩)
     simp only [F54_S1]
     (try simp -implicitDefEqProofs (maxSteps := 4000000) (disch := first | omega | decide | (simp only [go_sem]; omega)) only [go_sem, ↓reduceIte])
     first | exact leS_refl _ | (refine leS_le ?_ ?_ <;> first | exact leL_refl _ | exact leOs_refl _ | (simp only [List.append_assoc, List.cons_append, List.nil_append]; exact leOs_refl _) | (repeat (first | exact leL_refl _ | refine leL_cons (by first | exact leT_refl _ | exact leT_virt | exact leT_junk _ | exact leT_sl | exact leT_sln | exact leT_nil | (refine leT_agg (by repeat (first | exact leL_refl _ | refine leL_cons (by first | exact leT_refl _ | exact leT_sl | exact leT_sln | exact leT_nil) ?_)))) ?_)))
    ·refine runX_condF rfl c4 ?_
     refine runX_exit ?_
     refine endX_seqE ?_
     refine endX_q (roundQ_exit ?_)
     refine endX_blkE ?_
     refine endX_seq ?_
     refine runX_seq ?_
     refine runX_regionC fun C hC => ?_
     try simp -implicitDefEqProofs (disch := omega) only [go_sem, ↓reduceIte]
     refine toEnd hC ?_
     refine endX_seq ?_
     refine runX_ret ?_
     refine endX_q ?_
     obtain rfl := Option.some.inj h
     show RetW _ _ _ _ _
     simp only [RetW]
     (try simp -implicitDefEqProofs (disch := omega) only [go_sem, ↓reduceIte])
     (try simp (disch := omega) only [if_pos, Nat.sub_zero])
     exact leT_refl _
end Go.Proofs.YtaiapalhdejngaaX

set_option linter.unusedVariables false
set_option linter.unusedSimpArgs false
namespace Go.Proofs.YtaiapalhdejngaaX
open Go Go.RowKit Go.Proofs
set_option maxRecDepth 100000
attribute [local go_sem ↓] stepsK_build stepsK_bs appendS
attribute [local go_sem] String.reduceEq String.reduceNe reduceCtorEq Int.reduceEq Nat.reduceAdd Nat.reduceSub Nat.reduceMul Nat.reduceLT Nat.reduceLeDiff Nat.reduceEqDiff Nat.reduceBEq Int.reduceToNat Int.reduceLT Int.reduceLE Int.reduceGT Int.reduceGE Int.reduceAdd Int.reduceSub Int.reduceMul Int.reduceNeg Int.reduceBEq Int.reduceBNe Int.reducePow Int.reduceDiv Int.reduceMod Int.reduceTDiv Int.reduceTMod Int.reduceNatCast
/-! ### etag.Plain -/
def F39 (n : Nat) (a0 : List (Int)) : Option (List UInt8) := (F54 n a0).bind fun v1 => some v1
set_option maxHeartbeats 4000000 in
theorem F39_ok : ∀ (n : Nat) (a0 : List (Int)) (r : List UInt8), F39 n a0 = some r → FnC Try.prog 39 [.sl 1 false (List.map byteT a0)] (.imm (.string (bs r)))
 | n, a0, r, h => by
  unfold F39 at h
  refine FnC.goX mixed Try.func39 (by kernel_rfl) rfl ?_
  simp only [Try.ntmps39, List.length_cons, List.length_nil, List.replicate, List.cons_append, List.nil_append, Nat.reduceAdd, Nat.reduceSub]
  refine runX_seq ?_
  refine runX_regionC fun C hC => ?_
  try simp -implicitDefEqProofs (maxSteps := 4000000) (disch := first | omega | decide | (simp only [go_sem]; omega)) only [go_sem, ↓reduceIte]
  repeat (with_reducible refine And.intro (by first | assumption | omega | (simp; done) | (simp; omega)) ?_)
  refine toEnd hC ?_
  refine endX_seq ?_
  refine runX_seq ?_
  refine runX_regionC fun C hC => ?_
  obtain ⟨v1, h1, h⟩ := bnd_some h
  try simp -implicitDefEqProofs (maxSteps := 4000000) (disch := first | omega | decide | (simp only [go_sem]; omega)) only [go_sem, ↓reduceIte]
  repeat (with_reducible refine And.intro (by first | assumption | omega | (simp; done) | (simp; omega)) ?_)
  refine callG_X (by first | rfl | (simp only [go_sem]; done) | (simp only [closedL, closedT, Bool.and_true]; exact closedL_map _ (fun _ => by first | rfl | (simp only [go_sem]; done)) _)) (F54_ok n a0 _ h1) (by repeat (first | exact leL_refl _ | refine leL_cons (by first | exact leT_refl _ | exact leT_virt | exact leT_junk _ | exact leT_sl | exact leT_sln | exact leT_nil | (refine leT_agg (by repeat (first | exact leL_refl _ | refine leL_cons (by first | exact leT_refl _ | exact leT_sl | exact leT_sln | exact leT_nil) ?_)))) ?_)) ?_
  try simp -implicitDefEqProofs (maxSteps := 4000000) (disch := first | omega | decide | (simp only [go_sem]; omega)) only [go_sem, ↓reduceIte]
  repeat (with_reducible refine And.intro (by first | assumption | omega | (simp; done) | (simp; omega)) ?_)
  refine toEnd hC ?_
  refine endX_seq ?_
  refine runX_ret ?_
  refine endX_q ?_
  obtain rfl := Option.some.inj h
  show RetW _ _ _ _ _
  simp only [RetW]
  (try simp -implicitDefEqProofs (maxSteps := 4000000) (disch := first | omega | decide | (simp only [go_sem]; omega)) only [go_sem, ↓reduceIte])
  (try simp (disch := omega) only [if_pos, Nat.sub_zero])
  exact leT_refl _
end Go.Proofs.YtaiapalhdejngaaX

set_option linter.unusedVariables false
set_option linter.unusedSimpArgs false
namespace Go.Proofs.YtaiapalhdejngaaX
open Go Go.RowKit Go.Proofs
set_option maxRecDepth 100000
attribute [local go_sem ↓] stepsK_build stepsK_bs appendS
attribute [local go_sem] String.reduceEq String.reduceNe reduceCtorEq Int.reduceEq Nat.reduceAdd Nat.reduceSub Nat.reduceMul Nat.reduceLT Nat.reduceLeDiff Nat.reduceEqDiff Nat.reduceBEq Int.reduceToNat Int.reduceLT Int.reduceLE Int.reduceGT Int.reduceGE Int.reduceAdd Int.reduceSub Int.reduceMul Int.reduceNeg Int.reduceBEq Int.reduceBNe Int.reducePow Int.reduceDiv Int.reduceMod Int.reduceTDiv Int.reduceTMod Int.reduceNatCast
/-! ### shadowboxref11.Begin -/
def F100 (n : Nat)  : Option ((List (Int)) × (Int)) := some ([(1732584193 : Int), (4023233417 : Int), (2562383102 : Int), (271733878 : Int)], (0 : Int))
set_option maxHeartbeats 4000000 in
theorem F100_ok : ∀ (n : Nat) (r : (List (Int)) × (Int)), F100 n = some r → FnC Try.prog 100 [] (.agg [.imm (.int .u32 (r.1.getD 0 default)), .imm (.int .u32 (r.1.getD 1 default)), .imm (.int .u32 (r.1.getD 2 default)), .imm (.int .u32 (r.1.getD 3 default)), .imm (.int .u64 r.2)])
 | n, r, h => by
  unfold F100 at h
  refine FnC.goX mixed Try.func100 (by kernel_rfl) rfl ?_
  simp only [Try.ntmps100, List.length_cons, List.length_nil, List.replicate, List.cons_append, List.nil_append, Nat.reduceAdd, Nat.reduceSub]
  refine runX_seq ?_
  refine runX_regionC fun C hC => ?_
  try simp -implicitDefEqProofs (maxSteps := 4000000) (disch := first | omega | decide | (simp only [go_sem]; omega)) only [go_sem, ↓reduceIte]
  repeat (with_reducible refine And.intro (by first | assumption | omega | (simp; done) | (simp; omega)) ?_)
  refine toEnd hC ?_
  refine endX_seq ?_
  refine runX_seq ?_
  refine runX_regionC fun C hC => ?_
  simp only [runK_region, runK_draw, liteL, liteL2, dstsL, gL, List.getD_cons_zero, List.getD_cons_succ]
  try simp -implicitDefEqProofs (maxSteps := 4000000) (disch := first | omega | decide | (simp only [go_sem]; omega)) only [go_sem, ↓reduceIte]
  repeat (with_reducible refine And.intro (by first | assumption | omega | (simp; done) | (simp; omega)) ?_)
  refine bldG_of [.imm (.int .u32 (1732584193 : Int)), .imm (.int .u32 (4023233417 : Int)), .imm (.int .u32 (2562383102 : Int)), .imm (.int .u32 (271733878 : Int))] (by kernel_rfl) ?_
  try simp -implicitDefEqProofs (maxSteps := 4000000) (disch := first | omega | decide | (simp only [go_sem]; omega)) only [go_sem, ↓reduceIte]
  repeat (with_reducible refine And.intro (by first | assumption | omega | (simp; done) | (simp; omega)) ?_)
  refine bldG_of [.imm (.int .u32 (1732584193 : Int)), .imm (.int .u32 (4023233417 : Int)), .imm (.int .u32 (2562383102 : Int)), .imm (.int .u32 (271733878 : Int)), .imm (.int .u64 (0 : Int))] (by kernel_rfl) ?_
  try simp -implicitDefEqProofs (maxSteps := 4000000) (disch := first | omega | decide | (simp only [go_sem]; omega)) only [go_sem, ↓reduceIte]
  repeat (with_reducible refine And.intro (by first | assumption | omega | (simp; done) | (simp; omega)) ?_)
  refine toEnd hC ?_
  refine endX_seq ?_
  refine runX_ret ?_
  refine endX_q ?_
  obtain rfl := Option.some.inj h
  show RetW _ _ _ _ _
  simp only [RetW]
  (try simp -implicitDefEqProofs (maxSteps := 4000000) (disch := first | omega | decide | (simp only [go_sem]; omega)) only [go_sem, ↓reduceIte])
  (try simp (disch := omega) only [if_pos, Nat.sub_zero])
  exact leT_refl _
end Go.Proofs.YtaiapalhdejngaaX

set_option linter.unusedVariables false
set_option linter.unusedSimpArgs false
namespace Go.Proofs.YtaiapalhdejngaaX
open Go Go.RowKit Go.Proofs
set_option maxRecDepth 100000
attribute [local go_sem ↓] stepsK_build stepsK_bs appendS
attribute [local go_sem] String.reduceEq String.reduceNe reduceCtorEq Int.reduceEq Nat.reduceAdd Nat.reduceSub Nat.reduceMul Nat.reduceLT Nat.reduceLeDiff Nat.reduceEqDiff Nat.reduceBEq Int.reduceToNat Int.reduceLT Int.reduceLE Int.reduceGT Int.reduceGE Int.reduceAdd Int.reduceSub Int.reduceMul Int.reduceNeg Int.reduceBEq Int.reduceBNe Int.reducePow Int.reduceDiv Int.reduceMod Int.reduceTDiv Int.reduceTMod Int.reduceNatCast
/-! ### shadowboxref11.sines -/
def F115 (n : Nat)  : Option (List (Int)) := some ((3614090360 : Int) :: (3905402710 : Int) :: (606105819 : Int) :: (3250441966 : Int) :: (4118548399 : Int) :: (1200080426 : Int) :: (2821735955 : Int) :: (4249261313 : Int) :: (1770035416 : Int) :: (2336552879 : Int) :: (4294925233 : Int) :: (2304563134 : Int) :: (1804603682 : Int) :: (4254626195 : Int) :: (2792965006 : Int) :: (1236535329 : Int) :: (4129170786 : Int) :: (3225465664 : Int) :: (643717713 : Int) :: (3921069994 : Int) :: (3593408605 : Int) :: (38016083 : Int) :: (3634488961 : Int) :: (3889429448 : Int) :: (568446438 : Int) :: (3275163606 : Int) :: (4107603335 : Int) :: (1163531501 : Int) :: (2850285829 : Int) :: (4243563512 : Int) :: (1735328473 : Int) :: (2368359562 : Int) :: (4294588738 : Int) :: (2272392833 : Int) :: (1839030562 : Int) :: (4259657740 : Int) :: (2763975236 : Int) :: (1272893353 : Int) :: (4139469664 : Int) :: (3200236656 : Int) :: (681279174 : Int) :: (3936430074 : Int) :: (3572445317 : Int) :: (76029189 : Int) :: (3654602809 : Int) :: (3873151461 : Int) :: (530742520 : Int) :: (3299628645 : Int) :: (4096336452 : Int) :: (1126891415 : Int) :: (2878612391 : Int) :: (4237533241 : Int) :: (1700485571 : Int) :: (2399980690 : Int) :: (4293915773 : Int) :: (2240044497 : Int) :: (1873313359 : Int) :: (4264355552 : Int) :: (2734768916 : Int) :: (1309151649 : Int) :: (4149444226 : Int) :: (3174756917 : Int) :: (718787259 : Int) :: (3951481745 : Int) :: ([] : List Int))
set_option maxHeartbeats 4000000 in
theorem F115_ok : ∀ (n : Nat) (r : List (Int)), F115 n = some r → FnC Try.prog 115 [] (.agg (List.map (eI .u32) r))
 | n, r, h => by
  unfold F115 at h
  refine FnC.goX mixed Try.func115 (by kernel_rfl) rfl ?_
  simp only [Try.ntmps115, List.length_cons, List.length_nil, List.replicate, List.cons_append, List.nil_append, Nat.reduceAdd, Nat.reduceSub]
  refine runX_seq ?_
  refine runX_regionC fun C hC => ?_
  try simp -implicitDefEqProofs (maxSteps := 4000000) (disch := first | omega | decide | (simp only [go_sem]; omega)) only [go_sem, ↓reduceIte]
  repeat (with_reducible refine And.intro (by first | assumption | omega | (simp; done) | (simp; omega)) ?_)
  refine toEnd hC ?_
  refine endX_seq ?_
  refine runX_seq ?_
  refine runX_regionC fun C hC => ?_
  simp only [runK_region, runK_draw, liteL, liteL2, dstsL, gL, List.getD_cons_zero, List.getD_cons_succ]
  try simp -implicitDefEqProofs (maxSteps := 4000000) (disch := first | omega | decide | (simp only [go_sem]; omega)) only [go_sem, ↓reduceIte]
  repeat (with_reducible refine And.intro (by first | assumption | omega | (simp; done) | (simp; omega)) ?_)
  refine bldG_of [.imm (.int .u32 (3614090360 : Int)), .imm (.int .u32 (3905402710 : Int)), .imm (.int .u32 (606105819 : Int)), .imm (.int .u32 (3250441966 : Int)), .imm (.int .u32 (4118548399 : Int)), .imm (.int .u32 (1200080426 : Int)), .imm (.int .u32 (2821735955 : Int)), .imm (.int .u32 (4249261313 : Int)), .imm (.int .u32 (1770035416 : Int)), .imm (.int .u32 (2336552879 : Int)), .imm (.int .u32 (4294925233 : Int)), .imm (.int .u32 (2304563134 : Int)), .imm (.int .u32 (1804603682 : Int)), .imm (.int .u32 (4254626195 : Int)), .imm (.int .u32 (2792965006 : Int)), .imm (.int .u32 (1236535329 : Int)), .imm (.int .u32 (4129170786 : Int)), .imm (.int .u32 (3225465664 : Int)), .imm (.int .u32 (643717713 : Int)), .imm (.int .u32 (3921069994 : Int)), .imm (.int .u32 (3593408605 : Int)), .imm (.int .u32 (38016083 : Int)), .imm (.int .u32 (3634488961 : Int)), .imm (.int .u32 (3889429448 : Int)), .imm (.int .u32 (568446438 : Int)), .imm (.int .u32 (3275163606 : Int)), .imm (.int .u32 (4107603335 : Int)), .imm (.int .u32 (1163531501 : Int)), .imm (.int .u32 (2850285829 : Int)), .imm (.int .u32 (4243563512 : Int)), .imm (.int .u32 (1735328473 : Int)), .imm (.int .u32 (2368359562 : Int)), .imm (.int .u32 (4294588738 : Int)), .imm (.int .u32 (2272392833 : Int)), .imm (.int .u32 (1839030562 : Int)), .imm (.int .u32 (4259657740 : Int)), .imm (.int .u32 (2763975236 : Int)), .imm (.int .u32 (1272893353 : Int)), .imm (.int .u32 (4139469664 : Int)), .imm (.int .u32 (3200236656 : Int)), .imm (.int .u32 (681279174 : Int)), .imm (.int .u32 (3936430074 : Int)), .imm (.int .u32 (3572445317 : Int)), .imm (.int .u32 (76029189 : Int)), .imm (.int .u32 (3654602809 : Int)), .imm (.int .u32 (3873151461 : Int)), .imm (.int .u32 (530742520 : Int)), .imm (.int .u32 (3299628645 : Int)), .imm (.int .u32 (4096336452 : Int)), .imm (.int .u32 (1126891415 : Int)), .imm (.int .u32 (2878612391 : Int)), .imm (.int .u32 (4237533241 : Int)), .imm (.int .u32 (1700485571 : Int)), .imm (.int .u32 (2399980690 : Int)), .imm (.int .u32 (4293915773 : Int)), .imm (.int .u32 (2240044497 : Int)), .imm (.int .u32 (1873313359 : Int)), .imm (.int .u32 (4264355552 : Int)), .imm (.int .u32 (2734768916 : Int)), .imm (.int .u32 (1309151649 : Int)), .imm (.int .u32 (4149444226 : Int)), .imm (.int .u32 (3174756917 : Int)), .imm (.int .u32 (718787259 : Int)), .imm (.int .u32 (3951481745 : Int))] (by kernel_rfl) ?_
  try simp -implicitDefEqProofs (maxSteps := 4000000) (disch := first | omega | decide | (simp only [go_sem]; omega)) only [go_sem, ↓reduceIte]
  repeat (with_reducible refine And.intro (by first | assumption | omega | (simp; done) | (simp; omega)) ?_)
  refine toEnd hC ?_
  refine endX_seq ?_
  refine runX_ret ?_
  refine endX_q ?_
  obtain rfl := Option.some.inj h
  show RetW _ _ _ _ _
  simp only [RetW]
  (try simp -implicitDefEqProofs (maxSteps := 4000000) (disch := first | omega | decide | (simp only [go_sem]; omega)) only [go_sem, ↓reduceIte])
  (try simp (disch := omega) only [if_pos, Nat.sub_zero])
  exact leT_refl _
end Go.Proofs.YtaiapalhdejngaaX

set_option linter.unusedVariables false
set_option linter.unusedSimpArgs false
namespace Go.Proofs.YtaiapalhdejngaaX
open Go Go.RowKit Go.Proofs
set_option maxRecDepth 100000
attribute [local go_sem ↓] stepsK_build stepsK_bs appendS
attribute [local go_sem] String.reduceEq String.reduceNe reduceCtorEq Int.reduceEq Nat.reduceAdd Nat.reduceSub Nat.reduceMul Nat.reduceLT Nat.reduceLeDiff Nat.reduceEqDiff Nat.reduceBEq Int.reduceToNat Int.reduceLT Int.reduceLE Int.reduceGT Int.reduceGE Int.reduceAdd Int.reduceSub Int.reduceMul Int.reduceNeg Int.reduceBEq Int.reduceBNe Int.reducePow Int.reduceDiv Int.reduceMod Int.reduceTDiv Int.reduceTMod Int.reduceNatCast
/-! ### shadowboxref11.not -/
def F116 (n : Nat) (a0 : Int) : Option (Int) := some (IntKind.wrap .u32 ((4294967295 : Int) - a0))
set_option maxHeartbeats 4000000 in
theorem F116_ok : ∀ (n : Nat) (a0 : Int) (r : Int), F116 n a0 = some r → FnC Try.prog 116 [.imm (.int .u32 a0)] (.imm (.int .u32 r))
 | n, a0, r, h => by
  unfold F116 at h
  refine FnC.goX mixed Try.func116 (by kernel_rfl) rfl ?_
  simp only [Try.ntmps116, List.length_cons, List.length_nil, List.replicate, List.cons_append, List.nil_append, Nat.reduceAdd, Nat.reduceSub]
  refine runX_seq ?_
  refine runX_regionC fun C hC => ?_
  try simp -implicitDefEqProofs (maxSteps := 4000000) (disch := first | omega | decide | (simp only [go_sem]; omega)) only [go_sem, ↓reduceIte]
  repeat (with_reducible refine And.intro (by first | assumption | omega | (simp; done) | (simp; omega)) ?_)
  refine toEnd hC ?_
  refine endX_seq ?_
  refine runX_seq ?_
  refine runX_regionC fun C hC => ?_
  try simp -implicitDefEqProofs (maxSteps := 4000000) (disch := first | omega | decide | (simp only [go_sem]; omega)) only [go_sem, ↓reduceIte]
  repeat (with_reducible refine And.intro (by first | assumption | omega | (simp; done) | (simp; omega)) ?_)
  refine toEnd hC ?_
  refine endX_seq ?_
  refine runX_ret ?_
  refine endX_q ?_
  obtain rfl := Option.some.inj h
  show RetW _ _ _ _ _
  simp only [RetW]
  (try simp -implicitDefEqProofs (maxSteps := 4000000) (disch := first | omega | decide | (simp only [go_sem]; omega)) only [go_sem, ↓reduceIte])
  (try simp (disch := omega) only [if_pos, Nat.sub_zero])
  exact leT_refl _
end Go.Proofs.YtaiapalhdejngaaX

set_option linter.unusedVariables false
set_option linter.unusedSimpArgs false
namespace Go.Proofs.YtaiapalhdejngaaX
open Go Go.RowKit Go.Proofs
set_option maxRecDepth 100000
attribute [local go_sem ↓] stepsK_build stepsK_bs appendS
attribute [local go_sem] String.reduceEq String.reduceNe reduceCtorEq Int.reduceEq Nat.reduceAdd Nat.reduceSub Nat.reduceMul Nat.reduceLT Nat.reduceLeDiff Nat.reduceEqDiff Nat.reduceBEq Int.reduceToNat Int.reduceLT Int.reduceLE Int.reduceGT Int.reduceGE Int.reduceAdd Int.reduceSub Int.reduceMul Int.reduceNeg Int.reduceBEq Int.reduceBNe Int.reducePow Int.reduceDiv Int.reduceMod Int.reduceTDiv Int.reduceTMod Int.reduceNatCast
/-! ### shadowboxref11.rol -/
def F117 (n : Nat) (a0 : Int) (a1 : Int) : Option (Int) := grd (0 ≤ a1) (grd (0 ≤ (IntKind.wrap .u64 ((32 : Int) - a1))) (some (IntKind.wrap .u32 (bOr .u32 (IntKind.wrap .u32 (bShl .u32 a0 a1.toNat)) (bShr .u32 a0 ((IntKind.wrap .u64 ((32 : Int) - a1)).toNat))))))
set_option maxHeartbeats 4000000 in
theorem F117_ok : ∀ (n : Nat) (a0 : Int) (a1 : Int) (r : Int), F117 n a0 a1 = some r → FnC Try.prog 117 [.imm (.int .u32 a0), .imm (.int .u64 a1)] (.imm (.int .u32 r))
 | n, a0, a1, r, h => by
  unfold F117 at h
  refine FnC.goX mixed Try.func117 (by kernel_rfl) rfl ?_
  simp only [Try.ntmps117, List.length_cons, List.length_nil, List.replicate, List.cons_append, List.nil_append, Nat.reduceAdd, Nat.reduceSub]
  refine runX_seq ?_
  refine runX_regionC fun C hC => ?_
  try simp -implicitDefEqProofs (maxSteps := 4000000) (disch := first | omega | decide | (simp only [go_sem]; omega)) only [go_sem, ↓reduceIte]
  repeat (with_reducible refine And.intro (by first | assumption | omega | (simp; done) | (simp; omega)) ?_)
  refine toEnd hC ?_
  refine endX_seq ?_
  refine runX_seq ?_
  refine runX_regionC fun C hC => ?_
  obtain ⟨g1, h⟩ := grd_some h
  obtain ⟨g2, h⟩ := grd_some h
  try simp -implicitDefEqProofs (maxSteps := 4000000) (disch := first | omega | decide | (simp only [go_sem]; omega)) only [go_sem, ↓reduceIte]
  repeat (with_reducible refine And.intro (by first | assumption | omega | (simp; done) | (simp; omega)) ?_)
  refine toEnd hC ?_
  refine endX_seq ?_
  refine runX_ret ?_
  refine endX_q ?_
  obtain rfl := Option.some.inj h
  show RetW _ _ _ _ _
  simp only [RetW]
  (try simp -implicitDefEqProofs (maxSteps := 4000000) (disch := first | omega | decide | (simp only [go_sem]; omega)) only [go_sem, ↓reduceIte])
  (try simp (disch := omega) only [if_pos, Nat.sub_zero])
  exact leT_refl _
end Go.Proofs.YtaiapalhdejngaaX

set_option linter.unusedVariables false
set_option linter.unusedSimpArgs false
namespace Go.Proofs.YtaiapalhdejngaaX
open Go Go.RowKit Go.Proofs
set_option maxRecDepth 100000
attribute [local go_sem ↓] stepsK_build stepsK_bs appendS
attribute [local go_sem] String.reduceEq String.reduceNe reduceCtorEq Int.reduceEq Nat.reduceAdd Nat.reduceSub Nat.reduceMul Nat.reduceLT Nat.reduceLeDiff Nat.reduceEqDiff Nat.reduceBEq Int.reduceToNat Int.reduceLT Int.reduceLE Int.reduceGT Int.reduceGE Int.reduceAdd Int.reduceSub Int.reduceMul Int.reduceNeg Int.reduceBEq Int.reduceBNe Int.reducePow Int.reduceDiv Int.reduceMod Int.reduceTDiv Int.reduceTMod Int.reduceNatCast
/-! ### shadowboxref11.Block -/
def F101_S2 (a1 : List (Int)) (x4 : Int) (a0 : (List (Int)) × (Int)) (v1 : List (Int)) (x5 : Int) (x6 : Int) (x7 : Int) (x8 : Int) (x16 : Int) (x17 : Int) : St := ⟨[.junk, .sl 1 false (List.map byteT a1), .ref 0 0 0 0, .junk, .ref 1 0 0 0, .ref 2 0 0 0, .sl 1 true (List.map (eI .u64) [(7 : Int), (12 : Int), (17 : Int), (22 : Int), (5 : Int), (9 : Int), (14 : Int), (20 : Int), (4 : Int), (11 : Int), (16 : Int), (23 : Int), (6 : Int), (10 : Int), (15 : Int), (21 : Int)]), .ref 3 0 0 0, .imm (.int .i64 x4), .imm (.int .u32 x16), .imm (.int .i64 x17), .junk, .junk, .junk, .junk, .junk, .junk, .junk, .junk, .junk, .junk, .junk, .junk, .junk, .junk, .junk, .junk, .junk, .junk, .junk, .junk, .junk, .junk, .junk, .junk, .junk, .junk, .junk, .junk, .junk, .junk, .junk, .junk, .junk, .junk, .junk, .junk, .junk, .junk, .junk, .junk, .junk, .junk, .junk, .junk, .junk, .junk, .junk, .junk, .junk, .junk, .junk, .junk, .junk, .junk, .junk, .junk, .junk, .junk, .junk, .junk, .junk, .junk, .junk, .junk, .junk, .junk, .junk, .junk, .junk, .junk, .junk, .junk, .junk, .junk, .junk, .junk, .junk, .junk, .junk, .junk, .junk, .junk, .junk, .junk, .junk, .junk, .junk, .junk, .junk, .junk, .junk, .junk, .junk, .junk, .junk, .junk, .junk, .junk, .junk, .junk, .junk, .junk, .junk, .junk, .junk, .junk, .junk, .junk, .junk, .junk, .junk, .junk, .junk, .junk, .junk, .junk, .junk, .junk, .junk, .junk, .junk, .junk, .junk, .junk, .junk, .junk, .junk, .junk, .junk, .junk, .junk, .junk, .junk, .junk, .junk, .junk, .junk, .junk, .junk, .junk, .junk, .junk, .junk, .junk, .junk, .junk, .junk, .junk, .junk, .junk, .junk, .junk, .junk], [some (.box 132 (.agg [.imm (.int .u32 (a0.1.getD 0 default)), .imm (.int .u32 (a0.1.getD 1 default)), .imm (.int .u32 (a0.1.getD 2 default)), .imm (.int .u32 (a0.1.getD 3 default)), .imm (.int .u64 a0.2)]) false), some (.box 132 (.agg [.imm (.int .u32 (0 : Int)), .imm (.int .u32 (0 : Int)), .imm (.int .u32 (0 : Int)), .imm (.int .u32 (0 : Int)), .imm (.int .u64 (0 : Int))]) false), some (.box 139 (.agg (List.map (eI .u32) v1)) false), some (.box 110 (.agg [.imm (.int .u32 x5), .imm (.int .u32 x6), .imm (.int .u32 x7), .imm (.int .u32 x8)]) false)]⟩
def F101_S1 (a1 : List (Int)) (a0 : (List (Int)) × (Int)) (v1 : List (Int)) (x4 : Int) (x5 : Int) (x6 : Int) (x7 : Int) (x8 : Int) : St := ⟨[.junk, .sl 1 false (List.map byteT a1), .ref 0 0 0 0, .junk, .ref 1 0 0 0, .ref 2 0 0 0, .sl 1 true (List.map (eI .u64) [(7 : Int), (12 : Int), (17 : Int), (22 : Int), (5 : Int), (9 : Int), (14 : Int), (20 : Int), (4 : Int), (11 : Int), (16 : Int), (23 : Int), (6 : Int), (10 : Int), (15 : Int), (21 : Int)]), .ref 3 0 0 0, .imm (.int .i64 x4), .junk, .junk, .junk, .junk, .junk, .junk, .junk, .junk, .junk, .junk, .junk, .junk, .junk, .junk, .junk, .junk, .junk, .junk, .junk, .junk, .junk, .junk, .junk, .junk, .junk, .junk, .junk, .junk, .junk, .junk, .junk, .junk, .junk, .junk, .junk, .junk, .junk, .junk, .junk, .junk, .junk, .junk, .junk, .junk, .junk, .junk, .junk, .junk, .junk, .junk, .junk, .junk, .junk, .junk, .junk, .junk, .junk, .junk, .junk, .junk, .junk, .junk, .junk, .junk, .junk, .junk, .junk, .junk, .junk, .junk, .junk, .junk, .junk, .junk, .junk, .junk, .junk, .junk, .junk, .junk, .junk, .junk, .junk, .junk, .junk, .junk, .junk, .junk, .junk, .junk, .junk, .junk, .junk, .junk, .junk, .junk, .junk, .junk, .junk, .junk, .junk, .junk, .junk, .junk, .junk, .junk, .junk, .junk, .junk, .junk, .junk, .junk, .junk, .junk, .junk, .junk, .junk, .junk, .junk, .junk, .junk, .junk, .junk, .junk, .junk, .junk, .junk, .junk, .junk, .junk, .junk, .junk, .junk, .junk, .junk, .junk, .junk, .junk, .junk, .junk, .junk, .junk, .junk, .junk, .junk, .junk, .junk, .junk, .junk, .junk, .junk, .junk, .junk, .junk, .junk], [some (.box 132 (.agg [.imm (.int .u32 (a0.1.getD 0 default)), .imm (.int .u32 (a0.1.getD 1 default)), .imm (.int .u32 (a0.1.getD 2 default)), .imm (.int .u32 (a0.1.getD 3 default)), .imm (.int .u64 a0.2)]) false), some (.box 132 (.agg [.imm (.int .u32 (0 : Int)), .imm (.int .u32 (0 : Int)), .imm (.int .u32 (0 : Int)), .imm (.int .u32 (0 : Int)), .imm (.int .u64 (0 : Int))]) false), some (.box 139 (.agg (List.map (eI .u32) v1)) false), some (.box 110 (.agg [.imm (.int .u32 x5), .imm (.int .u32 x6), .imm (.int .u32 x7), .imm (.int .u32 x8)]) false)]⟩
mutual
def F101_J2 (m1 : Nat) (a1 : List (Int)) (x4 : Int) (a0 : (List (Int)) × (Int)) (v1 : List (Int)) (x5 : Int) (x6 : Int) (x7 : Int) (x8 : Int) (x16 : Int) (x17 : Int) : Option ((List (Int)) × (Int)) := grd (0 ≤ (IntKind.wrap .i64 ((4 : Int) * (x17.tmod (16 : Int)))) ∧ (IntKind.wrap .i64 ((4 : Int) * (x17.tmod (16 : Int)))) < (a1.length : Int)) (grd (0 ≤ (IntKind.wrap .i64 ((IntKind.wrap .i64 ((4 : Int) * (x17.tmod (16 : Int)))) + (1 : Int))) ∧ (IntKind.wrap .i64 ((IntKind.wrap .i64 ((4 : Int) * (x17.tmod (16 : Int)))) + (1 : Int))) < (a1.length : Int)) (grd (0 ≤ (IntKind.wrap .i64 ((IntKind.wrap .i64 ((4 : Int) * (x17.tmod (16 : Int)))) + (2 : Int))) ∧ (IntKind.wrap .i64 ((IntKind.wrap .i64 ((4 : Int) * (x17.tmod (16 : Int)))) + (2 : Int))) < (a1.length : Int)) (grd (0 ≤ (IntKind.wrap .i64 ((IntKind.wrap .i64 ((4 : Int) * (x17.tmod (16 : Int)))) + (3 : Int))) ∧ (IntKind.wrap .i64 ((IntKind.wrap .i64 ((4 : Int) * (x17.tmod (16 : Int)))) + (3 : Int))) < (a1.length : Int)) (grd (0 ≤ x4 ∧ x4 < (64 : Int)) (grd (x4.toNat < v1.length) (grd (0 ≤ (IntKind.wrap .i64 ((IntKind.wrap .i64 ((IntKind.wrap .i64 (x4.tdiv (16 : Int))) * (4 : Int))) + (x4.tmod (4 : Int)))) ∧ (IntKind.wrap .i64 ((IntKind.wrap .i64 ((IntKind.wrap .i64 (x4.tdiv (16 : Int))) * (4 : Int))) + (x4.tmod (4 : Int)))) < (16 : Int)) ((F117 m1 (IntKind.wrap .u32 ((IntKind.wrap .u32 ((IntKind.wrap .u32 (x5 + x16)) + (IntKind.wrap .u32 ((IntKind.wrap .u32 ((IntKind.wrap .u32 ((IntKind.wrap .u32 ((a1.getD (IntKind.wrap .i64 ((4 : Int) * (x17.tmod (16 : Int)))).toNat default))) + (IntKind.wrap .u32 (bShl .u32 (IntKind.wrap .u32 ((a1.getD (IntKind.wrap .i64 ((IntKind.wrap .i64 ((4 : Int) * (x17.tmod (16 : Int)))) + (1 : Int))).toNat default))) 8)))) + (IntKind.wrap .u32 (bShl .u32 (IntKind.wrap .u32 ((a1.getD (IntKind.wrap .i64 ((IntKind.wrap .i64 ((4 : Int) * (x17.tmod (16 : Int)))) + (2 : Int))).toNat default))) 16)))) + (IntKind.wrap .u32 (bShl .u32 (IntKind.wrap .u32 ((a1.getD (IntKind.wrap .i64 ((IntKind.wrap .i64 ((4 : Int) * (x17.tmod (16 : Int)))) + (3 : Int))).toNat default))) 24)))))) + (v1.getD x4.toNat default))) ([(7 : Int), (12 : Int), (17 : Int), (22 : Int), (5 : Int), (9 : Int), (14 : Int), (20 : Int), (4 : Int), (11 : Int), (16 : Int), (23 : Int), (6 : Int), (10 : Int), (15 : Int), (21 : Int)].getD (IntKind.wrap .i64 ((IntKind.wrap .i64 ((IntKind.wrap .i64 (x4.tdiv (16 : Int))) * (4 : Int))) + (x4.tmod (4 : Int)))).toNat default)).bind fun v26 => F101_L1 m1 a1 a0 v1 (IntKind.wrap .i64 (x4 + (1 : Int))) x8 (IntKind.wrap .u32 (x6 + v26)) x6 x7)))))))
def F101_L1 : Nat → (List (Int)) → ((List (Int)) × (Int)) → (List (Int)) → (Int) → (Int) → (Int) → (Int) → (Int) → Option ((List (Int)) × (Int))
 | 0, _, _, _, _, _, _, _, _ => none
 | m1 + 1, a1, a0, v1, x4, x5, x6, x7, x8 => iteB (decide (x4 < (64 : Int))) (iteB ((IntKind.wrap .i64 (x4.tdiv (16 : Int))) == (0 : Int)) ((F116 m1 x6).bind fun v11 => F101_J2 m1 a1 x4 a0 v1 x5 x6 x7 x8 (IntKind.wrap .u32 (bOr .u32 (IntKind.wrap .u32 (bAnd .u32 x6 x7)) (IntKind.wrap .u32 (bAnd .u32 v11 x8)))) x4) (iteB ((IntKind.wrap .i64 (x4.tdiv (16 : Int))) == (1 : Int)) ((F116 m1 x8).bind fun v13 => F101_J2 m1 a1 x4 a0 v1 x5 x6 x7 x8 (IntKind.wrap .u32 (bOr .u32 (IntKind.wrap .u32 (bAnd .u32 x8 x6)) (IntKind.wrap .u32 (bAnd .u32 v13 x7)))) (IntKind.wrap .i64 ((IntKind.wrap .i64 ((5 : Int) * x4)) + (1 : Int)))) (iteB ((IntKind.wrap .i64 (x4.tdiv (16 : Int))) == (2 : Int)) (F101_J2 m1 a1 x4 a0 v1 x5 x6 x7 x8 (IntKind.wrap .u32 (bXor .u32 (IntKind.wrap .u32 (bXor .u32 x6 x7)) x8)) (IntKind.wrap .i64 ((IntKind.wrap .i64 ((3 : Int) * x4)) + (5 : Int)))) ((F116 m1 x8).bind fun v15 => F101_J2 m1 a1 x4 a0 v1 x5 x6 x7 x8 (IntKind.wrap .u32 (bXor .u32 x7 (IntKind.wrap .u32 (bOr .u32 x6 v15)))) (IntKind.wrap .i64 ((7 : Int) * x4)))))) (some ([(IntKind.wrap .u32 ((a0.1.getD 0 default) + x5)), (IntKind.wrap .u32 ((a0.1.getD 1 default) + x6)), (IntKind.wrap .u32 ((a0.1.getD 2 default) + x7)), (IntKind.wrap .u32 ((a0.1.getD 3 default) + x8))], (IntKind.wrap .u64 (a0.2 + (64 : Int)))))
end
def F101 (n : Nat) (a0 : (List (Int)) × (Int)) (a1 : List (Int)) : Option ((List (Int)) × (Int)) := (F115 n ).bind fun v1 => grd (v1.length = 64) (F101_L1 n a1 a0 v1 (0 : Int) (a0.1.getD 0 default) (a0.1.getD 1 default) (a0.1.getD 2 default) (a0.1.getD 3 default))
set_option maxHeartbeats 4000000 in
theorem F101_ok : ∀ (n : Nat) (a0 : (List (Int)) × (Int)) (a1 : List (Int)) (r : (List (Int)) × (Int)), F101 n a0 a1 = some r → FnC Try.prog 101 [.agg [.imm (.int .u32 (a0.1.getD 0 default)), .imm (.int .u32 (a0.1.getD 1 default)), .imm (.int .u32 (a0.1.getD 2 default)), .imm (.int .u32 (a0.1.getD 3 default)), .imm (.int .u64 a0.2)], .sl 1 false (List.map byteT a1)] (.agg [.imm (.int .u32 (r.1.getD 0 default)), .imm (.int .u32 (r.1.getD 1 default)), .imm (.int .u32 (r.1.getD 2 default)), .imm (.int .u32 (r.1.getD 3 default)), .imm (.int .u64 r.2)])
 | n, a0, a1, r, h => by
  unfold F101 at h
  refine FnC.goX mixed Try.func101 (by kernel_rfl) rfl ?_
  simp only [Try.ntmps101, List.length_cons, List.length_nil, List.replicate, List.cons_append, List.nil_append, Nat.reduceAdd, Nat.reduceSub]
  refine runX_seq ?_
  refine runX_regionC fun C hC => ?_
  try simp -implicitDefEqProofs (disch := omega) only [go_sem, ↓reduceIte]
  refine toEnd hC ?_
  refine endX_seq ?_
  refine runX_seq ?_
  refine runX_regionC fun C hC => ?_
  simp only [runK_region, runK_draw, liteL, liteL2, dstsL, gL, List.getD_cons_zero, List.getD_cons_succ]
  obtain ⟨v1, h1, h⟩ := bnd_some h
  try simp -implicitDefEqProofs (maxSteps := 4000000) (disch := first | omega | decide | (simp only [go_sem]; omega)) only [go_sem, ↓reduceIte]
  repeat (with_reducible refine And.intro (by first | assumption | omega | (simp; done) | (simp; omega)) ?_)
  refine callG_X (by first | rfl | (simp only [go_sem]; done) | (simp only [closedL, closedT, Bool.and_true]; exact closedL_map _ (fun _ => by first | rfl | (simp only [go_sem]; done)) _)) (F115_ok n  _ h1) (by repeat (first | exact leL_refl _ | refine leL_cons (by first | exact leT_refl _ | exact leT_virt | exact leT_junk _ | exact leT_sl | exact leT_sln | exact leT_nil | (refine leT_agg (by repeat (first | exact leL_refl _ | refine leL_cons (by first | exact leT_refl _ | exact leT_sl | exact leT_sln | exact leT_nil) ?_)))) ?_)) ?_
  obtain ⟨g2, h⟩ := grd_some h
  have e3 : List.drop v1.length ((.imm (.int .u32 (0 : Int)) :: .imm (.int .u32 (0 : Int)) :: .imm (.int .u32 (0 : Int)) :: .imm (.int .u32 (0 : Int)) :: .imm (.int .u32 (0 : Int)) :: .imm (.int .u32 (0 : Int)) :: .imm (.int .u32 (0 : Int)) :: .imm (.int .u32 (0 : Int)) :: .imm (.int .u32 (0 : Int)) :: .imm (.int .u32 (0 : Int)) :: .imm (.int .u32 (0 : Int)) :: .imm (.int .u32 (0 : Int)) :: .imm (.int .u32 (0 : Int)) :: .imm (.int .u32 (0 : Int)) :: .imm (.int .u32 (0 : Int)) :: .imm (.int .u32 (0 : Int)) :: .imm (.int .u32 (0 : Int)) :: .imm (.int .u32 (0 : Int)) :: .imm (.int .u32 (0 : Int)) :: .imm (.int .u32 (0 : Int)) :: .imm (.int .u32 (0 : Int)) :: .imm (.int .u32 (0 : Int)) :: .imm (.int .u32 (0 : Int)) :: .imm (.int .u32 (0 : Int)) :: .imm (.int .u32 (0 : Int)) :: .imm (.int .u32 (0 : Int)) :: .imm (.int .u32 (0 : Int)) :: .imm (.int .u32 (0 : Int)) :: .imm (.int .u32 (0 : Int)) :: .imm (.int .u32 (0 : Int)) :: .imm (.int .u32 (0 : Int)) :: .imm (.int .u32 (0 : Int)) :: .imm (.int .u32 (0 : Int)) :: .imm (.int .u32 (0 : Int)) :: .imm (.int .u32 (0 : Int)) :: .imm (.int .u32 (0 : Int)) :: .imm (.int .u32 (0 : Int)) :: .imm (.int .u32 (0 : Int)) :: .imm (.int .u32 (0 : Int)) :: .imm (.int .u32 (0 : Int)) :: .imm (.int .u32 (0 : Int)) :: .imm (.int .u32 (0 : Int)) :: .imm (.int .u32 (0 : Int)) :: .imm (.int .u32 (0 : Int)) :: .imm (.int .u32 (0 : Int)) :: .imm (.int .u32 (0 : Int)) :: .imm (.int .u32 (0 : Int)) :: .imm (.int .u32 (0 : Int)) :: .imm (.int .u32 (0 : Int)) :: .imm (.int .u32 (0 : Int)) :: .imm (.int .u32 (0 : Int)) :: .imm (.int .u32 (0 : Int)) :: .imm (.int .u32 (0 : Int)) :: .imm (.int .u32 (0 : Int)) :: .imm (.int .u32 (0 : Int)) :: .imm (.int .u32 (0 : Int)) :: .imm (.int .u32 (0 : Int)) :: .imm (.int .u32 (0 : Int)) :: .imm (.int .u32 (0 : Int)) :: .imm (.int .u32 (0 : Int)) :: .imm (.int .u32 (0 : Int)) :: .imm (.int .u32 (0 : Int)) :: .imm (.int .u32 (0 : Int)) :: .imm (.int .u32 (0 : Int)) :: ([] : List T)) : List T) = [] := drop_all (by first | (simp only [List.length_cons, List.length_nil]; omega) | (simp; omega))
  try simp -implicitDefEqProofs (maxSteps := 4000000) (disch := first | omega | decide | (simp only [go_sem]; omega)) only [go_sem, ↓reduceIte, e3]
  repeat (with_reducible refine And.intro (by first | assumption | omega | (simp; done) | (simp; omega)) ?_)
  refine toEnd hC ?_
  refine endX_seq ?_
  refine runX_seq ?_
  refine runX_regionC fun C hC => ?_
  simp only [runK_region, runK_draw, liteL, liteL2, dstsL, gL, List.getD_cons_zero, List.getD_cons_succ]
  try simp -implicitDefEqProofs (disch := omega) only [go_sem, ↓reduceIte]
  refine bs_go <| buildX_val ?_
  try simp -implicitDefEqProofs (disch := omega) only [go_sem, ↓reduceIte]
  refine toEnd hC ?_
  refine endX_seq ?_
  refine runX_seq ?_
  refine runX_regionC fun C hC => ?_
  try simp -implicitDefEqProofs (disch := omega) only [go_sem, ↓reduceIte]
  refine toEnd hC ?_
  refine endX_seq ?_
  refine runX_seq ?_
  refine runX_seq ?_
  refine runX_regionC fun C hC => ?_
  try simp -implicitDefEqProofs (disch := omega) only [go_sem, ↓reduceIte]
  refine toEnd hC ?_
  refine endX_seq ?_
  refine runX_block ?_
  refine runX_loop [1, 2, 4, 5, 6, 7, 8] (fun m S => ∃ (x4 : Int) (x5 : Int) (x6 : Int) (x7 : Int) (x8 : Int), S = F101_S1 a1 a0 v1 x4 x5 x6 x7 x8 ∧ m ≤ n ∧ F101_L1 m a1 a0 v1 x4 x5 x6 x7 x8 = some r) n ⟨F101_S1 a1 a0 v1 (0 : Int) (a0.1.getD 0 default) (a0.1.getD 1 default) (a0.1.getD 2 default) (a0.1.getD 3 default), ?_, (0 : Int), (a0.1.getD 0 default), (a0.1.getD 1 default), (a0.1.getD 2 default), (a0.1.getD 3 default), rfl, Nat.le_refl _, h⟩ ?_
  ·simp only [F101_S1]
   (try simp -implicitDefEqProofs (disch := omega) only [go_sem, ↓reduceIte])
   exact leS_refl _
  ·clear h
   rintro m1 S ⟨x4, x5, x6, x7, x8, rfl, hm1, h⟩
   cases m1 with
   | zero => first | cases (show (none : Option _) = some _ from h) | (rw [F101_L1] at h; cases h)
   | succ m1 =>
    rw [F101_L1] at h
    simp only [F101_S1]
    refine runX_seq ?_
    refine runX_seq ?_
    refine runX_regionC fun C hC => ?_
    try simp -implicitDefEqProofs (maxSteps := 4000000) (disch := first | omega | decide | (simp only [go_sem]; omega)) only [go_sem, ↓reduceIte]
    repeat (with_reducible refine And.intro (by first | assumption | omega | (simp; done) | (simp; omega)) ?_)
    refine toEnd hC ?_
    refine endX_seq ?_
    rcases iteB_some h with ⟨c9, h⟩ | ⟨c9, h⟩
    ·refine runX_condT rfl c9 ?_
     refine runX_skip ?_
     refine endX_seq ?_
     refine runX_seq ?_
     refine runX_block ?_
     refine runX_seq ?_
     refine runX_regionC fun C hC => ?_
     try simp -implicitDefEqProofs (maxSteps := 4000000) (disch := first | omega | decide | (simp only [go_sem]; omega)) only [go_sem, ↓reduceIte]
     repeat (with_reducible refine And.intro (by first | assumption | omega | (simp; done) | (simp; omega)) ?_)
     refine toEnd hC ?_
     refine endX_seq ?_
     refine runX_seq ?_
     refine runX_regionC fun C hC => ?_
     try simp -implicitDefEqProofs (disch := omega) only [go_sem, ↓reduceIte]
     refine toEnd hC ?_
     refine endX_seq ?_
     refine runX_meet [1, 2, 4, 5, 6, 7, 8, 9, 10] (fun S => ∃ (x16 : Int) (x17 : Int), S = F101_S2 a1 x4 a0 v1 x5 x6 x7 x8 x16 x17 ∧ F101_J2 m1 a1 x4 a0 v1 x5 x6 x7 x8 x16 x17 = some r) ?_ ?_
     ·refine runX_seq ?_
      refine runX_regionC fun C hC => ?_
      try simp -implicitDefEqProofs (maxSteps := 4000000) (disch := first | omega | decide | (simp only [go_sem]; omega)) only [go_sem, ↓reduceIte]
      repeat (with_reducible refine And.intro (by first | assumption | omega | (simp; done) | (simp; omega)) ?_)
      refine toEnd hC ?_
      refine endX_seq ?_
      refine runX_block ?_
      refine runX_seq ?_
      refine runX_regionC fun C hC => ?_
      try simp -implicitDefEqProofs (disch := omega) only [go_sem, ↓reduceIte]
      refine toEnd hC ?_
      refine endX_seq ?_
      rcases iteB_some h with ⟨c10, h⟩ | ⟨c10, h⟩
      ·refine runX_condT rfl c10 ?_
       refine runX_seq ?_
       refine runX_drawC mixed (by kernel_rfl) fun C hC => ?_
       obtain ⟨v11, h11, h⟩ := bnd_some h
       try simp -implicitDefEqProofs (maxSteps := 4000000) (disch := first | omega | decide | (simp only [go_sem]; omega)) only [go_sem, ↓reduceIte]
       repeat (with_reducible refine And.intro (by first | assumption | omega | (simp; done) | (simp; omega)) ?_)
       refine callD_X (F116_ok m1 x6 _ h11) (by repeat (first | exact leL_refl _ | refine leL_cons (by first | exact leT_refl _ | exact leT_virt | exact leT_junk _ | exact leT_sl | exact leT_sln | exact leT_nil | (refine leT_agg (by repeat (first | exact leL_refl _ | refine leL_cons (by first | exact leT_refl _ | exact leT_sl | exact leT_sln | exact leT_nil) ?_)))) ?_)) ?_
       try simp -implicitDefEqProofs (maxSteps := 4000000) (disch := first | omega | decide | (simp only [go_sem]; omega)) only [go_sem, ↓reduceIte]
       repeat (with_reducible refine And.intro (by first | assumption | omega | (simp; done) | (simp; omega)) ?_)
       refine toEnd hC ?_
       refine endX_seq ?_
       refine runX_regionC fun C hC => ?_
       try simp -implicitDefEqProofs (disch := omega) only [go_sem, ↓reduceIte]
       refine toEnd hC ?_
       refine endX_blk ?_
       refine endX_q (meetQ_normal ⟨F101_S2 a1 x4 a0 v1 x5 x6 x7 x8 (IntKind.wrap .u32 (bOr .u32 (IntKind.wrap .u32 (bAnd .u32 x6 x7)) (IntKind.wrap .u32 (bAnd .u32 v11 x8)))) x4, ?_, (IntKind.wrap .u32 (bOr .u32 (IntKind.wrap .u32 (bAnd .u32 x6 x7)) (IntKind.wrap .u32 (bAnd .u32 v11 x8)))), x4, rfl, h⟩)
       simp only [F101_S2]
       (try simp -implicitDefEqProofs (maxSteps := 4000000) (disch := first | omega | decide | (simp only [go_sem]; omega)) only [go_sem, ↓reduceIte])
       exact leS_le (leL_refl _) (leOs_refl _)
      ·refine runX_condF rfl c10 ?_
       refine runX_seq ?_
       refine runX_regionC fun C hC => ?_
       try simp -implicitDefEqProofs (maxSteps := 4000000) (disch := first | omega | decide | (simp only [go_sem]; omega)) only [go_sem, ↓reduceIte]
       repeat (with_reducible refine And.intro (by first | assumption | omega | (simp; done) | (simp; omega)) ?_)
       refine toEnd hC ?_
       refine endX_seq ?_
       rcases iteB_some h with ⟨c12, h⟩ | ⟨c12, h⟩
       ·refine runX_condT rfl c12 ?_
        refine runX_seq ?_
        refine runX_drawC mixed (by kernel_rfl) fun C hC => ?_
        obtain ⟨v13, h13, h⟩ := bnd_some h
        try simp -implicitDefEqProofs (maxSteps := 4000000) (disch := first | omega | decide | (simp only [go_sem]; omega)) only [go_sem, ↓reduceIte]
        repeat (with_reducible refine And.intro (by first | assumption | omega | (simp; done) | (simp; omega)) ?_)
        refine callD_X (F116_ok m1 x8 _ h13) (by repeat (first | exact leL_refl _ | refine leL_cons (by first | exact leT_refl _ | exact leT_virt | exact leT_junk _ | exact leT_sl | exact leT_sln | exact leT_nil | (refine leT_agg (by repeat (first | exact leL_refl _ | refine leL_cons (by first | exact leT_refl _ | exact leT_sl | exact leT_sln | exact leT_nil) ?_)))) ?_)) ?_
        try simp -implicitDefEqProofs (maxSteps := 4000000) (disch := first | omega | decide | (simp only [go_sem]; omega)) only [go_sem, ↓reduceIte]
        repeat (with_reducible refine And.intro (by first | assumption | omega | (simp; done) | (simp; omega)) ?_)
        refine toEnd hC ?_
        refine endX_seq ?_
        refine runX_regionC fun C hC => ?_
        try simp -implicitDefEqProofs (disch := omega) only [go_sem, ↓reduceIte]
        refine toEnd hC ?_
        refine endX_blk ?_
        refine endX_q (meetQ_normal ⟨F101_S2 a1 x4 a0 v1 x5 x6 x7 x8 (IntKind.wrap .u32 (bOr .u32 (IntKind.wrap .u32 (bAnd .u32 x8 x6)) (IntKind.wrap .u32 (bAnd .u32 v13 x7)))) (IntKind.wrap .i64 ((IntKind.wrap .i64 ((5 : Int) * x4)) + (1 : Int))), ?_, (IntKind.wrap .u32 (bOr .u32 (IntKind.wrap .u32 (bAnd .u32 x8 x6)) (IntKind.wrap .u32 (bAnd .u32 v13 x7)))), (IntKind.wrap .i64 ((IntKind.wrap .i64 ((5 : Int) * x4)) + (1 : Int))), rfl, h⟩)
        simp only [F101_S2]
        (try simp -implicitDefEqProofs (disch := omega) only [go_sem, ↓reduceIte])
        exact leS_refl _
       ·refine runX_condF rfl c12 ?_
        refine runX_seq ?_
        refine runX_regionC fun C hC => ?_
        try simp -implicitDefEqProofs (disch := omega) only [go_sem, ↓reduceIte]
        refine toEnd hC ?_
        refine endX_seq ?_
        rcases iteB_some h with ⟨c14, h⟩ | ⟨c14, h⟩
        ·refine runX_condT rfl c14 ?_
         refine runX_seq ?_
         refine runX_regionC fun C hC => ?_
         try simp -implicitDefEqProofs (disch := omega) only [go_sem, ↓reduceIte]
         refine toEnd hC ?_
         refine endX_seq ?_
         refine runX_regionC fun C hC => ?_
         try simp -implicitDefEqProofs (disch := omega) only [go_sem, ↓reduceIte]
         refine toEnd hC ?_
         refine endX_blk ?_
         refine endX_q (meetQ_normal ⟨F101_S2 a1 x4 a0 v1 x5 x6 x7 x8 (IntKind.wrap .u32 (bXor .u32 (IntKind.wrap .u32 (bXor .u32 x6 x7)) x8)) (IntKind.wrap .i64 ((IntKind.wrap .i64 ((3 : Int) * x4)) + (5 : Int))), ?_, (IntKind.wrap .u32 (bXor .u32 (IntKind.wrap .u32 (bXor .u32 x6 x7)) x8)), (IntKind.wrap .i64 ((IntKind.wrap .i64 ((3 : Int) * x4)) + (5 : Int))), rfl, h⟩)
         simp only [F101_S2]
         (try simp -implicitDefEqProofs (maxSteps := 4000000) (disch := first | omega | decide | (simp only [go_sem]; omega)) only [go_sem, ↓reduceIte])
         exact leS_le (leL_refl _) (leOs_refl _)
        ·refine runX_condF rfl c14 ?_
         refine runX_seq ?_
         refine runX_drawC mixed (by kernel_rfl) fun C hC => ?_
         obtain ⟨v15, h15, h⟩ := bnd_some h
         try simp -implicitDefEqProofs (maxSteps := 4000000) (disch := first | omega | decide | (simp only [go_sem]; omega)) only [go_sem, ↓reduceIte]
         repeat (with_reducible refine And.intro (by first | assumption | omega | (simp; done) | (simp; omega)) ?_)
         refine callD_X (F116_ok m1 x8 _ h15) (by repeat (first | exact leL_refl _ | refine leL_cons (by first | exact leT_refl _ | exact leT_virt | exact leT_junk _ | exact leT_sl | exact leT_sln | exact leT_nil | (refine leT_agg (by repeat (first | exact leL_refl _ | refine leL_cons (by first | exact leT_refl _ | exact leT_sl | exact leT_sln | exact leT_nil) ?_)))) ?_)) ?_
         try simp -implicitDefEqProofs (maxSteps := 4000000) (disch := first | omega | decide | (simp only [go_sem]; omega)) only [go_sem, ↓reduceIte]
         repeat (with_reducible refine And.intro (by first | assumption | omega | (simp; done) | (simp; omega)) ?_)
         refine toEnd hC ?_
         refine endX_seq ?_
         refine runX_regionC fun C hC => ?_
         try simp -implicitDefEqProofs (disch := omega) only [go_sem, ↓reduceIte]
         refine toEnd hC ?_
         refine endX_blk ?_
         refine endX_q (meetQ_normal ⟨F101_S2 a1 x4 a0 v1 x5 x6 x7 x8 (IntKind.wrap .u32 (bXor .u32 x7 (IntKind.wrap .u32 (bOr .u32 x6 v15)))) (IntKind.wrap .i64 ((7 : Int) * x4)), ?_, (IntKind.wrap .u32 (bXor .u32 x7 (IntKind.wrap .u32 (bOr .u32 x6 v15)))), (IntKind.wrap .i64 ((7 : Int) * x4)), rfl, h⟩)
         simp only [F101_S2]
         (try simp -implicitDefEqProofs (disch := omega) only [go_sem, ↓reduceIte])
         exact leS_refl _
     ·clear h
      rintro S ⟨x16, x17, rfl, h⟩
      rw [F101_J2] at h
      simp only [F101_S2]
      refine runX_seq ?_
      refine runX_regionC fun C hC => ?_
      try simp -implicitDefEqProofs (disch := omega) only [go_sem, ↓reduceIte]
      refine toEnd hC ?_
      refine endX_seq ?_
      refine runX_seq ?_
      refine runX_drawC mixed (by kernel_rfl) fun C hC => ?_
      obtain ⟨g18, h⟩ := grd_some h
      obtain ⟨g19, h⟩ := grd_some h
      obtain ⟨g20, h⟩ := grd_some h
      obtain ⟨g21, h⟩ := grd_some h
      try simp -implicitDefEqProofs (maxSteps := 4000000) (disch := first | omega | decide | (simp only [go_sem]; omega)) only [go_sem, ↓reduceIte]
      repeat (with_reducible refine And.intro (by first | assumption | omega | (simp; done) | (simp; omega)) ?_)
      refine toEnd hC ?_
      refine endX_seq ?_
      refine runX_drawC mixed (by kernel_rfl) fun C hC => ?_
      obtain ⟨g22, h⟩ := grd_some h
      obtain ⟨g23, h⟩ := grd_some h
      obtain ⟨g24, h⟩ := grd_some h
      have e25 : ([.imm (.int .u64 (7 : Int)), .imm (.int .u64 (12 : Int)), .imm (.int .u64 (17 : Int)), .imm (.int .u64 (22 : Int)), .imm (.int .u64 (5 : Int)), .imm (.int .u64 (9 : Int)), .imm (.int .u64 (14 : Int)), .imm (.int .u64 (20 : Int)), .imm (.int .u64 (4 : Int)), .imm (.int .u64 (11 : Int)), .imm (.int .u64 (16 : Int)), .imm (.int .u64 (23 : Int)), .imm (.int .u64 (6 : Int)), .imm (.int .u64 (10 : Int)), .imm (.int .u64 (15 : Int)), .imm (.int .u64 (21 : Int))] : List T).getD ((IntKind.wrap .i64 ((IntKind.wrap .i64 ((IntKind.wrap .i64 (x4.tdiv (16 : Int))) * (4 : Int))) + (x4.tmod (4 : Int)))).toNat) .junk = .imm (.int .u64 ([(7 : Int), (12 : Int), (17 : Int), (22 : Int), (5 : Int), (9 : Int), (14 : Int), (20 : Int), (4 : Int), (11 : Int), (16 : Int), (23 : Int), (6 : Int), (10 : Int), (15 : Int), (21 : Int)].getD ((IntKind.wrap .i64 ((IntKind.wrap .i64 ((IntKind.wrap .i64 (x4.tdiv (16 : Int))) * (4 : Int))) + (x4.tmod (4 : Int)))).toNat) default)) := getD_map (eI .u64) (l := [(7 : Int), (12 : Int), (17 : Int), (22 : Int), (5 : Int), (9 : Int), (14 : Int), (20 : Int), (4 : Int), (11 : Int), (16 : Int), (23 : Int), (6 : Int), (10 : Int), (15 : Int), (21 : Int)]) (i := (IntKind.wrap .i64 ((IntKind.wrap .i64 ((IntKind.wrap .i64 (x4.tdiv (16 : Int))) * (4 : Int))) + (x4.tmod (4 : Int)))).toNat) (by simp only [List.length_cons, List.length_nil]; omega)
      obtain ⟨v26, h26, h⟩ := bnd_some h
      try simp -implicitDefEqProofs (maxSteps := 4000000) (disch := first | omega | decide | (simp only [go_sem]; omega)) only [go_sem, ↓reduceIte, e25]
      repeat (with_reducible refine And.intro (by first | assumption | omega | (simp; done) | (simp; omega)) ?_)
      refine callD_X (F117_ok m1 (IntKind.wrap .u32 ((IntKind.wrap .u32 ((IntKind.wrap .u32 (x5 + x16)) + (IntKind.wrap .u32 ((IntKind.wrap .u32 ((IntKind.wrap .u32 ((IntKind.wrap .u32 ((a1.getD (IntKind.wrap .i64 ((4 : Int) * (x17.tmod (16 : Int)))).toNat default))) + (IntKind.wrap .u32 (bShl .u32 (IntKind.wrap .u32 ((a1.getD (IntKind.wrap .i64 ((IntKind.wrap .i64 ((4 : Int) * (x17.tmod (16 : Int)))) + (1 : Int))).toNat default))) 8)))) + (IntKind.wrap .u32 (bShl .u32 (IntKind.wrap .u32 ((a1.getD (IntKind.wrap .i64 ((IntKind.wrap .i64 ((4 : Int) * (x17.tmod (16 : Int)))) + (2 : Int))).toNat default))) 16)))) + (IntKind.wrap .u32 (bShl .u32 (IntKind.wrap .u32 ((a1.getD (IntKind.wrap .i64 ((IntKind.wrap .i64 ((4 : Int) * (x17.tmod (16 : Int)))) + (3 : Int))).toNat default))) 24)))))) + (v1.getD x4.toNat default))) ([(7 : Int), (12 : Int), (17 : Int), (22 : Int), (5 : Int), (9 : Int), (14 : Int), (20 : Int), (4 : Int), (11 : Int), (16 : Int), (23 : Int), (6 : Int), (10 : Int), (15 : Int), (21 : Int)].getD (IntKind.wrap .i64 ((IntKind.wrap .i64 ((IntKind.wrap .i64 (x4.tdiv (16 : Int))) * (4 : Int))) + (x4.tmod (4 : Int)))).toNat default) _ h26) (by repeat (first | exact leL_refl _ | refine leL_cons (by first | exact leT_refl _ | exact leT_virt | exact leT_junk _ | exact leT_sl | exact leT_sln | exact leT_nil | (refine leT_agg (by repeat (first | exact leL_refl _ | refine leL_cons (by first | exact leT_refl _ | exact leT_sl | exact leT_sln | exact leT_nil) ?_)))) ?_)) ?_
      try simp -implicitDefEqProofs (maxSteps := 4000000) (disch := first | omega | decide | (simp only [go_sem]; omega)) only [go_sem, ↓reduceIte, e25]
      repeat (with_reducible refine And.intro (by first | assumption | omega | (simp; done) | (simp; omega)) ?_)
      refine buildW_of [.imm (.int .u32 x8), .imm (.int .u32 (IntKind.wrap .u32 (x6 + v26))), .imm (.int .u32 x6), .imm (.int .u32 x7)] (by kernel_rfl) ?_
      try simp -implicitDefEqProofs (maxSteps := 4000000) (disch := first | omega | decide | (simp only [go_sem]; omega)) only [go_sem, ↓reduceIte, e25]
      repeat (with_reducible refine And.intro (by first | assumption | omega | (simp; done) | (simp; omega)) ?_)
      refine toEnd hC ?_
      refine endX_blk ?_
      refine endX_seq ?_
      refine runX_regionC fun C hC => ?_
      try simp -implicitDefEqProofs (disch := omega) only [go_sem, ↓reduceIte]
      refine toEnd hC ?_
      refine endX_q (roundQ_normal ⟨m1, by omega, F101_S1 a1 a0 v1 (IntKind.wrap .i64 (x4 + (1 : Int))) x8 (IntKind.wrap .u32 (x6 + v26)) x6 x7, ?_, (IntKind.wrap .i64 (x4 + (1 : Int))), x8, (IntKind.wrap .u32 (x6 + v26)), x6, x7, rfl, by omega, h⟩)
      simp only [F101_S1]
      (try simp -implicitDefEqProofs (disch := omega) only [go_sem, ↓reduceIte])
      exact leS_refl _
    ·refine runX_condF rfl c9 ?_
     refine runX_exit ?_
     refine endX_seqE ?_
     refine endX_q (roundQ_exit ?_)
     refine endX_blkE ?_
     refine endX_seq ?_
     refine runX_seq ?_
     refine runX_seq ?_
     refine runX_regionC fun C hC => ?_
     try simp -implicitDefEqProofs (disch := omega) only [go_sem, ↓reduceIte]
     refine toEnd hC ?_
     refine endX_seq ?_
     refine runX_block ?_
     refine runX_unroll 4 ?_
     refine runX_seq ?_
     refine runX_seq ?_
     refine runX_regionC fun C hC => ?_
     try simp -implicitDefEqProofs (disch := omega) only [go_sem, ↓reduceIte]
     refine toEnd hC ?_
     refine endX_seq ?_
     refine runX_condT rfl rfl ?_
     refine runX_skip ?_
     refine endX_seq ?_
     refine runX_seq ?_
     refine runX_block ?_
     refine runX_drawC mixed (by kernel_rfl) fun C hC => ?_
     try simp -implicitDefEqProofs (disch := omega) only [go_sem, ↓reduceIte]
     refine toEnd hC ?_
     refine endX_blk ?_
     refine endX_seq ?_
     refine runX_regionC fun C hC => ?_
     try simp -implicitDefEqProofs (disch := omega) only [go_sem, ↓reduceIte]
     refine toEnd hC ?_
     refine endX_lp ?_
     refine runX_seq ?_
     refine runX_seq ?_
     refine runX_regionC fun C hC => ?_
     try simp -implicitDefEqProofs (disch := omega) only [go_sem, ↓reduceIte]
     refine toEnd hC ?_
     refine endX_seq ?_
     refine runX_condT rfl rfl ?_
     refine runX_skip ?_
     refine endX_seq ?_
     refine runX_seq ?_
     refine runX_block ?_
     refine runX_drawC mixed (by kernel_rfl) fun C hC => ?_
     try simp -implicitDefEqProofs (maxSteps := 4000000) (disch := first | omega | decide | (simp only [go_sem]; omega)) only [go_sem, ↓reduceIte]
     repeat (with_reducible refine And.intro (by first | assumption | omega | (simp; done) | (simp; omega)) ?_)
     refine toEnd hC ?_
     refine endX_blk ?_
     refine endX_seq ?_
     refine runX_regionC fun C hC => ?_
     try simp -implicitDefEqProofs (disch := omega) only [go_sem, ↓reduceIte]
     refine toEnd hC ?_
     refine endX_lp ?_
     refine runX_seq ?_
     refine runX_seq ?_
     refine runX_regionC fun C hC => ?_
     try simp -implicitDefEqProofs (disch := omega) only [go_sem, ↓reduceIte]
     refine toEnd hC ?_
     refine endX_seq ?_
     refine runX_condT rfl rfl ?_
     refine runX_skip ?_
     refine endX_seq ?_
     refine runX_seq ?_
     refine runX_block ?_
     refine runX_drawC mixed (by kernel_rfl) fun C hC => ?_
     try simp -implicitDefEqProofs (maxSteps := 4000000) (disch := first | omega | decide | (simp only [go_sem]; omega)) only [go_sem, ↓reduceIte]
     repeat (with_reducible refine And.intro (by first | assumption | omega | (simp; done) | (simp; omega)) ?_)
     refine toEnd hC ?_
     refine endX_blk ?_
     refine endX_seq ?_
     refine runX_regionC fun C hC => ?_
     try simp -implicitDefEqProofs (disch := omega) only [go_sem, ↓reduceIte]
     refine toEnd hC ?_
     refine endX_lp ?_
     refine runX_seq ?_
     refine runX_seq ?_
     refine runX_regionC fun C hC => ?_
     try simp -implicitDefEqProofs (disch := omega) only [go_sem, ↓reduceIte]
     refine toEnd hC ?_
     refine endX_seq ?_
     refine runX_condT rfl rfl ?_
     refine runX_skip ?_
     refine endX_seq ?_
     refine runX_seq ?_
     refine runX_block ?_
     refine runX_drawC mixed (by kernel_rfl) fun C hC => ?_
     try simp -implicitDefEqProofs (maxSteps := 4000000) (disch := first | omega | decide | (simp only [go_sem]; omega)) only [go_sem, ↓reduceIte]
     repeat (with_reducible refine And.intro (by first | assumption | omega | (simp; done) | (simp; omega)) ?_)
     refine toEnd hC ?_
     refine endX_blk ?_
     refine endX_seq ?_
     refine runX_regionC fun C hC => ?_
     try simp -implicitDefEqProofs (disch := omega) only [go_sem, ↓reduceIte]
     refine toEnd hC ?_
     refine endX_lp ?_
     refine runX_seq ?_
     refine runX_seq ?_
     refine runX_regionC fun C hC => ?_
     try simp -implicitDefEqProofs (disch := omega) only [go_sem, ↓reduceIte]
     refine toEnd hC ?_
     refine endX_seq ?_
     refine runX_condF rfl rfl ?_
     refine runX_exit ?_
     refine endX_seqE ?_
     refine endX_lpE ?_
     refine endX_blkE ?_
     refine endX_seq ?_
     refine runX_seq ?_
     refine runX_regionC fun C hC => ?_
     try simp -implicitDefEqProofs (disch := omega) only [go_sem, ↓reduceIte]
     refine toEnd hC ?_
     refine endX_seq ?_
     refine runX_seq ?_
     refine runX_regionC fun C hC => ?_
     try simp -implicitDefEqProofs (disch := omega) only [go_sem, ↓reduceIte]
     refine toEnd hC ?_
     refine endX_seq ?_
     refine runX_ret ?_
     refine endX_q ?_
     obtain rfl := Option.some.inj h
     show RetW _ _ _ _ _
     simp only [RetW]
     (try simp -implicitDefEqProofs (disch := omega) only [go_sem, ↓reduceIte])
     (try simp (disch := omega) only [if_pos, Nat.sub_zero])
     exact leT_refl _
end Go.Proofs.YtaiapalhdejngaaX

set_option linter.unusedVariables false
set_option linter.unusedSimpArgs false
namespace Go.Proofs.YtaiapalhdejngaaX
open Go Go.RowKit Go.Proofs
set_option maxRecDepth 100000
attribute [local go_sem ↓] stepsK_build stepsK_bs appendS
attribute [local go_sem] String.reduceEq String.reduceNe reduceCtorEq Int.reduceEq Nat.reduceAdd Nat.reduceSub Nat.reduceMul Nat.reduceLT Nat.reduceLeDiff Nat.reduceEqDiff Nat.reduceBEq Int.reduceToNat Int.reduceLT Int.reduceLE Int.reduceGT Int.reduceGE Int.reduceAdd Int.reduceSub Int.reduceMul Int.reduceNeg Int.reduceBEq Int.reduceBNe Int.reducePow Int.reduceDiv Int.reduceMod Int.reduceTDiv Int.reduceTMod Int.reduceNatCast
/-! ### shadowboxref11.End -/
def F102_S3 (x6 : List (Int)) (a0 : (List (Int)) × (Int)) (x3 : List (Int)) (x17 : Int) (x18 : Int) (x19 : Int) (x20 : Int) (x21 : Int) (x22 : Int) : St := ⟨[.junk, .junk, .ref 0 0 0 0, .junk, .ref 1 0 0 0, .junk, .rsl 2 1 0 (x6.length + 8), .junk, .imm (.int .i64 x17), .junk, .junk, .junk, .junk, .junk, .junk, .junk, .junk, .junk, .junk, .junk, .junk, .junk, .junk, .junk, .junk, .junk, .junk, .junk, .junk, .junk, .junk, .junk, .junk, .junk, .junk, .junk, .junk, .junk, .junk, .junk, .junk, .junk, .junk, .junk, .junk, .junk, .junk, .junk, .junk, .junk, .junk, .junk, .junk, .junk, .junk, .junk, .junk, .junk, .junk, .junk, .junk, .junk, .junk, .junk, .junk, .junk, .junk, .junk, .junk, .junk, .junk, .junk, .junk, .junk, .junk, .junk, .junk, .junk, .junk, .junk], [some (.box 132 (.agg [.imm (.int .u32 x18), .imm (.int .u32 x19), .imm (.int .u32 x20), .imm (.int .u32 x21), .imm (.int .u64 x22)]) false), some (.box 70 (.agg [.imm (.int .u8 (0 : Int)), .imm (.int .u8 (0 : Int)), .imm (.int .u8 (0 : Int)), .imm (.int .u8 (0 : Int)), .imm (.int .u8 (0 : Int)), .imm (.int .u8 (0 : Int)), .imm (.int .u8 (0 : Int)), .imm (.int .u8 (0 : Int)), .imm (.int .u8 (0 : Int)), .imm (.int .u8 (0 : Int)), .imm (.int .u8 (0 : Int)), .imm (.int .u8 (0 : Int)), .imm (.int .u8 (0 : Int)), .imm (.int .u8 (0 : Int)), .imm (.int .u8 (0 : Int)), .imm (.int .u8 (0 : Int))]) false), some (.buf 5 1 (List.map byteT ((((((((x6 ++ [(IntKind.wrap .u8 ((bShr .u64 (IntKind.wrap .u64 ((8 : Int) * (IntKind.wrap .u64 (a0.2 + (IntKind.wrap .u64 ((x3.length : Int))))))) 0)))]) ++ [(IntKind.wrap .u8 ((bShr .u64 (IntKind.wrap .u64 ((8 : Int) * (IntKind.wrap .u64 (a0.2 + (IntKind.wrap .u64 ((x3.length : Int))))))) 8)))]) ++ [(IntKind.wrap .u8 ((bShr .u64 (IntKind.wrap .u64 ((8 : Int) * (IntKind.wrap .u64 (a0.2 + (IntKind.wrap .u64 ((x3.length : Int))))))) 16)))]) ++ [(IntKind.wrap .u8 ((bShr .u64 (IntKind.wrap .u64 ((8 : Int) * (IntKind.wrap .u64 (a0.2 + (IntKind.wrap .u64 ((x3.length : Int))))))) 24)))]) ++ [(IntKind.wrap .u8 ((bShr .u64 (IntKind.wrap .u64 ((8 : Int) * (IntKind.wrap .u64 (a0.2 + (IntKind.wrap .u64 ((x3.length : Int))))))) 32)))]) ++ [(IntKind.wrap .u8 ((bShr .u64 (IntKind.wrap .u64 ((8 : Int) * (IntKind.wrap .u64 (a0.2 + (IntKind.wrap .u64 ((x3.length : Int))))))) 40)))]) ++ [(IntKind.wrap .u8 ((bShr .u64 (IntKind.wrap .u64 ((8 : Int) * (IntKind.wrap .u64 (a0.2 + (IntKind.wrap .u64 ((x3.length : Int))))))) 48)))]) ++ [(IntKind.wrap .u8 ((bShr .u64 (IntKind.wrap .u64 ((8 : Int) * (IntKind.wrap .u64 (a0.2 + (IntKind.wrap .u64 ((x3.length : Int))))))) 56)))])) (x6.length + 8))]⟩
def F102_S2 (a0 : (List (Int)) × (Int)) (x3 : List (Int)) (x6 : List (Int)) : St := ⟨[.junk, .junk, .ref 0 0 0 0, .junk, .ref 1 0 0 0, .imm (.int .u64 (IntKind.wrap .u64 ((8 : Int) * (IntKind.wrap .u64 (a0.2 + (IntKind.wrap .u64 ((x3.length : Int)))))))), .rsl 2 1 0 x6.length, .junk, .junk, .junk, .junk, .junk, .junk, .junk, .junk, .junk, .junk, .junk, .junk, .junk, .junk, .junk, .junk, .junk, .junk, .junk, .junk, .junk, .junk, .junk, .junk, .junk, .junk, .junk, .junk, .junk, .junk, .junk, .junk, .junk, .junk, .junk, .junk, .junk, .junk, .junk, .junk, .junk, .junk, .junk, .junk, .junk, .junk, .junk, .junk, .junk, .junk, .junk, .junk, .junk, .junk, .junk, .junk, .junk, .junk, .junk, .junk, .junk, .junk, .junk, .junk, .junk, .junk, .junk, .junk, .junk, .junk, .junk, .junk, .junk], [some (.box 132 (.agg [.imm (.int .u32 (a0.1.getD 0 default)), .imm (.int .u32 (a0.1.getD 1 default)), .imm (.int .u32 (a0.1.getD 2 default)), .imm (.int .u32 (a0.1.getD 3 default)), .imm (.int .u64 a0.2)]) false), some (.box 70 (.agg [.imm (.int .u8 (0 : Int)), .imm (.int .u8 (0 : Int)), .imm (.int .u8 (0 : Int)), .imm (.int .u8 (0 : Int)), .imm (.int .u8 (0 : Int)), .imm (.int .u8 (0 : Int)), .imm (.int .u8 (0 : Int)), .imm (.int .u8 (0 : Int)), .imm (.int .u8 (0 : Int)), .imm (.int .u8 (0 : Int)), .imm (.int .u8 (0 : Int)), .imm (.int .u8 (0 : Int)), .imm (.int .u8 (0 : Int)), .imm (.int .u8 (0 : Int)), .imm (.int .u8 (0 : Int)), .imm (.int .u8 (0 : Int))]) false), some (.buf 5 1 (List.map byteT x6) 0)]⟩
def F102_S1 (a0 : (List (Int)) × (Int)) (x3 : List (Int)) : St := ⟨[.junk, .sl 1 false (List.map byteT x3), .ref 0 0 0 0, .junk, .ref 1 0 0 0, .junk, .junk, .junk, .junk, .junk, .junk, .junk, .junk, .junk, .junk, .junk, .junk, .junk, .junk, .junk, .junk, .junk, .junk, .junk, .junk, .junk, .junk, .junk, .junk, .junk, .junk, .junk, .junk, .junk, .junk, .junk, .junk, .junk, .junk, .junk, .junk, .junk, .junk, .junk, .junk, .junk, .junk, .junk, .junk, .junk, .junk, .junk, .junk, .junk, .junk, .junk, .junk, .junk, .junk, .junk, .junk, .junk, .junk, .junk, .junk, .junk, .junk, .junk, .junk, .junk, .junk, .junk, .junk, .junk, .junk, .junk, .junk, .junk, .junk, .junk], [some (.box 132 (.agg [.imm (.int .u32 (a0.1.getD 0 default)), .imm (.int .u32 (a0.1.getD 1 default)), .imm (.int .u32 (a0.1.getD 2 default)), .imm (.int .u32 (a0.1.getD 3 default)), .imm (.int .u64 a0.2)]) false), some (.box 70 (.agg [.imm (.int .u8 (0 : Int)), .imm (.int .u8 (0 : Int)), .imm (.int .u8 (0 : Int)), .imm (.int .u8 (0 : Int)), .imm (.int .u8 (0 : Int)), .imm (.int .u8 (0 : Int)), .imm (.int .u8 (0 : Int)), .imm (.int .u8 (0 : Int)), .imm (.int .u8 (0 : Int)), .imm (.int .u8 (0 : Int)), .imm (.int .u8 (0 : Int)), .imm (.int .u8 (0 : Int)), .imm (.int .u8 (0 : Int)), .imm (.int .u8 (0 : Int)), .imm (.int .u8 (0 : Int)), .imm (.int .u8 (0 : Int))]) false)]⟩
mutual
def F102_L3 : Nat → (List (Int)) → ((List (Int)) × (Int)) → (List (Int)) → (Int) → (Int) → (Int) → (Int) → (Int) → (Int) → Option (List (Int))
 | 0, _, _, _, _, _, _, _, _, _ => none
 | m3 + 1, x6, a0, x3, x17, x18, x19, x20, x21, x22 => iteB (decide (x17 < ((x6.length + 8) : Int))) (grd (0 ≤ x17 ∧ x17 ≤ (IntKind.wrap .i64 (x17 + (64 : Int))) ∧ (IntKind.wrap .i64 (x17 + (64 : Int))) ≤ ((x6.length + 8) : Int)) ((F101 m3 ([x18, x19, x20, x21], x22) (((((((((((x6 ++ [(IntKind.wrap .u8 ((bShr .u64 (IntKind.wrap .u64 ((8 : Int) * (IntKind.wrap .u64 (a0.2 + (IntKind.wrap .u64 ((x3.length : Int))))))) 0)))]) ++ [(IntKind.wrap .u8 ((bShr .u64 (IntKind.wrap .u64 ((8 : Int) * (IntKind.wrap .u64 (a0.2 + (IntKind.wrap .u64 ((x3.length : Int))))))) 8)))]) ++ [(IntKind.wrap .u8 ((bShr .u64 (IntKind.wrap .u64 ((8 : Int) * (IntKind.wrap .u64 (a0.2 + (IntKind.wrap .u64 ((x3.length : Int))))))) 16)))]) ++ [(IntKind.wrap .u8 ((bShr .u64 (IntKind.wrap .u64 ((8 : Int) * (IntKind.wrap .u64 (a0.2 + (IntKind.wrap .u64 ((x3.length : Int))))))) 24)))]) ++ [(IntKind.wrap .u8 ((bShr .u64 (IntKind.wrap .u64 ((8 : Int) * (IntKind.wrap .u64 (a0.2 + (IntKind.wrap .u64 ((x3.length : Int))))))) 32)))]) ++ [(IntKind.wrap .u8 ((bShr .u64 (IntKind.wrap .u64 ((8 : Int) * (IntKind.wrap .u64 (a0.2 + (IntKind.wrap .u64 ((x3.length : Int))))))) 40)))]) ++ [(IntKind.wrap .u8 ((bShr .u64 (IntKind.wrap .u64 ((8 : Int) * (IntKind.wrap .u64 (a0.2 + (IntKind.wrap .u64 ((x3.length : Int))))))) 48)))]) ++ [(IntKind.wrap .u8 ((bShr .u64 (IntKind.wrap .u64 ((8 : Int) * (IntKind.wrap .u64 (a0.2 + (IntKind.wrap .u64 ((x3.length : Int))))))) 56)))])).drop x17.toNat).take ((IntKind.wrap .i64 (x17 + (64 : Int))).toNat - x17.toNat))).bind fun v26 => F102_L3 m3 x6 a0 x3 (IntKind.wrap .i64 (x17 + (64 : Int))) (v26.1.getD 0 default) (v26.1.getD 1 default) (v26.1.getD 2 default) (v26.1.getD 3 default) v26.2)) (some [(IntKind.wrap .u8 ((bShr .u32 x18 0))), (IntKind.wrap .u8 ((bShr .u32 x18 8))), (IntKind.wrap .u8 ((bShr .u32 x18 16))), (IntKind.wrap .u8 ((bShr .u32 x18 24))), (IntKind.wrap .u8 ((bShr .u32 x19 0))), (IntKind.wrap .u8 ((bShr .u32 x19 8))), (IntKind.wrap .u8 ((bShr .u32 x19 16))), (IntKind.wrap .u8 ((bShr .u32 x19 24))), (IntKind.wrap .u8 ((bShr .u32 x20 0))), (IntKind.wrap .u8 ((bShr .u32 x20 8))), (IntKind.wrap .u8 ((bShr .u32 x20 16))), (IntKind.wrap .u8 ((bShr .u32 x20 24))), (IntKind.wrap .u8 ((bShr .u32 x21 0))), (IntKind.wrap .u8 ((bShr .u32 x21 8))), (IntKind.wrap .u8 ((bShr .u32 x21 16))), (IntKind.wrap .u8 ((bShr .u32 x21 24)))])
def F102_L2 : Nat → ((List (Int)) × (Int)) → (List (Int)) → (List (Int)) → Option (List (Int))
 | 0, _, _, _ => none
 | m2 + 1, a0, x3, x6 => iteB (((x6.length : Int).tmod (64 : Int)) != (56 : Int)) (grd ((x6.length + 1) ≤ 549755813888) (F102_L2 m2 a0 x3 (x6 ++ [(0 : Int)]))) (grd ((x6.length + 1) ≤ 549755813888) (grd ((x6.length + 2) ≤ 549755813888) (grd ((x6.length + 3) ≤ 549755813888) (grd ((x6.length + 4) ≤ 549755813888) (grd ((x6.length + 5) ≤ 549755813888) (grd ((x6.length + 6) ≤ 549755813888) (grd ((x6.length + 7) ≤ 549755813888) (grd ((x6.length + 8) ≤ 549755813888) (F102_L3 m2 x6 a0 x3 (0 : Int) (a0.1.getD 0 default) (a0.1.getD 1 default) (a0.1.getD 2 default) (a0.1.getD 3 default) a0.2)))))))))
def F102_J1 (n : Nat) (a0 : (List (Int)) × (Int)) (x3 : List (Int)) : Option (List (Int)) := grd (x3.length ≤ 549755813888) (grd ((x3.length + 1) ≤ 549755813888) (F102_L2 n a0 x3 (x3 ++ [(128 : Int)])))
end
def F102 (n : Nat) (a0 : (List (Int)) × (Int)) (a1 : List (Int)) : Option (List (Int)) := iteB (decide ((63 : Int) < (a1.length : Int))) (grd ((63 : Int) ≤ (a1.length : Int)) (F102_J1 n a0 (a1.take 63))) (F102_J1 n a0 a1)
set_option maxHeartbeats 4000000 in
theorem F102_ok : ∀ (n : Nat) (a0 : (List (Int)) × (Int)) (a1 : List (Int)) (r : List (Int)), F102 n a0 a1 = some r → FnC Try.prog 102 [.agg [.imm (.int .u32 (a0.1.getD 0 default)), .imm (.int .u32 (a0.1.getD 1 default)), .imm (.int .u32 (a0.1.getD 2 default)), .imm (.int .u32 (a0.1.getD 3 default)), .imm (.int .u64 a0.2)], .sl 1 false (List.map byteT a1)] (.agg (List.map byteT r))
 | n, a0, a1, r, h => by
  unfold F102 at h
  refine FnC.goX mixed Try.func102 (by kernel_rfl) rfl ?_
  simp only [Try.ntmps102, List.length_cons, List.length_nil, List.replicate, List.cons_append, List.nil_append, Nat.reduceAdd, Nat.reduceSub]
  refine runX_seq ?_
  refine runX_regionC fun C hC => ?_
  try simp -implicitDefEqProofs (maxSteps := 4000000) (disch := first | omega | decide | (simp only [go_sem]; omega)) only [go_sem, ↓reduceIte]
  repeat (with_reducible refine And.intro (by first | assumption | omega | (simp; done) | (simp; omega)) ?_)
  refine toEnd hC ?_
  refine endX_seq ?_
  refine runX_meet [1, 2, 4] (fun S => ∃ (x3 : List (Int)), S = F102_S1 a0 x3 ∧ F102_J1 n a0 x3 = some r) ?_ ?_
  ·refine runX_seq ?_
   refine runX_regionC fun C hC => ?_
   try simp -implicitDefEqProofs (maxSteps := 4000000) (disch := first | omega | decide | (simp only [go_sem]; omega)) only [go_sem, ↓reduceIte]
   repeat (with_reducible refine And.intro (by first | assumption | omega | (simp; done) | (simp; omega)) ?_)
   refine toEnd hC ?_
   refine endX_seq ?_
   rcases iteB_some h with ⟨c1, h⟩ | ⟨c1, h⟩
   ·refine runX_condT rfl c1 ?_
    refine runX_regionC fun C hC => ?_
    obtain ⟨g2, h⟩ := grd_some h
    try simp -implicitDefEqProofs (maxSteps := 4000000) (disch := first | omega | decide | (simp only [go_sem]; omega)) only [go_sem, ↓reduceIte]
    repeat (with_reducible refine And.intro (by first | assumption | omega | (simp; done) | (simp; omega)) ?_)
    refine toEnd hC ?_
    refine endX_q (meetQ_normal ⟨F102_S1 a0 (a1.take 63), ?_, (a1.take 63), rfl, h⟩)
    simp only [F102_S1]
    (try simp -implicitDefEqProofs (maxSteps := 4000000) (disch := first | omega | decide | (simp only [go_sem]; omega)) only [go_sem, ↓reduceIte])
    first | exact leS_refl _ | (refine leS_le ?_ ?_ <;> first | exact leL_refl _ | exact leOs_refl _ | (simp only [List.append_assoc, List.cons_append, List.nil_append]; exact leOs_refl _) | (repeat (first | exact leL_refl _ | refine leL_cons (by first | exact leT_refl _ | exact leT_virt | exact leT_junk _ | exact leT_sl | exact leT_sln | exact leT_nil | (refine leT_agg (by repeat (first | exact leL_refl _ | refine leL_cons (by first | exact leT_refl _ | exact leT_sl | exact leT_sln | exact leT_nil) ?_)))) ?_)))
   ·refine runX_condF rfl c1 ?_
    refine runX_skip ?_
    refine endX_q (meetQ_normal ⟨F102_S1 a0 a1, ?_, a1, rfl, h⟩)
    simp only [F102_S1]
    (try simp -implicitDefEqProofs (maxSteps := 4000000) (disch := first | omega | decide | (simp only [go_sem]; omega)) only [go_sem, ↓reduceIte])
    first | exact leS_refl _ | (refine leS_le ?_ ?_ <;> first | exact leL_refl _ | exact leOs_refl _ | (simp only [List.append_assoc, List.cons_append, List.nil_append]; exact leOs_refl _) | (repeat (first | exact leL_refl _ | refine leL_cons (by first | exact leT_refl _ | exact leT_virt | exact leT_junk _ | exact leT_sl | exact leT_sln | exact leT_nil | (refine leT_agg (by repeat (first | exact leL_refl _ | refine leL_cons (by first | exact leT_refl _ | exact leT_sl | exact leT_sln | exact leT_nil) ?_)))) ?_)))
  ·clear h
   rintro S ⟨x3, rfl, h⟩
   rw [F102_J1] at h
   simp only [F102_S1]
   refine runX_seq ?_
   refine runX_regionC fun C hC => ?_
   try simp -implicitDefEqProofs (maxSteps := 4000000) (disch := first | omega | decide | (simp only [go_sem]; omega)) only [go_sem, ↓reduceIte]
   repeat (with_reducible refine And.intro (by first | assumption | omega | (simp; done) | (simp; omega)) ?_)
   refine toEnd hC ?_
   refine endX_seq ?_
   refine runX_seq ?_
   refine runX_regionC fun C hC => ?_
   simp only [runK_region, runK_draw, liteL, liteL2, dstsL, gL, List.getD_cons_zero, List.getD_cons_succ]
   try simp -implicitDefEqProofs (maxSteps := 4000000) (disch := first | omega | decide | (simp only [go_sem]; omega)) only [go_sem, ↓reduceIte]
   repeat (with_reducible refine And.intro (by first | assumption | omega | (simp; done) | (simp; omega)) ?_)
   refine bs_go <| buildX_val ?_
   obtain ⟨g4, h⟩ := grd_some h
   try simp -implicitDefEqProofs (maxSteps := 4000000) (disch := first | omega | decide | (simp only [go_sem]; omega)) only [go_sem, ↓reduceIte]
   repeat (with_reducible refine And.intro (by first | assumption | omega | (simp; done) | (simp; omega)) ?_)
   refine bs_go <| buildX_val ?_
   obtain ⟨g5, h⟩ := grd_some h
   try simp -implicitDefEqProofs (maxSteps := 4000000) (disch := first | omega | decide | (simp only [go_sem]; omega)) only [go_sem, ↓reduceIte]
   repeat (with_reducible refine And.intro (by first | assumption | omega | (simp; done) | (simp; omega)) ?_)
   refine toEnd hC ?_
   refine endX_seq ?_
   refine runX_seq ?_
   refine runX_block ?_
   refine runX_loop [2, 4, 5, 6] (fun m S => ∃ (x6 : List (Int)), S = F102_S2 a0 x3 x6 ∧ m ≤ n ∧ F102_L2 m a0 x3 x6 = some r) n ⟨F102_S2 a0 x3 (x3 ++ [(128 : Int)]), ?_, (x3 ++ [(128 : Int)]), rfl, Nat.le_refl _, h⟩ ?_
   ·simp only [F102_S2]
    (try simp -implicitDefEqProofs (maxSteps := 4000000) (disch := first | omega | decide | (simp only [go_sem]; omega)) only [go_sem, ↓reduceIte])
    first | exact leS_refl _ | (refine leS_le ?_ ?_ <;> first | exact leL_refl _ | exact leOs_refl _ | (simp only [List.append_assoc, List.cons_append, List.nil_append]; exact leOs_refl _) | (repeat (first | exact leL_refl _ | refine leL_cons (by first | exact leT_refl _ | exact leT_virt | exact leT_junk _ | exact leT_sl | exact leT_sln | exact leT_nil | (refine leT_agg (by repeat (first | exact leL_refl _ | refine leL_cons (by first | exact leT_refl _ | exact leT_sl | exact leT_sln | exact leT_nil) ?_)))) ?_)))
   ·clear h
    rintro m2 S ⟨x6, rfl, hm2, h⟩
    cases m2 with
    | zero => first | cases (show (none : Option _) = some _ from h) | (rw [F102_L2] at h; cases h)
    | succ m2 =>
     rw [F102_L2] at h
     simp only [F102_S2]
     refine runX_seq ?_
     refine runX_seq ?_
     refine runX_regionC fun C hC => ?_
     try simp -implicitDefEqProofs (maxSteps := 4000000) (disch := first | omega | decide | (simp only [go_sem]; omega)) only [go_sem, ↓reduceIte]
     repeat (with_reducible refine And.intro (by first | assumption | omega | (simp; done) | (simp; omega)) ?_)
     refine toEnd hC ?_
     refine endX_seq ?_
     rcases iteB_some h with ⟨c7, h⟩ | ⟨c7, h⟩
     ·refine runX_condT rfl c7 ?_
      refine runX_skip ?_
      refine endX_seq ?_
      refine runX_block ?_
      refine runX_regionC fun C hC => ?_
      try simp -implicitDefEqProofs (maxSteps := 4000000) (disch := first | omega | decide | (simp only [go_sem]; omega)) only [go_sem, ↓reduceIte]
      repeat (with_reducible refine And.intro (by first | assumption | omega | (simp; done) | (simp; omega)) ?_)
      refine bs_go <| buildX_val ?_
      obtain ⟨g8, h⟩ := grd_some h
      try simp -implicitDefEqProofs (maxSteps := 4000000) (disch := first | omega | decide | (simp only [go_sem]; omega)) only [go_sem, ↓reduceIte]
      repeat (with_reducible refine And.intro (by first | assumption | omega | (simp; done) | (simp; omega)) ?_)
      refine toEnd hC ?_
      refine endX_blk ?_
      refine endX_q (roundQ_normal ⟨m2, by omega, F102_S2 a0 x3 (x6 ++ [(0 : Int)]), ?_, (x6 ++ [(0 : Int)]), rfl, by omega, h⟩)
      simp only [F102_S2]
      (try simp -implicitDefEqProofs (maxSteps := 4000000) (disch := first | omega | decide | (simp only [go_sem]; omega)) only [go_sem, ↓reduceIte])
      first | exact leS_refl _ | (refine leS_le ?_ ?_ <;> first | exact leL_refl _ | exact leOs_refl _ | (simp only [List.append_assoc, List.cons_append, List.nil_append]; exact leOs_refl _) | (repeat (first | exact leL_refl _ | refine leL_cons (by first | exact leT_refl _ | exact leT_virt | exact leT_junk _ | exact leT_sl | exact leT_sln | exact leT_nil | (refine leT_agg (by repeat (first | exact leL_refl _ | refine leL_cons (by first | exact leT_refl _ | exact leT_sl | exact leT_sln | exact leT_nil) ?_)))) ?_)))
     ·refine runX_condF rfl c7 ?_
      refine runX_exit ?_
      refine endX_seqE ?_
      refine endX_q (roundQ_exit ?_)
      refine endX_blkE ?_
      refine endX_seq ?_
      refine runX_seq ?_
      refine runX_seq ?_
      refine runX_regionC fun C hC => ?_
      try simp -implicitDefEqProofs (maxSteps := 4000000) (disch := first | omega | decide | (simp only [go_sem]; omega)) only [go_sem, ↓reduceIte]
      repeat (with_reducible refine And.intro (by first | assumption | omega | (simp; done) | (simp; omega)) ?_)
      refine toEnd hC ?_
      refine endX_seq ?_
      refine runX_block ?_
      refine runX_unroll 8 ?_
      refine runX_seq ?_
      refine runX_seq ?_
      refine runX_regionC fun C hC => ?_
      try simp -implicitDefEqProofs (maxSteps := 4000000) (disch := first | omega | decide | (simp only [go_sem]; omega)) only [go_sem, ↓reduceIte]
      repeat (with_reducible refine And.intro (by first | assumption | omega | (simp; done) | (simp; omega)) ?_)
      refine toEnd hC ?_
      refine endX_seq ?_
      refine runX_condT rfl rfl ?_
      refine runX_skip ?_
      refine endX_seq ?_
      refine runX_seq ?_
      refine runX_block ?_
      refine runX_regionC fun C hC => ?_
      try simp -implicitDefEqProofs (maxSteps := 4000000) (disch := first | omega | decide | (simp only [go_sem]; omega)) only [go_sem, ↓reduceIte]
      repeat (with_reducible refine And.intro (by first | assumption | omega | (simp; done) | (simp; omega)) ?_)
      refine bs_go <| buildX_val ?_
      obtain ⟨g9, h⟩ := grd_some h
      try simp -implicitDefEqProofs (maxSteps := 4000000) (disch := first | omega | decide | (simp only [go_sem]; omega)) only [go_sem, ↓reduceIte]
      repeat (with_reducible refine And.intro (by first | assumption | omega | (simp; done) | (simp; omega)) ?_)
      refine toEnd hC ?_
      refine endX_blk ?_
      refine endX_seq ?_
      refine runX_regionC fun C hC => ?_
      try simp -implicitDefEqProofs (maxSteps := 4000000) (disch := first | omega | decide | (simp only [go_sem]; omega)) only [go_sem, ↓reduceIte]
      repeat (with_reducible refine And.intro (by first | assumption | omega | (simp; done) | (simp; omega)) ?_)
      refine toEnd hC ?_
      refine endX_lp ?_
      refine runX_seq ?_
      refine runX_seq ?_
      refine runX_regionC fun C hC => ?_
      try simp -implicitDefEqProofs (maxSteps := 4000000) (disch := first | omega | decide | (simp only [go_sem]; omega)) only [go_sem, ↓reduceIte]
      repeat (with_reducible refine And.intro (by first | assumption | omega | (simp; done) | (simp; omega)) ?_)
      refine toEnd hC ?_
      refine endX_seq ?_
      refine runX_condT rfl rfl ?_
      refine runX_skip ?_
      refine endX_seq ?_
      refine runX_seq ?_
      refine runX_block ?_
      refine runX_regionC fun C hC => ?_
      try simp -implicitDefEqProofs (maxSteps := 4000000) (disch := first | omega | decide | (simp only [go_sem]; omega)) only [go_sem, ↓reduceIte]
      repeat (with_reducible refine And.intro (by first | assumption | omega | (simp; done) | (simp; omega)) ?_)
      refine bs_go <| buildX_val ?_
      obtain ⟨g10, h⟩ := grd_some h
      try simp -implicitDefEqProofs (maxSteps := 4000000) (disch := first | omega | decide | (simp only [go_sem]; omega)) only [go_sem, ↓reduceIte]
      repeat (with_reducible refine And.intro (by first | assumption | omega | (simp; done) | (simp; omega)) ?_)
      refine toEnd hC ?_
      refine endX_blk ?_
      refine endX_seq ?_
      refine runX_regionC fun C hC => ?_
      try simp -implicitDefEqProofs (maxSteps := 4000000) (disch := first | omega | decide | (simp only [go_sem]; omega)) only [go_sem, ↓reduceIte]
      repeat (with_reducible refine And.intro (by first | assumption | omega | (simp; done) | (simp; omega)) ?_)
      refine toEnd hC ?_
      refine endX_lp ?_
      refine runX_seq ?_
      refine runX_seq ?_
      refine runX_regionC fun C hC => ?_
      try simp -implicitDefEqProofs (maxSteps := 4000000) (disch := first | omega | decide | (simp only [go_sem]; omega)) only [go_sem, ↓reduceIte]
      repeat (with_reducible refine And.intro (by first | assumption | omega | (simp; done) | (simp; omega)) ?_)
      refine toEnd hC ?_
      refine endX_seq ?_
      refine runX_condT rfl rfl ?_
      refine runX_skip ?_
      refine endX_seq ?_
      refine runX_seq ?_
      refine runX_block ?_
      refine runX_regionC fun C hC => ?_
      try simp -implicitDefEqProofs (maxSteps := 4000000) (disch := first | omega | decide | (simp only [go_sem]; omega)) only [go_sem, ↓reduceIte]
      repeat (with_reducible refine And.intro (by first | assumption | omega | (simp; done) | (simp; omega)) ?_)
      refine bs_go <| buildX_val ?_
      obtain ⟨g11, h⟩ := grd_some h
      try simp -implicitDefEqProofs (maxSteps := 4000000) (disch := first | omega | decide | (simp only [go_sem]; omega)) only [go_sem, ↓reduceIte]
      repeat (with_reducible refine And.intro (by first | assumption | omega | (simp; done) | (simp; omega)) ?_)
      refine toEnd hC ?_
      refine endX_blk ?_
      refine endX_seq ?_
      refine runX_regionC fun C hC => ?_
      try simp -implicitDefEqProofs (maxSteps := 4000000) (disch := first | omega | decide | (simp only [go_sem]; omega)) only [go_sem, ↓reduceIte]
      repeat (with_reducible refine And.intro (by first | assumption | omega | (simp; done) | (simp; omega)) ?_)
      refine toEnd hC ?_
      refine endX_lp ?_
      refine runX_seq ?_
      refine runX_seq ?_
      refine runX_regionC fun C hC => ?_
      try simp -implicitDefEqProofs (maxSteps := 4000000) (disch := first | omega | decide | (simp only [go_sem]; omega)) only [go_sem, ↓reduceIte]
      repeat (with_reducible refine And.intro (by first | assumption | omega | (simp; done) | (simp; omega)) ?_)
      refine toEnd hC ?_
      refine endX_seq ?_
      refine runX_condT rfl rfl ?_
      refine runX_skip ?_
      refine endX_seq ?_
      refine runX_seq ?_
      refine runX_block ?_
      refine runX_regionC fun C hC => ?_
      try simp -implicitDefEqProofs (maxSteps := 4000000) (disch := first | omega | decide | (simp only [go_sem]; omega)) only [go_sem, ↓reduceIte]
      repeat (with_reducible refine And.intro (by first | assumption | omega | (simp; done) | (simp; omega)) ?_)
      refine bs_go <| buildX_val ?_
      obtain ⟨g12, h⟩ := grd_some h
      try simp -implicitDefEqProofs (maxSteps := 4000000) (disch := first | omega | decide | (simp only [go_sem]; omega)) only [go_sem, ↓reduceIte]
      repeat (with_reducible refine And.intro (by first | assumption | omega | (simp; done) | (simp; omega)) ?_)
      refine toEnd hC ?_
      refine endX_blk ?_
      refine endX_seq ?_
      refine runX_regionC fun C hC => ?_
      try simp -implicitDefEqProofs (maxSteps := 4000000) (disch := first | omega | decide | (simp only [go_sem]; omega)) only [go_sem, ↓reduceIte]
      repeat (with_reducible refine And.intro (by first | assumption | omega | (simp; done) | (simp; omega)) ?_)
      refine toEnd hC ?_
      refine endX_lp ?_
      refine runX_seq ?_
      refine runX_seq ?_
      refine runX_regionC fun C hC => ?_
      try simp -implicitDefEqProofs (maxSteps := 4000000) (disch := first | omega | decide | (simp only [go_sem]; omega)) only [go_sem, ↓reduceIte]
      repeat (with_reducible refine And.intro (by first | assumption | omega | (simp; done) | (simp; omega)) ?_)
      refine toEnd hC ?_
      refine endX_seq ?_
      refine runX_condT rfl rfl ?_
      refine runX_skip ?_
      refine endX_seq ?_
      refine runX_seq ?_
      refine runX_block ?_
      refine runX_regionC fun C hC => ?_
      try simp -implicitDefEqProofs (maxSteps := 4000000) (disch := first | omega | decide | (simp only [go_sem]; omega)) only [go_sem, ↓reduceIte]
      repeat (with_reducible refine And.intro (by first | assumption | omega | (simp; done) | (simp; omega)) ?_)
      refine bs_go <| buildX_val ?_
      obtain ⟨g13, h⟩ := grd_some h
      try simp -implicitDefEqProofs (maxSteps := 4000000) (disch := first | omega | decide | (simp only [go_sem]; omega)) only [go_sem, ↓reduceIte]
      repeat (with_reducible refine And.intro (by first | assumption | omega | (simp; done) | (simp; omega)) ?_)
      refine toEnd hC ?_
      refine endX_blk ?_
      refine endX_seq ?_
      refine runX_regionC fun C hC => ?_
      try simp -implicitDefEqProofs (maxSteps := 4000000) (disch := first | omega | decide | (simp only [go_sem]; omega)) only [go_sem, ↓reduceIte]
      repeat (with_reducible refine And.intro (by first | assumption | omega | (simp; done) | (simp; omega)) ?_)
      refine toEnd hC ?_
      refine endX_lp ?_
      refine runX_seq ?_
      refine runX_seq ?_
      refine runX_regionC fun C hC => ?_
      try simp -implicitDefEqProofs (maxSteps := 4000000) (disch := first | omega | decide | (simp only [go_sem]; omega)) only [go_sem, ↓reduceIte]
      repeat (with_reducible refine And.intro (by first | assumption | omega | (simp; done) | (simp; omega)) ?_)
      refine toEnd hC ?_
      refine endX_seq ?_
      refine runX_condT rfl rfl ?_
      refine runX_skip ?_
      refine endX_seq ?_
      refine runX_seq ?_
      refine runX_block ?_
      refine runX_regionC fun C hC => ?_
      try simp -implicitDefEqProofs (maxSteps := 4000000) (disch := first | omega | decide | (simp only [go_sem]; omega)) only [go_sem, ↓reduceIte]
      repeat (with_reducible refine And.intro (by first | assumption | omega | (simp; done) | (simp; omega)) ?_)
      refine bs_go <| buildX_val ?_
      obtain ⟨g14, h⟩ := grd_some h
      try simp -implicitDefEqProofs (maxSteps := 4000000) (disch := first | omega | decide | (simp only [go_sem]; omega)) only [go_sem, ↓reduceIte]
      repeat (with_reducible refine And.intro (by first | assumption | omega | (simp; done) | (simp; omega)) ?_)
      refine toEnd hC ?_
      refine endX_blk ?_
      refine endX_seq ?_
      refine runX_regionC fun C hC => ?_
      try simp -implicitDefEqProofs (maxSteps := 4000000) (disch := first | omega | decide | (simp only [go_sem]; omega)) only [go_sem, ↓reduceIte]
      repeat (with_reducible refine And.intro (by first | assumption | omega | (simp; done) | (simp; omega)) ?_)
      refine toEnd hC ?_
      refine endX_lp ?_
      refine runX_seq ?_
      refine runX_seq ?_
      refine runX_regionC fun C hC => ?_
      try simp -implicitDefEqProofs (maxSteps := 4000000) (disch := first | omega | decide | (simp only [go_sem]; omega)) only [go_sem, ↓reduceIte]
      repeat (with_reducible refine And.intro (by first | assumption | omega | (simp; done) | (simp; omega)) ?_)
      refine toEnd hC ?_
      refine endX_seq ?_
      refine runX_condT rfl rfl ?_
      refine runX_skip ?_
      refine endX_seq ?_
      refine runX_seq ?_
      refine runX_block ?_
      refine runX_regionC fun C hC => ?_
      try simp -implicitDefEqProofs (maxSteps := 4000000) (disch := first | omega | decide | (simp only [go_sem]; omega)) only [go_sem, ↓reduceIte]
      repeat (with_reducible refine And.intro (by first | assumption | omega | (simp; done) | (simp; omega)) ?_)
      refine bs_go <| buildX_val ?_
      obtain ⟨g15, h⟩ := grd_some h
      try simp -implicitDefEqProofs (maxSteps := 4000000) (disch := first | omega | decide | (simp only [go_sem]; omega)) only [go_sem, ↓reduceIte]
      repeat (with_reducible refine And.intro (by first | assumption | omega | (simp; done) | (simp; omega)) ?_)
      refine toEnd hC ?_
      refine endX_blk ?_
      refine endX_seq ?_
      refine runX_regionC fun C hC => ?_
      try simp -implicitDefEqProofs (maxSteps := 4000000) (disch := first | omega | decide | (simp only [go_sem]; omega)) only [go_sem, ↓reduceIte]
      repeat (with_reducible refine And.intro (by first | assumption | omega | (simp; done) | (simp; omega)) ?_)
      refine toEnd hC ?_
      refine endX_lp ?_
      refine runX_seq ?_
      refine runX_seq ?_
      refine runX_regionC fun C hC => ?_
      try simp -implicitDefEqProofs (maxSteps := 4000000) (disch := first | omega | decide | (simp only [go_sem]; omega)) only [go_sem, ↓reduceIte]
      repeat (with_reducible refine And.intro (by first | assumption | omega | (simp; done) | (simp; omega)) ?_)
      refine toEnd hC ?_
      refine endX_seq ?_
      refine runX_condT rfl rfl ?_
      refine runX_skip ?_
      refine endX_seq ?_
      refine runX_seq ?_
      refine runX_block ?_
      refine runX_regionC fun C hC => ?_
      try simp -implicitDefEqProofs (maxSteps := 4000000) (disch := first | omega | decide | (simp only [go_sem]; omega)) only [go_sem, ↓reduceIte]
      repeat (with_reducible refine And.intro (by first | assumption | omega | (simp; done) | (simp; omega)) ?_)
      refine bs_go <| buildX_val ?_
      obtain ⟨g16, h⟩ := grd_some h
      try simp -implicitDefEqProofs (maxSteps := 4000000) (disch := first | omega | decide | (simp only [go_sem]; omega)) only [go_sem, ↓reduceIte]
      repeat (with_reducible refine And.intro (by first | assumption | omega | (simp; done) | (simp; omega)) ?_)
      refine toEnd hC ?_
      refine endX_blk ?_
      refine endX_seq ?_
      refine runX_regionC fun C hC => ?_
      try simp -implicitDefEqProofs (maxSteps := 4000000) (disch := first | omega | decide | (simp only [go_sem]; omega)) only [go_sem, ↓reduceIte]
      repeat (with_reducible refine And.intro (by first | assumption | omega | (simp; done) | (simp; omega)) ?_)
      refine toEnd hC ?_
      refine endX_lp ?_
      refine runX_seq ?_
      refine runX_seq ?_
      refine runX_regionC fun C hC => ?_
      try simp -implicitDefEqProofs (maxSteps := 4000000) (disch := first | omega | decide | (simp only [go_sem]; omega)) only [go_sem, ↓reduceIte]
      repeat (with_reducible refine And.intro (by first | assumption | omega | (simp; done) | (simp; omega)) ?_)
      refine toEnd hC ?_
      refine endX_seq ?_
      refine runX_condF rfl rfl ?_
      refine runX_exit ?_
      refine endX_seqE ?_
      refine endX_lpE ?_
      refine endX_blkE ?_
      refine endX_seq ?_
      refine runX_seq ?_
      refine runX_seq ?_
      refine runX_regionC fun C hC => ?_
      try simp -implicitDefEqProofs (maxSteps := 4000000) (disch := first | omega | decide | (simp only [go_sem]; omega)) only [go_sem, ↓reduceIte]
      repeat (with_reducible refine And.intro (by first | assumption | omega | (simp; done) | (simp; omega)) ?_)
      refine toEnd hC ?_
      refine endX_seq ?_
      refine runX_block ?_
      refine runX_loop [2, 4, 6, 8] (fun m S => ∃ (x17 : Int) (x18 : Int) (x19 : Int) (x20 : Int) (x21 : Int) (x22 : Int), S = F102_S3 x6 a0 x3 x17 x18 x19 x20 x21 x22 ∧ m ≤ m2 ∧ F102_L3 m x6 a0 x3 x17 x18 x19 x20 x21 x22 = some r) m2 ⟨F102_S3 x6 a0 x3 (0 : Int) (a0.1.getD 0 default) (a0.1.getD 1 default) (a0.1.getD 2 default) (a0.1.getD 3 default) a0.2, ?_, (0 : Int), (a0.1.getD 0 default), (a0.1.getD 1 default), (a0.1.getD 2 default), (a0.1.getD 3 default), a0.2, rfl, Nat.le_refl _, h⟩ ?_
      ·(try simp -implicitDefEqProofs (maxSteps := 4000000) (disch := first | omega | decide | (simp only [go_sem]; omega)) only [go_sem, ↓reduceIte])
       refine leS_trans (leS_lock 2 (x6.length + 8) 5 1 (List.map byteT ((((((((x6 ++ [(IntKind.wrap .u8 ((bShr .u64 (IntKind.wrap .u64 ((8 : Int) * (IntKind.wrap .u64 (a0.2 + (IntKind.wrap .u64 ((x3.length : Int))))))) 0)))]) ++ [(IntKind.wrap .u8 ((bShr .u64 (IntKind.wrap .u64 ((8 : Int) * (IntKind.wrap .u64 (a0.2 + (IntKind.wrap .u64 ((x3.length : Int))))))) 8)))]) ++ [(IntKind.wrap .u8 ((bShr .u64 (IntKind.wrap .u64 ((8 : Int) * (IntKind.wrap .u64 (a0.2 + (IntKind.wrap .u64 ((x3.length : Int))))))) 16)))]) ++ [(IntKind.wrap .u8 ((bShr .u64 (IntKind.wrap .u64 ((8 : Int) * (IntKind.wrap .u64 (a0.2 + (IntKind.wrap .u64 ((x3.length : Int))))))) 24)))]) ++ [(IntKind.wrap .u8 ((bShr .u64 (IntKind.wrap .u64 ((8 : Int) * (IntKind.wrap .u64 (a0.2 + (IntKind.wrap .u64 ((x3.length : Int))))))) 32)))]) ++ [(IntKind.wrap .u8 ((bShr .u64 (IntKind.wrap .u64 ((8 : Int) * (IntKind.wrap .u64 (a0.2 + (IntKind.wrap .u64 ((x3.length : Int))))))) 40)))]) ++ [(IntKind.wrap .u8 ((bShr .u64 (IntKind.wrap .u64 ((8 : Int) * (IntKind.wrap .u64 (a0.2 + (IntKind.wrap .u64 ((x3.length : Int))))))) 48)))]) ++ [(IntKind.wrap .u8 ((bShr .u64 (IntKind.wrap .u64 ((8 : Int) * (IntKind.wrap .u64 (a0.2 + (IntKind.wrap .u64 ((x3.length : Int))))))) 56)))])) 0 (by simp) (by omega) (by simp)) (show leS ⟨[.junk, .junk, .ref 0 0 0 0, .junk, .ref 1 0 0 0, .junk, .rsl 2 1 0 (x6.length + 8), .junk, .imm (.int .i64 (0 : Int)), .junk, .junk, .junk, .junk, .junk, .junk, .junk, .junk, .junk, .junk, .junk, .junk, .junk, .junk, .junk, .junk, .junk, .junk, .junk, .junk, .junk, .junk, .junk, .junk, .junk, .junk, .junk, .junk, .junk, .junk, .junk, .junk, .junk, .junk, .junk, .junk, .junk, .junk, .junk, .junk, .junk, .junk, .junk, .junk, .junk, .junk, .junk, .junk, .junk, .junk, .junk, .junk, .junk, .junk, .junk, .junk, .junk, .junk, .junk, .junk, .junk, .junk, .junk, .junk, .junk, .junk, .junk, .junk, .junk, .junk, .junk], [some (.box 132 (.agg [.imm (.int .u32 (a0.1.getD 0 default)), .imm (.int .u32 (a0.1.getD 1 default)), .imm (.int .u32 (a0.1.getD 2 default)), .imm (.int .u32 (a0.1.getD 3 default)), .imm (.int .u64 a0.2)]) false), some (.box 70 (.agg [.imm (.int .u8 (0 : Int)), .imm (.int .u8 (0 : Int)), .imm (.int .u8 (0 : Int)), .imm (.int .u8 (0 : Int)), .imm (.int .u8 (0 : Int)), .imm (.int .u8 (0 : Int)), .imm (.int .u8 (0 : Int)), .imm (.int .u8 (0 : Int)), .imm (.int .u8 (0 : Int)), .imm (.int .u8 (0 : Int)), .imm (.int .u8 (0 : Int)), .imm (.int .u8 (0 : Int)), .imm (.int .u8 (0 : Int)), .imm (.int .u8 (0 : Int)), .imm (.int .u8 (0 : Int)), .imm (.int .u8 (0 : Int))]) false), some (.buf 5 1 (List.map byteT ((((((((x6 ++ [(IntKind.wrap .u8 ((bShr .u64 (IntKind.wrap .u64 ((8 : Int) * (IntKind.wrap .u64 (a0.2 + (IntKind.wrap .u64 ((x3.length : Int))))))) 0)))]) ++ [(IntKind.wrap .u8 ((bShr .u64 (IntKind.wrap .u64 ((8 : Int) * (IntKind.wrap .u64 (a0.2 + (IntKind.wrap .u64 ((x3.length : Int))))))) 8)))]) ++ [(IntKind.wrap .u8 ((bShr .u64 (IntKind.wrap .u64 ((8 : Int) * (IntKind.wrap .u64 (a0.2 + (IntKind.wrap .u64 ((x3.length : Int))))))) 16)))]) ++ [(IntKind.wrap .u8 ((bShr .u64 (IntKind.wrap .u64 ((8 : Int) * (IntKind.wrap .u64 (a0.2 + (IntKind.wrap .u64 ((x3.length : Int))))))) 24)))]) ++ [(IntKind.wrap .u8 ((bShr .u64 (IntKind.wrap .u64 ((8 : Int) * (IntKind.wrap .u64 (a0.2 + (IntKind.wrap .u64 ((x3.length : Int))))))) 32)))]) ++ [(IntKind.wrap .u8 ((bShr .u64 (IntKind.wrap .u64 ((8 : Int) * (IntKind.wrap .u64 (a0.2 + (IntKind.wrap .u64 ((x3.length : Int))))))) 40)))]) ++ [(IntKind.wrap .u8 ((bShr .u64 (IntKind.wrap .u64 ((8 : Int) * (IntKind.wrap .u64 (a0.2 + (IntKind.wrap .u64 ((x3.length : Int))))))) 48)))]) ++ [(IntKind.wrap .u8 ((bShr .u64 (IntKind.wrap .u64 ((8 : Int) * (IntKind.wrap .u64 (a0.2 + (IntKind.wrap .u64 ((x3.length : Int))))))) 56)))])) (x6.length + 8))]⟩ _ from ?_)
       simp only [F102_S3]
       (try simp -implicitDefEqProofs (maxSteps := 4000000) (disch := first | omega | decide | (simp only [go_sem]; omega)) only [go_sem, ↓reduceIte])
       first | exact leS_refl _ | (refine leS_le ?_ ?_ <;> first | exact leL_refl _ | exact leOs_refl _ | (simp only [List.append_assoc, List.cons_append, List.nil_append]; exact leOs_refl _) | (repeat (first | exact leL_refl _ | refine leL_cons (by first | exact leT_refl _ | exact leT_virt | exact leT_junk _ | exact leT_sl | exact leT_sln | exact leT_nil | (refine leT_agg (by repeat (first | exact leL_refl _ | refine leL_cons (by first | exact leT_refl _ | exact leT_sl | exact leT_sln | exact leT_nil) ?_)))) ?_)))
      ·clear h
       rintro m3 S ⟨x17, x18, x19, x20, x21, x22, rfl, hm3, h⟩
       cases m3 with
       | zero => first | cases (show (none : Option _) = some _ from h) | (rw [F102_L3] at h; cases h)
       | succ m3 =>
        rw [F102_L3] at h
        simp only [F102_S3]
        refine runX_seq ?_
        refine runX_seq ?_
        refine runX_regionC fun C hC => ?_
        try simp -implicitDefEqProofs (maxSteps := 4000000) (disch := first | omega | decide | (simp only [go_sem]; omega)) only [go_sem, ↓reduceIte]
        repeat (with_reducible refine And.intro (by first | assumption | omega | (simp; done) | (simp; omega)) ?_)
        refine toEnd hC ?_
        refine endX_seq ?_
        rcases iteB_some h with ⟨c23, h⟩ | ⟨c23, h⟩
        ·refine runX_condT rfl c23 ?_
         refine runX_skip ?_
         refine endX_seq ?_
         refine runX_seq ?_
         refine runX_block ?_
         refine runX_drawC mixed (by kernel_rfl) fun C hC => ?_
         obtain ⟨g24, h⟩ := grd_some h
         have e25 : (x17.toNat + ((IntKind.wrap .i64 (x17 + (64 : Int))).toNat - x17.toNat) ≤ (x6.length + 8)) = True := eq_true (by omega)
         obtain ⟨v26, h26, h⟩ := bnd_some h
         try simp -implicitDefEqProofs (maxSteps := 4000000) (disch := first | omega | decide | (simp only [go_sem]; omega)) only [go_sem, ↓reduceIte, e25]
         repeat (with_reducible refine And.intro (by first | assumption | omega | (simp; done) | (simp; omega)) ?_)
         refine callD_X (F101_ok m3 ([x18, x19, x20, x21], x22) (((((((((((x6 ++ [(IntKind.wrap .u8 ((bShr .u64 (IntKind.wrap .u64 ((8 : Int) * (IntKind.wrap .u64 (a0.2 + (IntKind.wrap .u64 ((x3.length : Int))))))) 0)))]) ++ [(IntKind.wrap .u8 ((bShr .u64 (IntKind.wrap .u64 ((8 : Int) * (IntKind.wrap .u64 (a0.2 + (IntKind.wrap .u64 ((x3.length : Int))))))) 8)))]) ++ [(IntKind.wrap .u8 ((bShr .u64 (IntKind.wrap .u64 ((8 : Int) * (IntKind.wrap .u64 (a0.2 + (IntKind.wrap .u64 ((x3.length : Int))))))) 16)))]) ++ [(IntKind.wrap .u8 ((bShr .u64 (IntKind.wrap .u64 ((8 : Int) * (IntKind.wrap .u64 (a0.2 + (IntKind.wrap .u64 ((x3.length : Int))))))) 24)))]) ++ [(IntKind.wrap .u8 ((bShr .u64 (IntKind.wrap .u64 ((8 : Int) * (IntKind.wrap .u64 (a0.2 + (IntKind.wrap .u64 ((x3.length : Int))))))) 32)))]) ++ [(IntKind.wrap .u8 ((bShr .u64 (IntKind.wrap .u64 ((8 : Int) * (IntKind.wrap .u64 (a0.2 + (IntKind.wrap .u64 ((x3.length : Int))))))) 40)))]) ++ [(IntKind.wrap .u8 ((bShr .u64 (IntKind.wrap .u64 ((8 : Int) * (IntKind.wrap .u64 (a0.2 + (IntKind.wrap .u64 ((x3.length : Int))))))) 48)))]) ++ [(IntKind.wrap .u8 ((bShr .u64 (IntKind.wrap .u64 ((8 : Int) * (IntKind.wrap .u64 (a0.2 + (IntKind.wrap .u64 ((x3.length : Int))))))) 56)))])).drop x17.toNat).take ((IntKind.wrap .i64 (x17 + (64 : Int))).toNat - x17.toNat)) _ h26) (by repeat (first | exact leL_refl _ | refine leL_cons (by first | exact leT_refl _ | exact leT_virt | exact leT_junk _ | exact leT_sl | exact leT_sln | exact leT_nil | (refine leT_agg (by repeat (first | exact leL_refl _ | refine leL_cons (by first | exact leT_refl _ | exact leT_sl | exact leT_sln | exact leT_nil) ?_)))) ?_)) ?_
         try simp -implicitDefEqProofs (maxSteps := 4000000) (disch := first | omega | decide | (simp only [go_sem]; omega)) only [go_sem, ↓reduceIte, e25]
         repeat (with_reducible refine And.intro (by first | assumption | omega | (simp; done) | (simp; omega)) ?_)
         refine toEnd hC ?_
         refine endX_blk ?_
         refine endX_seq ?_
         refine runX_regionC fun C hC => ?_
         try simp -implicitDefEqProofs (maxSteps := 4000000) (disch := first | omega | decide | (simp only [go_sem]; omega)) only [go_sem, ↓reduceIte]
         repeat (with_reducible refine And.intro (by first | assumption | omega | (simp; done) | (simp; omega)) ?_)
         refine toEnd hC ?_
         refine endX_q (roundQ_normal ⟨m3, by omega, F102_S3 x6 a0 x3 (IntKind.wrap .i64 (x17 + (64 : Int))) (v26.1.getD 0 default) (v26.1.getD 1 default) (v26.1.getD 2 default) (v26.1.getD 3 default) v26.2, ?_, (IntKind.wrap .i64 (x17 + (64 : Int))), (v26.1.getD 0 default), (v26.1.getD 1 default), (v26.1.getD 2 default), (v26.1.getD 3 default), v26.2, rfl, by omega, h⟩)
         simp only [F102_S3]
         (try simp -implicitDefEqProofs (maxSteps := 4000000) (disch := first | omega | decide | (simp only [go_sem]; omega)) only [go_sem, ↓reduceIte])
         first | exact leS_refl _ | (refine leS_le ?_ ?_ <;> first | exact leL_refl _ | exact leOs_refl _ | (simp only [List.append_assoc, List.cons_append, List.nil_append]; exact leOs_refl _) | (repeat (first | exact leL_refl _ | refine leL_cons (by first | exact leT_refl _ | exact leT_virt | exact leT_junk _ | exact leT_sl | exact leT_sln | exact leT_nil | (refine leT_agg (by repeat (first | exact leL_refl _ | refine leL_cons (by first | exact leT_refl _ | exact leT_sl | exact leT_sln | exact leT_nil) ?_)))) ?_)))
        ·refine runX_condF rfl c23 ?_
         refine runX_exit ?_
         refine endX_seqE ?_
         refine endX_q (roundQ_exit ?_)
         refine endX_blkE ?_
         refine endX_seq ?_
         refine runX_seq ?_
         refine runX_regionC fun C hC => ?_
         simp only [runK_region, runK_draw, liteL, liteL2, dstsL, gL, List.getD_cons_zero, List.getD_cons_succ]
         try simp -implicitDefEqProofs (maxSteps := 4000000) (disch := first | omega | decide | (simp only [go_sem]; omega)) only [go_sem, ↓reduceIte]
         repeat (with_reducible refine And.intro (by first | assumption | omega | (simp; done) | (simp; omega)) ?_)
         refine bldG_of [.imm (.int .u8 (0 : Int)), .imm (.int .u8 (0 : Int)), .imm (.int .u8 (0 : Int)), .imm (.int .u8 (0 : Int)), .imm (.int .u8 (0 : Int)), .imm (.int .u8 (0 : Int)), .imm (.int .u8 (0 : Int)), .imm (.int .u8 (0 : Int)), .imm (.int .u8 (0 : Int)), .imm (.int .u8 (0 : Int)), .imm (.int .u8 (0 : Int)), .imm (.int .u8 (0 : Int)), .imm (.int .u8 (0 : Int)), .imm (.int .u8 (0 : Int)), .imm (.int .u8 (0 : Int)), .imm (.int .u8 (0 : Int))] (by kernel_rfl) ?_
         try simp -implicitDefEqProofs (maxSteps := 4000000) (disch := first | omega | decide | (simp only [go_sem]; omega)) only [go_sem, ↓reduceIte]
         repeat (with_reducible refine And.intro (by first | assumption | omega | (simp; done) | (simp; omega)) ?_)
         refine toEnd hC ?_
         refine endX_seq ?_
         refine runX_seq ?_
         refine runX_seq ?_
         refine runX_regionC fun C hC => ?_
         try simp -implicitDefEqProofs (maxSteps := 4000000) (disch := first | omega | decide | (simp only [go_sem]; omega)) only [go_sem, ↓reduceIte]
         repeat (with_reducible refine And.intro (by first | assumption | omega | (simp; done) | (simp; omega)) ?_)
         refine toEnd hC ?_
         refine endX_seq ?_
         refine runX_block ?_
         refine runX_unroll 16 ?_
         refine runX_seq ?_
         refine runX_seq ?_
         refine runX_regionC fun C hC => ?_
         try simp -implicitDefEqProofs (maxSteps := 4000000) (disch := first | omega | decide | (simp only [go_sem]; omega)) only [go_sem, ↓reduceIte]
         repeat (with_reducible refine And.intro (by first | assumption | omega | (simp; done) | (simp; omega)) ?_)
         refine toEnd hC ?_
         refine endX_seq ?_
         refine runX_condT rfl rfl ?_
         refine runX_skip ?_
         refine endX_seq ?_
         refine runX_seq ?_
         refine runX_block ?_
         refine runX_regionC fun C hC => ?_
         try simp -implicitDefEqProofs (maxSteps := 4000000) (disch := first | omega | decide | (simp only [go_sem]; omega)) only [go_sem, ↓reduceIte]
         repeat (with_reducible refine And.intro (by first | assumption | omega | (simp; done) | (simp; omega)) ?_)
         refine toEnd hC ?_
         refine endX_blk ?_
         refine endX_seq ?_
         refine runX_regionC fun C hC => ?_
         try simp -implicitDefEqProofs (maxSteps := 4000000) (disch := first | omega | decide | (simp only [go_sem]; omega)) only [go_sem, ↓reduceIte]
         repeat (with_reducible refine And.intro (by first | assumption | omega | (simp; done) | (simp; omega)) ?_)
         refine toEnd hC ?_
         refine endX_lp ?_
         refine runX_seq ?_
         refine runX_seq ?_
         refine runX_regionC fun C hC => ?_
         try simp -implicitDefEqProofs (maxSteps := 4000000) (disch := first | omega | decide | (simp only [go_sem]; omega)) only [go_sem, ↓reduceIte]
         repeat (with_reducible refine And.intro (by first | assumption | omega | (simp; done) | (simp; omega)) ?_)
         refine toEnd hC ?_
         refine endX_seq ?_
         refine runX_condT rfl rfl ?_
         refine runX_skip ?_
         refine endX_seq ?_
         refine runX_seq ?_
         refine runX_block ?_
         refine runX_regionC fun C hC => ?_
         try simp -implicitDefEqProofs (maxSteps := 4000000) (disch := first | omega | decide | (simp only [go_sem]; omega)) only [go_sem, ↓reduceIte]
         repeat (with_reducible refine And.intro (by first | assumption | omega | (simp; done) | (simp; omega)) ?_)
         refine toEnd hC ?_
         refine endX_blk ?_
         refine endX_seq ?_
         refine runX_regionC fun C hC => ?_
         try simp -implicitDefEqProofs (maxSteps := 4000000) (disch := first | omega | decide | (simp only [go_sem]; omega)) only [go_sem, ↓reduceIte]
         repeat (with_reducible refine And.intro (by first | assumption | omega | (simp; done) | (simp; omega)) ?_)
         refine toEnd hC ?_
         refine endX_lp ?_
         refine runX_seq ?_
         refine runX_seq ?_
         refine runX_regionC fun C hC => ?_
         try simp -implicitDefEqProofs (maxSteps := 4000000) (disch := first | omega | decide | (simp only [go_sem]; omega)) only [go_sem, ↓reduceIte]
         repeat (with_reducible refine And.intro (by first | assumption | omega | (simp; done) | (simp; omega)) ?_)
         refine toEnd hC ?_
         refine endX_seq ?_
         refine runX_condT rfl rfl ?_
         refine runX_skip ?_
         refine endX_seq ?_
         refine runX_seq ?_
         refine runX_block ?_
         refine runX_regionC fun C hC => ?_
         try simp -implicitDefEqProofs (maxSteps := 4000000) (disch := first | omega | decide | (simp only [go_sem]; omega)) only [go_sem, ↓reduceIte]
         repeat (with_reducible refine And.intro (by first | assumption | omega | (simp; done) | (simp; omega)) ?_)
         refine toEnd hC ?_
         refine endX_blk ?_
         refine endX_seq ?_
         refine runX_regionC fun C hC => ?_
         try simp -implicitDefEqProofs (maxSteps := 4000000) (disch := first | omega | decide | (simp only [go_sem]; omega)) only [go_sem, ↓reduceIte]
         repeat (with_reducible refine And.intro (by first | assumption | omega | (simp; done) | (simp; omega)) ?_)
         refine toEnd hC ?_
         refine endX_lp ?_
         refine runX_seq ?_
         refine runX_seq ?_
         refine runX_regionC fun C hC => ?_
         try simp -implicitDefEqProofs (maxSteps := 4000000) (disch := first | omega | decide | (simp only [go_sem]; omega)) only [go_sem, ↓reduceIte]
         repeat (with_reducible refine And.intro (by first | assumption | omega | (simp; done) | (simp; omega)) ?_)
         refine toEnd hC ?_
         refine endX_seq ?_
         refine runX_condT rfl rfl ?_
         refine runX_skip ?_
         refine endX_seq ?_
         refine runX_seq ?_
         refine runX_block ?_
         refine runX_regionC fun C hC => ?_
         try simp -implicitDefEqProofs (maxSteps := 4000000) (disch := first | omega | decide | (simp only [go_sem]; omega)) only [go_sem, ↓reduceIte]
         repeat (with_reducible refine And.intro (by first | assumption | omega | (simp; done) | (simp; omega)) ?_)
         refine toEnd hC ?_
         refine endX_blk ?_
         refine endX_seq ?_
         refine runX_regionC fun C hC => ?_
         try simp -implicitDefEqProofs (maxSteps := 4000000) (disch := first | omega | decide | (simp only [go_sem]; omega)) only [go_sem, ↓reduceIte]
         repeat (with_reducible refine And.intro (by first | assumption | omega | (simp; done) | (simp; omega)) ?_)
         refine toEnd hC ?_
         refine endX_lp ?_
         refine runX_seq ?_
         refine runX_seq ?_
         refine runX_regionC fun C hC => ?_
         try simp -implicitDefEqProofs (maxSteps := 4000000) (disch := first | omega | decide | (simp only [go_sem]; omega)) only [go_sem, ↓reduceIte]
         repeat (with_reducible refine And.intro (by first | assumption | omega | (simp; done) | (simp; omega)) ?_)
         refine toEnd hC ?_
         refine endX_seq ?_
         refine runX_condT rfl rfl ?_
         refine runX_skip ?_
         refine endX_seq ?_
         refine runX_seq ?_
         refine runX_block ?_
         refine runX_regionC fun C hC => ?_
         try simp -implicitDefEqProofs (maxSteps := 4000000) (disch := first | omega | decide | (simp only [go_sem]; omega)) only [go_sem, ↓reduceIte]
         repeat (with_reducible refine And.intro (by first | assumption | omega | (simp; done) | (simp; omega)) ?_)
         refine toEnd hC ?_
         refine endX_blk ?_
         refine endX_seq ?_
         refine runX_regionC fun C hC => ?_
         try simp -implicitDefEqProofs (maxSteps := 4000000) (disch := first | omega | decide | (simp only [go_sem]; omega)) only [go_sem, ↓reduceIte]
         repeat (with_reducible refine And.intro (by first | assumption | omega | (simp; done) | (simp; omega)) ?_)
         refine toEnd hC ?_
         refine endX_lp ?_
         refine runX_seq ?_
         refine runX_seq ?_
         refine runX_regionC fun C hC => ?_
         try simp -implicitDefEqProofs (maxSteps := 4000000) (disch := first | omega | decide | (simp only [go_sem]; omega)) only [go_sem, ↓reduceIte]
         repeat (with_reducible refine And.intro (by first | assumption | omega | (simp; done) | (simp; omega)) ?_)
         refine toEnd hC ?_
         refine endX_seq ?_
         refine runX_condT rfl rfl ?_
         refine runX_skip ?_
         refine endX_seq ?_
         refine runX_seq ?_
         refine runX_block ?_
         refine runX_regionC fun C hC => ?_
         try simp -implicitDefEqProofs (maxSteps := 4000000) (disch := first | omega | decide | (simp only [go_sem]; omega)) only [go_sem, ↓reduceIte]
         repeat (with_reducible refine And.intro (by first | assumption | omega | (simp; done) | (simp; omega)) ?_)
         refine toEnd hC ?_
         refine endX_blk ?_
         refine endX_seq ?_
         refine runX_regionC fun C hC => ?_
         try simp -implicitDefEqProofs (maxSteps := 4000000) (disch := first | omega | decide | (simp only [go_sem]; omega)) only [go_sem, ↓reduceIte]
         repeat (with_reducible refine And.intro (by first | assumption | omega | (simp; done) | (simp; omega)) ?_)
         refine toEnd hC ?_
         refine endX_lp ?_
         refine runX_seq ?_
         refine runX_seq ?_
         refine runX_regionC fun C hC => ?_
         try simp -implicitDefEqProofs (maxSteps := 4000000) (disch := first | omega | decide | (simp only [go_sem]; omega)) only [go_sem, ↓reduceIte]
         repeat (with_reducible refine And.intro (by first | assumption | omega | (simp; done) | (simp; omega)) ?_)
         refine toEnd hC ?_
         refine endX_seq ?_
         refine runX_condT rfl rfl ?_
         refine runX_skip ?_
         refine endX_seq ?_
         refine runX_seq ?_
         refine runX_block ?_
         refine runX_regionC fun C hC => ?_
         try simp -implicitDefEqProofs (maxSteps := 4000000) (disch := first | omega | decide | (simp only [go_sem]; omega)) only [go_sem, ↓reduceIte]
         repeat (with_reducible refine And.intro (by first | assumption | omega | (simp; done) | (simp; omega)) ?_)
         refine toEnd hC ?_
         refine endX_blk ?_
         refine endX_seq ?_
         refine runX_regionC fun C hC => ?_
         try simp -implicitDefEqProofs (maxSteps := 4000000) (disch := first | omega | decide | (simp only [go_sem]; omega)) only [go_sem, ↓reduceIte]
         repeat (with_reducible refine And.intro (by first | assumption | omega | (simp; done) | (simp; omega)) ?_)
         refine toEnd hC ?_
         refine endX_lp ?_
         refine runX_seq ?_
         refine runX_seq ?_
         refine runX_regionC fun C hC => ?_
         try simp -implicitDefEqProofs (maxSteps := 4000000) (disch := first | omega | decide | (simp only [go_sem]; omega)) only [go_sem, ↓reduceIte]
         repeat (with_reducible refine And.intro (by first | assumption | omega | (simp; done) | (simp; omega)) ?_)
         refine toEnd hC ?_
         refine endX_seq ?_
         refine runX_condT rfl rfl ?_
         refine runX_skip ?_
         refine endX_seq ?_
         refine runX_seq ?_
         refine runX_block ?_
         refine runX_regionC fun C hC => ?_
         try simp -implicitDefEqProofs (maxSteps := 4000000) (disch := first | omega | decide | (simp only [go_sem]; omega)) only [go_sem, ↓reduceIte]
         repeat (with_reducible refine And.intro (by first | assumption | omega | (simp; done) | (simp; omega)) ?_)
         refine toEnd hC ?_
         refine endX_blk ?_
         refine endX_seq ?_
         refine runX_regionC fun C hC => ?_
         try simp -implicitDefEqProofs (maxSteps := 4000000) (disch := first | omega | decide | (simp only [go_sem]; omega)) only [go_sem, ↓reduceIte]
         repeat (with_reducible refine And.intro (by first | assumption | omega | (simp; done) | (simp; omega)) ?_)
         refine toEnd hC ?_
         refine endX_lp ?_
         refine runX_seq ?_
         refine runX_seq ?_
         refine runX_regionC fun C hC => ?_
         try simp -implicitDefEqProofs (maxSteps := 4000000) (disch := first | omega | decide | (simp only [go_sem]; omega)) only [go_sem, ↓reduceIte]
         repeat (with_reducible refine And.intro (by first | assumption | omega | (simp; done) | (simp; omega)) ?_)
         refine toEnd hC ?_
         refine endX_seq ?_
         refine runX_condT rfl rfl ?_
         refine runX_skip ?_
         refine endX_seq ?_
         refine runX_seq ?_
         refine runX_block ?_
         refine runX_regionC fun C hC => ?_
         try simp -implicitDefEqProofs (maxSteps := 4000000) (disch := first | omega | decide | (simp only [go_sem]; omega)) only [go_sem, ↓reduceIte]
         repeat (with_reducible refine And.intro (by first | assumption | omega | (simp; done) | (simp; omega)) ?_)
         refine toEnd hC ?_
         refine endX_blk ?_
         refine endX_seq ?_
         refine runX_regionC fun C hC => ?_
         try simp -implicitDefEqProofs (maxSteps := 4000000) (disch := first | omega | decide | (simp only [go_sem]; omega)) only [go_sem, ↓reduceIte]
         repeat (with_reducible refine And.intro (by first | assumption | omega | (simp; done) | (simp; omega)) ?_)
         refine toEnd hC ?_
         refine endX_lp ?_
         refine runX_seq ?_
         refine runX_seq ?_
         refine runX_regionC fun C hC => ?_
         try simp -implicitDefEqProofs (maxSteps := 4000000) (disch := first | omega | decide | (simp only [go_sem]; omega)) only [go_sem, ↓reduceIte]
         repeat (with_reducible refine And.intro (by first | assumption | omega | (simp; done) | (simp; omega)) ?_)
         refine toEnd hC ?_
         refine endX_seq ?_
         refine runX_condT rfl rfl ?_
         refine runX_skip ?_
         refine endX_seq ?_
         refine runX_seq ?_
         refine runX_block ?_
         refine runX_regionC fun C hC => ?_
         try simp -implicitDefEqProofs (maxSteps := 4000000) (disch := first | omega | decide | (simp only [go_sem]; omega)) only [go_sem, ↓reduceIte]
         repeat (with_reducible refine And.intro (by first | assumption | omega | (simp; done) | (simp; omega)) ?_)
         refine toEnd hC ?_
         refine endX_blk ?_
         refine endX_seq ?_
         refine runX_regionC fun C hC => ?_
         try simp -implicitDefEqProofs (maxSteps := 4000000) (disch := first | omega | decide | (simp only [go_sem]; omega)) only [go_sem, ↓reduceIte]
         repeat (with_reducible refine And.intro (by first | assumption | omega | (simp; done) | (simp; omega)) ?_)
         refine toEnd hC ?_
         refine endX_lp ?_
         refine runX_seq ?_
         refine runX_seq ?_
         refine runX_regionC fun C hC => ?_
         try simp -implicitDefEqProofs (maxSteps := 4000000) (disch := first | omega | decide | (simp only [go_sem]; omega)) only [go_sem, ↓reduceIte]
         repeat (with_reducible refine And.intro (by first | assumption | omega | (simp; done) | (simp; omega)) ?_)
         refine toEnd hC ?_
         refine endX_seq ?_
         refine runX_condT rfl rfl ?_
         refine runX_skip ?_
         refine endX_seq ?_
         refine runX_seq ?_
         refine runX_block ?_
         refine runX_regionC fun C hC => ?_
         try simp -implicitDefEqProofs (maxSteps := 4000000) (disch := first | omega | decide | (simp only [go_sem]; omega)) only [go_sem, ↓reduceIte]
         repeat (with_reducible refine And.intro (by first | assumption | omega | (simp; done) | (simp; omega)) ?_)
         refine toEnd hC ?_
         refine endX_blk ?_
         refine endX_seq ?_
         refine runX_regionC fun C hC => ?_
         try simp -implicitDefEqProofs (maxSteps := 4000000) (disch := first | omega | decide | (simp only [go_sem]; omega)) only [go_sem, ↓reduceIte]
         repeat (with_reducible refine And.intro (by first | assumption | omega | (simp; done) | (simp; omega)) ?_)
         refine toEnd hC ?_
         refine endX_lp ?_
         refine runX_seq ?_
         refine runX_seq ?_
         refine runX_regionC fun C hC => ?_
         try simp -implicitDefEqProofs (maxSteps := 4000000) (disch := first | omega | decide | (simp only [go_sem]; omega)) only [go_sem, ↓reduceIte]
         repeat (with_reducible refine And.intro (by first | assumption | omega | (simp; done) | (simp; omega)) ?_)
         refine toEnd hC ?_
         refine endX_seq ?_
         refine runX_condT rfl rfl ?_
         refine runX_skip ?_
         refine endX_seq ?_
         refine runX_seq ?_
         refine runX_block ?_
         refine runX_regionC fun C hC => ?_
         try simp -implicitDefEqProofs (maxSteps := 4000000) (disch := first | omega | decide | (simp only [go_sem]; omega)) only [go_sem, ↓reduceIte]
         repeat (with_reducible refine And.intro (by first | assumption | omega | (simp; done) | (simp; omega)) ?_)
         refine toEnd hC ?_
         refine endX_blk ?_
         refine endX_seq ?_
         refine runX_regionC fun C hC => ?_
         try simp -implicitDefEqProofs (maxSteps := 4000000) (disch := first | omega | decide | (simp only [go_sem]; omega)) only [go_sem, ↓reduceIte]
         repeat (with_reducible refine And.intro (by first | assumption | omega | (simp; done) | (simp; omega)) ?_)
         refine toEnd hC ?_
         refine endX_lp ?_
         refine runX_seq ?_
         refine runX_seq ?_
         refine runX_regionC fun C hC => ?_
         try simp -implicitDefEqProofs (maxSteps := 4000000) (disch := first | omega | decide | (simp only [go_sem]; omega)) only [go_sem, ↓reduceIte]
         repeat (with_reducible refine And.intro (by first | assumption | omega | (simp; done) | (simp; omega)) ?_)
         refine toEnd hC ?_
         refine endX_seq ?_
         refine runX_condT rfl rfl ?_
         refine runX_skip ?_
         refine endX_seq ?_
         refine runX_seq ?_
         refine runX_block ?_
         refine runX_regionC fun C hC => ?_
         try simp -implicitDefEqProofs (maxSteps := 4000000) (disch := first | omega | decide | (simp only [go_sem]; omega)) only [go_sem, ↓reduceIte]
         repeat (with_reducible refine And.intro (by first | assumption | omega | (simp; done) | (simp; omega)) ?_)
         refine toEnd hC ?_
         refine endX_blk ?_
         refine endX_seq ?_
         refine runX_regionC fun C hC => ?_
         try simp -implicitDefEqProofs (maxSteps := 4000000) (disch := first | omega | decide | (simp only [go_sem]; omega)) only [go_sem, ↓reduceIte]
         repeat (with_reducible refine And.intro (by first | assumption | omega | (simp; done) | (simp; omega)) ?_)
         refine toEnd hC ?_
         refine endX_lp ?_
         refine runX_seq ?_
         refine runX_seq ?_
         refine runX_regionC fun C hC => ?_
         try simp -implicitDefEqProofs (maxSteps := 4000000) (disch := first | omega | decide | (simp only [go_sem]; omega)) only [go_sem, ↓reduceIte]
         repeat (with_reducible refine And.intro (by first | assumption | omega | (simp; done) | (simp; omega)) ?_)
         refine toEnd hC ?_
         refine endX_seq ?_
         refine runX_condT rfl rfl ?_
         refine runX_skip ?_
         refine endX_seq ?_
         refine runX_seq ?_
         refine runX_block ?_
         refine runX_regionC fun C hC => ?_
         try simp -implicitDefEqProofs (maxSteps := 4000000) (disch := first | omega | decide | (simp only [go_sem]; omega)) only [go_sem, ↓reduceIte]
         repeat (with_reducible refine And.intro (by first | assumption | omega | (simp; done) | (simp; omega)) ?_)
         refine toEnd hC ?_
         refine endX_blk ?_
         refine endX_seq ?_
         refine runX_regionC fun C hC => ?_
         try simp -implicitDefEqProofs (maxSteps := 4000000) (disch := first | omega | decide | (simp only [go_sem]; omega)) only [go_sem, ↓reduceIte]
         repeat (with_reducible refine And.intro (by first | assumption | omega | (simp; done) | (simp; omega)) ?_)
         refine toEnd hC ?_
         refine endX_lp ?_
         refine runX_seq ?_
         refine runX_seq ?_
         refine runX_regionC fun C hC => ?_
         try simp -implicitDefEqProofs (maxSteps := 4000000) (disch := first | omega | decide | (simp only [go_sem]; omega)) only [go_sem, ↓reduceIte]
         repeat (with_reducible refine And.intro (by first | assumption | omega | (simp; done) | (simp; omega)) ?_)
         refine toEnd hC ?_
         refine endX_seq ?_
         refine runX_condT rfl rfl ?_
         refine runX_skip ?_
         refine endX_seq ?_
         refine runX_seq ?_
         refine runX_block ?_
         refine runX_regionC fun C hC => ?_
         try simp -implicitDefEqProofs (maxSteps := 4000000) (disch := first | omega | decide | (simp only [go_sem]; omega)) only [go_sem, ↓reduceIte]
         repeat (with_reducible refine And.intro (by first | assumption | omega | (simp; done) | (simp; omega)) ?_)
         refine toEnd hC ?_
         refine endX_blk ?_
         refine endX_seq ?_
         refine runX_regionC fun C hC => ?_
         try simp -implicitDefEqProofs (maxSteps := 4000000) (disch := first | omega | decide | (simp only [go_sem]; omega)) only [go_sem, ↓reduceIte]
         repeat (with_reducible refine And.intro (by first | assumption | omega | (simp; done) | (simp; omega)) ?_)
         refine toEnd hC ?_
         refine endX_lp ?_
         refine runX_seq ?_
         refine runX_seq ?_
         refine runX_regionC fun C hC => ?_
         try simp -implicitDefEqProofs (maxSteps := 4000000) (disch := first | omega | decide | (simp only [go_sem]; omega)) only [go_sem, ↓reduceIte]
         repeat (with_reducible refine And.intro (by first | assumption | omega | (simp; done) | (simp; omega)) ?_)
         refine toEnd hC ?_
         refine endX_seq ?_
         refine runX_condT rfl rfl ?_
         refine runX_skip ?_
         refine endX_seq ?_
         refine runX_seq ?_
         refine runX_block ?_
         refine runX_regionC fun C hC => ?_
         try simp -implicitDefEqProofs (maxSteps := 4000000) (disch := first | omega | decide | (simp only [go_sem]; omega)) only [go_sem, ↓reduceIte]
         repeat (with_reducible refine And.intro (by first | assumption | omega | (simp; done) | (simp; omega)) ?_)
         refine toEnd hC ?_
         refine endX_blk ?_
         refine endX_seq ?_
         refine runX_regionC fun C hC => ?_
         try simp -implicitDefEqProofs (maxSteps := 4000000) (disch := first | omega | decide | (simp only [go_sem]; omega)) only [go_sem, ↓reduceIte]
         repeat (with_reducible refine And.intro (by first | assumption | omega | (simp; done) | (simp; omega)) ?_)
         refine toEnd hC ?_
         refine endX_lp ?_
         refine runX_seq ?_
         refine runX_seq ?_
         refine runX_regionC fun C hC => ?_
         try simp -implicitDefEqProofs (maxSteps := 4000000) (disch := first | omega | decide | (simp only [go_sem]; omega)) only [go_sem, ↓reduceIte]
         repeat (with_reducible refine And.intro (by first | assumption | omega | (simp; done) | (simp; omega)) ?_)
         refine toEnd hC ?_
         refine endX_seq ?_
         refine runX_condF rfl rfl ?_
         refine runX_exit ?_
         refine endX_seqE ?_
         refine endX_lpE ?_
         refine endX_blkE ?_
         refine endX_seq ?_
         refine runX_seq ?_
         refine runX_regionC fun C hC => ?_
         try simp -implicitDefEqProofs (maxSteps := 4000000) (disch := first | omega | decide | (simp only [go_sem]; omega)) only [go_sem, ↓reduceIte]
         repeat (with_reducible refine And.intro (by first | assumption | omega | (simp; done) | (simp; omega)) ?_)
         refine toEnd hC ?_
         refine endX_seq ?_
         refine runX_ret ?_
         refine endX_q ?_
         obtain rfl := Option.some.inj h
         show RetW _ _ _ _ _
         simp only [RetW]
         (try simp -implicitDefEqProofs (maxSteps := 4000000) (disch := first | omega | decide | (simp only [go_sem]; omega)) only [go_sem, ↓reduceIte])
         (try simp (disch := omega) only [if_pos, Nat.sub_zero])
         exact leT_refl _
end Go.Proofs.YtaiapalhdejngaaX

set_option linter.unusedVariables false
set_option linter.unusedSimpArgs false
namespace Go.Proofs.YtaiapalhdejngaaX
open Go Go.RowKit Go.Proofs
set_option maxRecDepth 100000
attribute [local go_sem ↓] stepsK_build stepsK_bs appendS
attribute [local go_sem] String.reduceEq String.reduceNe reduceCtorEq Int.reduceEq Nat.reduceAdd Nat.reduceSub Nat.reduceMul Nat.reduceLT Nat.reduceLeDiff Nat.reduceEqDiff Nat.reduceBEq Int.reduceToNat Int.reduceLT Int.reduceLE Int.reduceGT Int.reduceGE Int.reduceAdd Int.reduceSub Int.reduceMul Int.reduceNeg Int.reduceBEq Int.reduceBNe Int.reducePow Int.reduceDiv Int.reduceMod Int.reduceTDiv Int.reduceTMod Int.reduceNatCast
/-! ### shadowboxref11.Sum -/
def F77_S1 (x2 : List (Int)) (x3 : Int) (x4 : Int) (x5 : Int) (x6 : Int) (x7 : Int) : St := ⟨[.sl 1 false (List.map byteT x2), .junk, .ref 0 0 0 0, .ref 1 0 0 0, .junk, .junk, .junk, .junk, .junk, .junk, .junk, .junk, .junk, .junk, .junk, .junk, .junk], [some (.box 70 (.agg [.imm (.int .u8 (0 : Int)), .imm (.int .u8 (0 : Int)), .imm (.int .u8 (0 : Int)), .imm (.int .u8 (0 : Int)), .imm (.int .u8 (0 : Int)), .imm (.int .u8 (0 : Int)), .imm (.int .u8 (0 : Int)), .imm (.int .u8 (0 : Int)), .imm (.int .u8 (0 : Int)), .imm (.int .u8 (0 : Int)), .imm (.int .u8 (0 : Int)), .imm (.int .u8 (0 : Int)), .imm (.int .u8 (0 : Int)), .imm (.int .u8 (0 : Int)), .imm (.int .u8 (0 : Int)), .imm (.int .u8 (0 : Int))]) false), some (.box 132 (.agg [.imm (.int .u32 x3), .imm (.int .u32 x4), .imm (.int .u32 x5), .imm (.int .u32 x6), .imm (.int .u64 x7)]) false)]⟩
def F77_L1 : Nat → (List (Int)) → (Int) → (Int) → (Int) → (Int) → (Int) → Option (List (Int))
 | 0, _, _, _, _, _, _ => none
 | m1 + 1, x2, x3, x4, x5, x6, x7 => iteB (decide ((64 : Int) ≤ (x2.length : Int))) (grd ((64 : Int) ≤ (x2.length : Int)) ((F101 m1 ([x3, x4, x5, x6], x7) (x2.take 64)).bind fun v10 => grd ((64 : Int) ≤ (x2.length : Int)) (F77_L1 m1 (x2.drop 64) (v10.1.getD 0 default) (v10.1.getD 1 default) (v10.1.getD 2 default) (v10.1.getD 3 default) v10.2))) ((F102 m1 ([x3, x4, x5, x6], x7) x2).bind fun v12 => grd (v12.length = 16) (grd (16 ≤ v12.length) (some (v12.take 16))))
def F77 (n : Nat) (a0 : List (Int)) : Option (List (Int)) := (F100 n ).bind fun v1 => F77_L1 n a0 (v1.1.getD 0 default) (v1.1.getD 1 default) (v1.1.getD 2 default) (v1.1.getD 3 default) v1.2
set_option maxHeartbeats 4000000 in
theorem F77_ok : ∀ (n : Nat) (a0 : List (Int)) (r : List (Int)), F77 n a0 = some r → FnC Try.prog 77 [.sl 1 false (List.map byteT a0)] (.agg (List.map byteT r))
 | n, a0, r, h => by
  unfold F77 at h
  refine FnC.goX mixed Try.func77 (by kernel_rfl) rfl ?_
  simp only [Try.ntmps77, List.length_cons, List.length_nil, List.replicate, List.cons_append, List.nil_append, Nat.reduceAdd, Nat.reduceSub]
  refine runX_seq ?_
  refine runX_regionC fun C hC => ?_
  try simp -implicitDefEqProofs (disch := omega) only [go_sem, ↓reduceIte]
  refine toEnd hC ?_
  refine endX_seq ?_
  refine runX_seq ?_
  refine runX_regionC fun C hC => ?_
  simp only [runK_region, runK_draw, liteL, liteL2, dstsL, gL, List.getD_cons_zero, List.getD_cons_succ]
  obtain ⟨v1, h1, h⟩ := bnd_some h
  try simp -implicitDefEqProofs (maxSteps := 4000000) (disch := first | omega | decide | (simp only [go_sem]; omega)) only [go_sem, ↓reduceIte]
  repeat (with_reducible refine And.intro (by first | assumption | omega | (simp; done) | (simp; omega)) ?_)
  refine callG_X (by first | rfl | (simp only [go_sem]; done) | (simp only [closedL, closedT, Bool.and_true]; exact closedL_map _ (fun _ => by first | rfl | (simp only [go_sem]; done)) _)) (F100_ok n  _ h1) (by repeat (first | exact leL_refl _ | refine leL_cons (by first | exact leT_refl _ | exact leT_virt | exact leT_junk _ | exact leT_sl | exact leT_sln | exact leT_nil | (refine leT_agg (by repeat (first | exact leL_refl _ | refine leL_cons (by first | exact leT_refl _ | exact leT_sl | exact leT_sln | exact leT_nil) ?_)))) ?_)) ?_
  try simp -implicitDefEqProofs (maxSteps := 4000000) (disch := first | omega | decide | (simp only [go_sem]; omega)) only [go_sem, ↓reduceIte]
  repeat (with_reducible refine And.intro (by first | assumption | omega | (simp; done) | (simp; omega)) ?_)
  refine toEnd hC ?_
  refine endX_seq ?_
  refine runX_seq ?_
  refine runX_block ?_
  refine runX_loop [0, 2, 3] (fun m S => ∃ (x2 : List (Int)) (x3 : Int) (x4 : Int) (x5 : Int) (x6 : Int) (x7 : Int), S = F77_S1 x2 x3 x4 x5 x6 x7 ∧ m ≤ n ∧ F77_L1 m x2 x3 x4 x5 x6 x7 = some r) n ⟨F77_S1 a0 (v1.1.getD 0 default) (v1.1.getD 1 default) (v1.1.getD 2 default) (v1.1.getD 3 default) v1.2, ?_, a0, (v1.1.getD 0 default), (v1.1.getD 1 default), (v1.1.getD 2 default), (v1.1.getD 3 default), v1.2, rfl, Nat.le_refl _, h⟩ ?_
  ·simp only [F77_S1]
   (try simp -implicitDefEqProofs (disch := omega) only [go_sem, ↓reduceIte])
   exact leS_refl _
  ·clear h
   rintro m1 S ⟨x2, x3, x4, x5, x6, x7, rfl, hm1, h⟩
   cases m1 with
   | zero => first | cases (show (none : Option _) = some _ from h) | (rw [F77_L1] at h; cases h)
   | succ m1 =>
    rw [F77_L1] at h
    simp only [F77_S1]
    refine runX_seq ?_
    refine runX_seq ?_
    refine runX_regionC fun C hC => ?_
    try simp -implicitDefEqProofs (maxSteps := 4000000) (disch := first | omega | decide | (simp only [go_sem]; omega)) only [go_sem, ↓reduceIte]
    repeat (with_reducible refine And.intro (by first | assumption | omega | (simp; done) | (simp; omega)) ?_)
    refine toEnd hC ?_
    refine endX_seq ?_
    rcases iteB_some h with ⟨c8, h⟩ | ⟨c8, h⟩
    ·refine runX_condT rfl c8 ?_
     refine runX_skip ?_
     refine endX_seq ?_
     refine runX_block ?_
     refine runX_seq ?_
     refine runX_drawC mixed (by kernel_rfl) fun C hC => ?_
     obtain ⟨g9, h⟩ := grd_some h
     obtain ⟨v10, h10, h⟩ := bnd_some h
     try simp -implicitDefEqProofs (maxSteps := 4000000) (disch := first | omega | decide | (simp only [go_sem]; omega)) only [go_sem, ↓reduceIte]
     repeat (with_reducible refine And.intro (by first | assumption | omega | (simp; done) | (simp; omega)) ?_)
     refine callD_X (F101_ok m1 ([x3, x4, x5, x6], x7) (x2.take 64) _ h10) (by repeat (first | exact leL_refl _ | refine leL_cons (by first | exact leT_refl _ | exact leT_virt | exact leT_junk _ | exact leT_sl | exact leT_sln | exact leT_nil | (refine leT_agg (by repeat (first | exact leL_refl _ | refine leL_cons (by first | exact leT_refl _ | exact leT_sl | exact leT_sln | exact leT_nil) ?_)))) ?_)) ?_
     try simp -implicitDefEqProofs (maxSteps := 4000000) (disch := first | omega | decide | (simp only [go_sem]; omega)) only [go_sem, ↓reduceIte]
     repeat (with_reducible refine And.intro (by first | assumption | omega | (simp; done) | (simp; omega)) ?_)
     refine toEnd hC ?_
     refine endX_seq ?_
     refine runX_regionC fun C hC => ?_
     obtain ⟨g11, h⟩ := grd_some h
     try simp -implicitDefEqProofs (maxSteps := 4000000) (disch := first | omega | decide | (simp only [go_sem]; omega)) only [go_sem, ↓reduceIte]
     repeat (with_reducible refine And.intro (by first | assumption | omega | (simp; done) | (simp; omega)) ?_)
     refine toEnd hC ?_
     refine endX_blk ?_
     refine endX_q (roundQ_normal ⟨m1, by omega, F77_S1 (x2.drop 64) (v10.1.getD 0 default) (v10.1.getD 1 default) (v10.1.getD 2 default) (v10.1.getD 3 default) v10.2, ?_, (x2.drop 64), (v10.1.getD 0 default), (v10.1.getD 1 default), (v10.1.getD 2 default), (v10.1.getD 3 default), v10.2, rfl, by omega, h⟩)
     simp only [F77_S1]
     (try simp -implicitDefEqProofs (maxSteps := 4000000) (disch := first | omega | decide | (simp only [go_sem]; omega)) only [go_sem, ↓reduceIte])
     first | exact leS_refl _ | (refine leS_le ?_ ?_ <;> first | exact leL_refl _ | exact leOs_refl _ | (simp only [List.append_assoc, List.cons_append, List.nil_append]; exact leOs_refl _) | (repeat (first | exact leL_refl _ | refine leL_cons (by first | exact leT_refl _ | exact leT_virt | exact leT_junk _ | exact leT_sl | exact leT_sln | exact leT_nil | (refine leT_agg (by repeat (first | exact leL_refl _ | refine leL_cons (by first | exact leT_refl _ | exact leT_sl | exact leT_sln | exact leT_nil) ?_)))) ?_)))
    ·refine runX_condF rfl c8 ?_
     refine runX_exit ?_
     refine endX_seqE ?_
     refine endX_q (roundQ_exit ?_)
     refine endX_blkE ?_
     refine endX_seq ?_
     refine runX_seq ?_
     refine runX_regionC fun C hC => ?_
     obtain ⟨v12, h12, h⟩ := bnd_some h
     try simp -implicitDefEqProofs (maxSteps := 4000000) (disch := first | omega | decide | (simp only [go_sem]; omega)) only [go_sem, ↓reduceIte]
     repeat (with_reducible refine And.intro (by first | assumption | omega | (simp; done) | (simp; omega)) ?_)
     refine callG_X (by first | rfl | (simp only [go_sem]; done) | (simp only [closedL, closedT, Bool.and_true]; exact closedL_map _ (fun _ => by first | rfl | (simp only [go_sem]; done)) _)) (F102_ok m1 ([x3, x4, x5, x6], x7) x2 _ h12) (by repeat (first | exact leL_refl _ | refine leL_cons (by first | exact leT_refl _ | exact leT_virt | exact leT_junk _ | exact leT_sl | exact leT_sln | exact leT_nil | (refine leT_agg (by repeat (first | exact leL_refl _ | refine leL_cons (by first | exact leT_refl _ | exact leT_sl | exact leT_sln | exact leT_nil) ?_)))) ?_)) ?_
     obtain ⟨g13, h⟩ := grd_some h
     have e14 : List.drop v12.length ([.imm (.int .u8 (0 : Int)), .imm (.int .u8 (0 : Int)), .imm (.int .u8 (0 : Int)), .imm (.int .u8 (0 : Int)), .imm (.int .u8 (0 : Int)), .imm (.int .u8 (0 : Int)), .imm (.int .u8 (0 : Int)), .imm (.int .u8 (0 : Int)), .imm (.int .u8 (0 : Int)), .imm (.int .u8 (0 : Int)), .imm (.int .u8 (0 : Int)), .imm (.int .u8 (0 : Int)), .imm (.int .u8 (0 : Int)), .imm (.int .u8 (0 : Int)), .imm (.int .u8 (0 : Int)), .imm (.int .u8 (0 : Int))] : List T) = [] := drop_all (by first | (simp only [List.length_cons, List.length_nil]; omega) | (simp; omega))
     try simp -implicitDefEqProofs (maxSteps := 4000000) (disch := first | omega | decide | (simp only [go_sem]; omega)) only [go_sem, ↓reduceIte, e14]
     repeat (with_reducible refine And.intro (by first | assumption | omega | (simp; done) | (simp; omega)) ?_)
     refine toEnd hC ?_
     refine endX_seq ?_
     refine runX_ret ?_
     refine endX_q ?_
     obtain ⟨g15, h⟩ := grd_some h
     obtain rfl := Option.some.inj h
     show RetW _ _ _ _ _
     simp only [RetW]
     (try simp -implicitDefEqProofs (maxSteps := 4000000) (disch := first | omega | decide | (simp only [go_sem]; omega)) only [go_sem, ↓reduceIte])
     repeat (with_reducible refine And.intro (by first | assumption | omega | (simp; done) | (simp; omega)) ?_)
     (try simp (disch := omega) only [if_pos, Nat.sub_zero])
     exact leT_refl _
end Go.Proofs.YtaiapalhdejngaaX

set_option linter.unusedVariables false
set_option linter.unusedSimpArgs false
namespace Go.Proofs.YtaiapalhdejngaaX
open Go Go.RowKit Go.Proofs
set_option maxRecDepth 100000
attribute [local go_sem ↓] stepsK_build stepsK_bs appendS
attribute [local go_sem] String.reduceEq String.reduceNe reduceCtorEq Int.reduceEq Nat.reduceAdd Nat.reduceSub Nat.reduceMul Nat.reduceLT Nat.reduceLeDiff Nat.reduceEqDiff Nat.reduceBEq Int.reduceToNat Int.reduceLT Int.reduceLE Int.reduceGT Int.reduceGE Int.reduceAdd Int.reduceSub Int.reduceMul Int.reduceNeg Int.reduceBEq Int.reduceBNe Int.reducePow Int.reduceDiv Int.reduceMod Int.reduceTDiv Int.reduceTMod Int.reduceNatCast
/-! ### shadowboxref11.Text -/
def F40_S1 (v1 : List (Int)) (x4 : List UInt8) (x5 : Int) : St := ⟨[.junk, .junk, .junk, .ref 0 0 0 0, .imm (.string (bs x4)), .imm (.int .i64 x5), .junk, .junk, .junk, .junk, .junk, .junk, .junk, .junk, .junk, .junk, .junk, .junk, .junk, .junk, .junk, .junk, .junk, .junk, .junk, .junk, .junk, .junk, .junk, .junk, .junk, .junk, .junk, .junk, .junk, .junk], [some (.box 70 (.agg (List.map byteT v1)) false)]⟩
def F40_L1 : Nat → (List (Int)) → (List UInt8) → (Int) → Option (List UInt8)
 | 0, _, _, _ => none
 | m1 + 1, v1, x4, x5 => iteB (decide (x5 < (16 : Int))) (grd (0 ≤ x5 ∧ x5 < (16 : Int)) (grd (x5.toNat < v1.length) (grd (0 ≤ x5 ∧ x5 < (16 : Int)) (grd (x5.toNat < v1.length) (grd (0 ≤ (IntKind.wrap .u8 ((v1.getD x5.toNat default).tdiv (16 : Int))) ∧ (IntKind.wrap .u8 ((v1.getD x5.toNat default).tdiv (16 : Int))) ≤ (IntKind.wrap .u8 ((IntKind.wrap .u8 ((v1.getD x5.toNat default).tdiv (16 : Int))) + (1 : Int))) ∧ (IntKind.wrap .u8 ((IntKind.wrap .u8 ((v1.getD x5.toNat default).tdiv (16 : Int))) + (1 : Int))) ≤ (16 : Int)) (grd (x4.length + ((([48, 49, 50, 51, 52, 53, 54, 55, 56, 57, 97, 98, 99, 100, 101, 102] : List UInt8).take (IntKind.wrap .u8 ((IntKind.wrap .u8 ((v1.getD x5.toNat default).tdiv (16 : Int))) + (1 : Int))).toNat).drop (IntKind.wrap .u8 ((v1.getD x5.toNat default).tdiv (16 : Int))).toNat).length ≤ 9223372036854775807) (grd (0 ≤ x5 ∧ x5 < (16 : Int)) (grd (x5.toNat < v1.length) (grd (0 ≤ x5 ∧ x5 < (16 : Int)) (grd (x5.toNat < v1.length) (grd (0 ≤ ((v1.getD x5.toNat default).tmod (16 : Int)) ∧ ((v1.getD x5.toNat default).tmod (16 : Int)) ≤ (IntKind.wrap .u8 (((v1.getD x5.toNat default).tmod (16 : Int)) + (1 : Int))) ∧ (IntKind.wrap .u8 (((v1.getD x5.toNat default).tmod (16 : Int)) + (1 : Int))) ≤ (16 : Int)) (grd ((x4.length + ((([48, 49, 50, 51, 52, 53, 54, 55, 56, 57, 97, 98, 99, 100, 101, 102] : List UInt8).take (IntKind.wrap .u8 ((IntKind.wrap .u8 ((v1.getD x5.toNat default).tdiv (16 : Int))) + (1 : Int))).toNat).drop (IntKind.wrap .u8 ((v1.getD x5.toNat default).tdiv (16 : Int))).toNat).length) + ((([48, 49, 50, 51, 52, 53, 54, 55, 56, 57, 97, 98, 99, 100, 101, 102] : List UInt8).take (IntKind.wrap .u8 (((v1.getD x5.toNat default).tmod (16 : Int)) + (1 : Int))).toNat).drop ((v1.getD x5.toNat default).tmod (16 : Int)).toNat).length ≤ 9223372036854775807) (F40_L1 m1 v1 ((x4 ++ ((([48, 49, 50, 51, 52, 53, 54, 55, 56, 57, 97, 98, 99, 100, 101, 102] : List UInt8).take (IntKind.wrap .u8 ((IntKind.wrap .u8 ((v1.getD x5.toNat default).tdiv (16 : Int))) + (1 : Int))).toNat).drop (IntKind.wrap .u8 ((v1.getD x5.toNat default).tdiv (16 : Int))).toNat)) ++ ((([48, 49, 50, 51, 52, 53, 54, 55, 56, 57, 97, 98, 99, 100, 101, 102] : List UInt8).take (IntKind.wrap .u8 (((v1.getD x5.toNat default).tmod (16 : Int)) + (1 : Int))).toNat).drop ((v1.getD x5.toNat default).tmod (16 : Int)).toNat)) (IntKind.wrap .i64 (x5 + (1 : Int)))))))))))))))) (some x4)
def F40 (n : Nat) (a0 : List (Int)) : Option (List UInt8) := (F77 n a0).bind fun v1 => grd (v1.length = 16) (F40_L1 n v1 [] (0 : Int))
set_option maxHeartbeats 4000000 in
theorem F40_ok : ∀ (n : Nat) (a0 : List (Int)) (r : List UInt8), F40 n a0 = some r → FnC Try.prog 40 [.sl 1 false (List.map byteT a0)] (.imm (.string (bs r)))
 | n, a0, r, h => by
  unfold F40 at h
  refine FnC.goX mixed Try.func40 (by kernel_rfl) rfl ?_
  simp only [Try.ntmps40, List.length_cons, List.length_nil, List.replicate, List.cons_append, List.nil_append, Nat.reduceAdd, Nat.reduceSub]
  refine runX_seq ?_
  refine runX_regionC fun C hC => ?_
  try simp -implicitDefEqProofs (disch := omega) only [go_sem, ↓reduceIte]
  refine toEnd hC ?_
  refine endX_seq ?_
  refine runX_seq ?_
  refine runX_regionC fun C hC => ?_
  obtain ⟨v1, h1, h⟩ := bnd_some h
  try simp -implicitDefEqProofs (maxSteps := 4000000) (disch := first | omega | decide | (simp only [go_sem]; omega)) only [go_sem, ↓reduceIte]
  repeat (with_reducible refine And.intro (by first | assumption | omega | (simp; done) | (simp; omega)) ?_)
  refine callG_X (by first | rfl | (simp only [go_sem]; done) | (simp only [closedL, closedT, Bool.and_true]; exact closedL_map _ (fun _ => by first | rfl | (simp only [go_sem]; done)) _)) (F77_ok n a0 _ h1) (by repeat (first | exact leL_refl _ | refine leL_cons (by first | exact leT_refl _ | exact leT_virt | exact leT_junk _ | exact leT_sl | exact leT_sln | exact leT_nil | (refine leT_agg (by repeat (first | exact leL_refl _ | refine leL_cons (by first | exact leT_refl _ | exact leT_sl | exact leT_sln | exact leT_nil) ?_)))) ?_)) ?_
  obtain ⟨g2, h⟩ := grd_some h
  have e3 : List.drop v1.length ([.imm (.int .u8 (0 : Int)), .imm (.int .u8 (0 : Int)), .imm (.int .u8 (0 : Int)), .imm (.int .u8 (0 : Int)), .imm (.int .u8 (0 : Int)), .imm (.int .u8 (0 : Int)), .imm (.int .u8 (0 : Int)), .imm (.int .u8 (0 : Int)), .imm (.int .u8 (0 : Int)), .imm (.int .u8 (0 : Int)), .imm (.int .u8 (0 : Int)), .imm (.int .u8 (0 : Int)), .imm (.int .u8 (0 : Int)), .imm (.int .u8 (0 : Int)), .imm (.int .u8 (0 : Int)), .imm (.int .u8 (0 : Int))] : List T) = [] := drop_all (by first | (simp only [List.length_cons, List.length_nil]; omega) | (simp; omega))
  try simp -implicitDefEqProofs (maxSteps := 4000000) (disch := first | omega | decide | (simp only [go_sem]; omega)) only [go_sem, ↓reduceIte, e3]
  repeat (with_reducible refine And.intro (by first | assumption | omega | (simp; done) | (simp; omega)) ?_)
  refine toEnd hC ?_
  refine endX_seq ?_
  refine runX_seq ?_
  refine runX_regionC fun C hC => ?_
  try simp -implicitDefEqProofs (disch := omega) only [go_sem, ↓reduceIte]
  refine toEnd hC ?_
  refine endX_seq ?_
  refine runX_seq ?_
  refine runX_seq ?_
  refine runX_regionC fun C hC => ?_
  try simp -implicitDefEqProofs (disch := omega) only [go_sem, ↓reduceIte]
  refine toEnd hC ?_
  refine endX_seq ?_
  refine runX_block ?_
  refine runX_loop [3, 4, 5] (fun m S => ∃ (x4 : List UInt8) (x5 : Int), S = F40_S1 v1 x4 x5 ∧ m ≤ n ∧ F40_L1 m v1 x4 x5 = some r) n ⟨F40_S1 v1 [] (0 : Int), ?_, [], (0 : Int), rfl, Nat.le_refl _, h⟩ ?_
  ·simp only [F40_S1]
   (try simp -implicitDefEqProofs (disch := omega) only [go_sem, ↓reduceIte])
   exact leS_refl _
  ·clear h
   rintro m1 S ⟨x4, x5, rfl, hm1, h⟩
   cases m1 with
   | zero => first | cases (show (none : Option _) = some _ from h) | (rw [F40_L1] at h; cases h)
   | succ m1 =>
    rw [F40_L1] at h
    simp only [F40_S1]
    refine runX_seq ?_
    refine runX_seq ?_
    refine runX_regionC fun C hC => ?_
    try simp -implicitDefEqProofs (disch := omega) only [go_sem, ↓reduceIte]
    refine toEnd hC ?_
    refine endX_seq ?_
    rcases iteB_some h with ⟨c6, h⟩ | ⟨c6, h⟩
    ·refine runX_condT rfl c6 ?_
     refine runX_skip ?_
     refine endX_seq ?_
     refine runX_seq ?_
     refine runX_block ?_
     refine runX_drawC mixed (by kernel_rfl) fun C hC => ?_
     obtain ⟨g7, h⟩ := grd_some h
     obtain ⟨g8, h⟩ := grd_some h
     obtain ⟨g9, h⟩ := grd_some h
     obtain ⟨g10, h⟩ := grd_some h
     obtain ⟨g11, h⟩ := grd_some h
     obtain ⟨g12, h⟩ := grd_some h
     obtain ⟨g13, h⟩ := grd_some h
     obtain ⟨g14, h⟩ := grd_some h
     obtain ⟨g15, h⟩ := grd_some h
     obtain ⟨g16, h⟩ := grd_some h
     obtain ⟨g17, h⟩ := grd_some h
     obtain ⟨g18, h⟩ := grd_some h
     try simp -implicitDefEqProofs (maxSteps := 4000000) (disch := first | omega | decide | (simp only [go_sem]; omega)) only [go_sem, ↓reduceIte]
     repeat (with_reducible refine And.intro (by first | assumption | omega | (simp; done) | (simp; omega)) ?_)
     refine toEnd hC ?_
     refine endX_blk ?_
     refine endX_seq ?_
     refine runX_regionC fun C hC => ?_
     try simp -implicitDefEqProofs (disch := omega) only [go_sem, ↓reduceIte]
     refine toEnd hC ?_
     refine endX_q (roundQ_normal ⟨m1, by omega, F40_S1 v1 ((x4 ++ ((([48, 49, 50, 51, 52, 53, 54, 55, 56, 57, 97, 98, 99, 100, 101, 102] : List UInt8).take (IntKind.wrap .u8 ((IntKind.wrap .u8 ((v1.getD x5.toNat default).tdiv (16 : Int))) + (1 : Int))).toNat).drop (IntKind.wrap .u8 ((v1.getD x5.toNat default).tdiv (16 : Int))).toNat)) ++ ((([48, 49, 50, 51, 52, 53, 54, 55, 56, 57, 97, 98, 99, 100, 101, 102] : List UInt8).take (IntKind.wrap .u8 (((v1.getD x5.toNat default).tmod (16 : Int)) + (1 : Int))).toNat).drop ((v1.getD x5.toNat default).tmod (16 : Int)).toNat)) (IntKind.wrap .i64 (x5 + (1 : Int))), ?_, ((x4 ++ ((([48, 49, 50, 51, 52, 53, 54, 55, 56, 57, 97, 98, 99, 100, 101, 102] : List UInt8).take (IntKind.wrap .u8 ((IntKind.wrap .u8 ((v1.getD x5.toNat default).tdiv (16 : Int))) + (1 : Int))).toNat).drop (IntKind.wrap .u8 ((v1.getD x5.toNat default).tdiv (16 : Int))).toNat)) ++ ((([48, 49, 50, 51, 52, 53, 54, 55, 56, 57, 97, 98, 99, 100, 101, 102] : List UInt8).take (IntKind.wrap .u8 (((v1.getD x5.toNat default).tmod (16 : Int)) + (1 : Int))).toNat).drop ((v1.getD x5.toNat default).tmod (16 : Int)).toNat)), (IntKind.wrap .i64 (x5 + (1 : Int))), rfl, by omega, h⟩)
     simp only [F40_S1]
     (try simp -implicitDefEqProofs (disch := omega) only [go_sem, ↓reduceIte])
     exact leS_refl _
    ·refine runX_condF rfl c6 ?_
     refine runX_exit ?_
     refine endX_seqE ?_
     refine endX_q (roundQ_exit ?_)
     refine endX_blkE ?_
     refine endX_seq ?_
     refine runX_seq ?_
     refine runX_regionC fun C hC => ?_
     try simp -implicitDefEqProofs (disch := omega) only [go_sem, ↓reduceIte]
     refine toEnd hC ?_
     refine endX_seq ?_
     refine runX_ret ?_
     refine endX_q ?_
     obtain rfl := Option.some.inj h
     show RetW _ _ _ _ _
     simp only [RetW]
     (try simp -implicitDefEqProofs (disch := omega) only [go_sem, ↓reduceIte])
     (try simp (disch := omega) only [if_pos, Nat.sub_zero])
     exact leT_refl _
end Go.Proofs.YtaiapalhdejngaaX

set_option linter.unusedVariables false
set_option linter.unusedSimpArgs false
namespace Go.Proofs.YtaiapalhdejngaaX
open Go Go.RowKit Go.Proofs
set_option maxRecDepth 100000
attribute [local go_sem ↓] stepsK_build stepsK_bs appendS
attribute [local go_sem] String.reduceEq String.reduceNe reduceCtorEq Int.reduceEq Nat.reduceAdd Nat.reduceSub Nat.reduceMul Nat.reduceLT Nat.reduceLeDiff Nat.reduceEqDiff Nat.reduceBEq Int.reduceToNat Int.reduceLT Int.reduceLE Int.reduceGT Int.reduceGE Int.reduceAdd Int.reduceSub Int.reduceMul Int.reduceNeg Int.reduceBEq Int.reduceBNe Int.reducePow Int.reduceDiv Int.reduceMod Int.reduceTDiv Int.reduceTMod Int.reduceNatCast
/-! ### hex.Decimal -/
def F55_S4 (x11 : Int) (x12 : Int) (x13 : List (Int)) : St := ⟨[.junk, .junk, .junk, .junk, .rsl 0 1 0 x13.length, .imm (.int .i64 x11), .imm (.int .i64 x12), .junk, .junk, .junk, .junk, .junk, .junk, .junk, .junk, .junk, .junk, .junk, .junk, .junk, .junk, .junk, .junk, .junk, .junk, .junk, .junk, .junk, .junk, .junk, .junk, .junk, .junk, .junk, .junk, .junk, .junk, .junk, .junk, .junk, .junk, .junk, .junk, .junk, .junk, .junk, .junk, .junk, .junk, .junk, .junk, .junk, .junk, .junk], [some (.buf 5 1 (List.map byteT x13) 0)]⟩
def F55_S3 (x10 : List (Int)) : St := ⟨[.junk, .junk, .junk, .junk, .rsl 0 1 0 x10.length, .junk, .junk, .junk, .junk, .junk, .junk, .junk, .junk, .junk, .junk, .junk, .junk, .junk, .junk, .junk, .junk, .junk, .junk, .junk, .junk, .junk, .junk, .junk, .junk, .junk, .junk, .junk, .junk, .junk, .junk, .junk, .junk, .junk, .junk, .junk, .junk, .junk, .junk, .junk, .junk, .junk, .junk, .junk, .junk, .junk, .junk, .junk, .junk, .junk], [some (.buf 5 1 (List.map byteT x10) 0)]⟩
def F55_S2 (a0 : Int) (x3 : Int) (x4 : List (Int)) : St := ⟨[.imm (.int .i64 a0), .junk, .junk, .imm (.int .u64 x3), .rsl 0 1 0 x4.length, .junk, .junk, .junk, .junk, .junk, .junk, .junk, .junk, .junk, .junk, .junk, .junk, .junk, .junk, .junk, .junk, .junk, .junk, .junk, .junk, .junk, .junk, .junk, .junk, .junk, .junk, .junk, .junk, .junk, .junk, .junk, .junk, .junk, .junk, .junk, .junk, .junk, .junk, .junk, .junk, .junk, .junk, .junk, .junk, .junk, .junk, .junk, .junk, .junk], [some (.buf 5 1 (List.map byteT x4) 0)]⟩
def F55_S1 (a0 : Int) (x2 : Int) : St := ⟨[.imm (.int .i64 a0), .junk, .junk, .imm (.int .u64 x2), .junk, .junk, .junk, .junk, .junk, .junk, .junk, .junk, .junk, .junk, .junk, .junk, .junk, .junk, .junk, .junk, .junk, .junk, .junk, .junk, .junk, .junk, .junk, .junk, .junk, .junk, .junk, .junk, .junk, .junk, .junk, .junk, .junk, .junk, .junk, .junk, .junk, .junk, .junk, .junk, .junk, .junk, .junk, .junk, .junk, .junk, .junk, .junk, .junk, .junk], []⟩
mutual
def F55_L4 : Nat → (Int) → (Int) → (List (Int)) → Option (List UInt8)
 | 0, _, _, _ => none
 | m4 + 1, x11, x12, x13 => iteB (decide (x11 < x12)) (grd (0 ≤ x12 ∧ x12 < (x13.length : Int)) (grd (x12.toNat < x13.length) (grd (0 ≤ x11 ∧ x11 < (x13.length : Int)) (grd (x11.toNat < x13.length) (grd (0 ≤ x11 ∧ x11 < (x13.length : Int)) (grd (x11.toNat < x13.length) (grd (0 ≤ x12 ∧ x12 < (x13.length : Int)) (grd (x12.toNat < x13.length) (F55_L4 m4 (IntKind.wrap .i64 (x11 + (1 : Int))) (IntKind.wrap .i64 (x12 - (1 : Int))) (List.set (List.set x13 x11.toNat (x13.getD x12.toNat default)) x12.toNat (x13.getD x11.toNat default))))))))))) (some (x13.map toB))
def F55_J3 (m2 : Nat) (x10 : List (Int)) : Option (List UInt8) := F55_L4 m2 (0 : Int) (IntKind.wrap .i64 ((x10.length : Int) - (1 : Int))) x10
def F55_L2 : Nat → (Int) → (Int) → (List (Int)) → Option (List UInt8)
 | 0, _, _, _ => none
 | m2 + 1, a0, x3, x4 => grd (0 ≤ (x3.tmod (10 : Int)) ∧ (x3.tmod (10 : Int)) < (16 : Int)) (grd ((x4.length + 1) ≤ 549755813888) (iteB ((IntKind.wrap .u64 (x3.tdiv (10 : Int))) == (0 : Int)) (iteB (decide (a0 < (0 : Int))) (grd ((x4.length + 2) ≤ 549755813888) (F55_J3 m2 ((x4 ++ ([((([48, 49, 50, 51, 52, 53, 54, 55, 56, 57, 97, 98, 99, 100, 101, 102] : List UInt8).getD (x3.tmod (10 : Int)).toNat 0).toNat : Int)])) ++ [(45 : Int)]))) (F55_J3 m2 (x4 ++ ([((([48, 49, 50, 51, 52, 53, 54, 55, 56, 57, 97, 98, 99, 100, 101, 102] : List UInt8).getD (x3.tmod (10 : Int)).toNat 0).toNat : Int)])))) (F55_L2 m2 a0 (IntKind.wrap .u64 (x3.tdiv (10 : Int))) (x4 ++ ([((([48, 49, 50, 51, 52, 53, 54, 55, 56, 57, 97, 98, 99, 100, 101, 102] : List UInt8).getD (x3.tmod (10 : Int)).toNat 0).toNat : Int)])))))
def F55_J1 (n : Nat) (a0 : Int) (x2 : Int) : Option (List UInt8) := F55_L2 n a0 x2 []
end
def F55 (n : Nat) (a0 : Int) : Option (List UInt8) := iteB (decide (a0 < (0 : Int))) (F55_J1 n a0 (IntKind.wrap .u64 ((0 : Int) - (IntKind.wrap .u64 (a0))))) (F55_J1 n a0 (IntKind.wrap .u64 (a0)))
set_option maxHeartbeats 4000000 in
theorem F55_ok : ∀ (n : Nat) (a0 : Int) (r : List UInt8), F55 n a0 = some r → FnC Try.prog 55 [.imm (.int .i64 a0)] (.imm (.string (bs r)))
 | n, a0, r, h => by
  unfold F55 at h
  refine FnC.goX mixed Try.func55 (by kernel_rfl) rfl ?_
  simp only [Try.ntmps55, List.length_cons, List.length_nil, List.replicate, List.cons_append, List.nil_append, Nat.reduceAdd, Nat.reduceSub]
  refine runX_seq ?_
  refine runX_regionC fun C hC => ?_
  try simp -implicitDefEqProofs (disch := omega) only [go_sem, ↓reduceIte]
  refine toEnd hC ?_
  refine endX_seq ?_
  refine runX_seq ?_
  refine runX_regionC fun C hC => ?_
  try simp -implicitDefEqProofs (disch := omega) only [go_sem, ↓reduceIte]
  refine toEnd hC ?_
  refine endX_seq ?_
  refine runX_meet [0, 3] (fun S => ∃ (x2 : Int), S = F55_S1 a0 x2 ∧ F55_J1 n a0 x2 = some r) ?_ ?_
  ·refine runX_seq ?_
   refine runX_regionC fun C hC => ?_
   try simp -implicitDefEqProofs (disch := omega) only [go_sem, ↓reduceIte]
   refine toEnd hC ?_
   refine endX_seq ?_
   rcases iteB_some h with ⟨c1, h⟩ | ⟨c1, h⟩
   ·refine runX_condT rfl c1 ?_
    refine runX_regionC fun C hC => ?_
    try simp -implicitDefEqProofs (disch := omega) only [go_sem, ↓reduceIte]
    refine toEnd hC ?_
    refine endX_q (meetQ_normal ⟨F55_S1 a0 (IntKind.wrap .u64 ((0 : Int) - (IntKind.wrap .u64 (a0)))), ?_, (IntKind.wrap .u64 ((0 : Int) - (IntKind.wrap .u64 (a0)))), rfl, h⟩)
    simp only [F55_S1]
    (try simp -implicitDefEqProofs (disch := omega) only [go_sem, ↓reduceIte])
    exact leS_refl _
   ·refine runX_condF rfl c1 ?_
    refine runX_skip ?_
    refine endX_q (meetQ_normal ⟨F55_S1 a0 (IntKind.wrap .u64 (a0)), ?_, (IntKind.wrap .u64 (a0)), rfl, h⟩)
    simp only [F55_S1]
    (try simp -implicitDefEqProofs (disch := omega) only [go_sem, ↓reduceIte])
    exact leS_refl _
  ·clear h
   rintro S ⟨x2, rfl, h⟩
   rw [F55_J1] at h
   simp only [F55_S1]
   refine runX_seq ?_
   refine runX_regionC fun C hC => ?_
   try simp -implicitDefEqProofs (disch := omega) only [go_sem, ↓reduceIte]
   refine toEnd hC ?_
   refine endX_seq ?_
   refine runX_seq ?_
   refine runX_block ?_
   refine runX_loop [0, 3, 4] (fun m S => ∃ (x3 : Int) (x4 : List (Int)), S = F55_S2 a0 x3 x4 ∧ m ≤ n ∧ F55_L2 m a0 x3 x4 = some r) n ⟨F55_S2 a0 x2 [], ?_, x2, [], rfl, Nat.le_refl _, h⟩ ?_
   ·(try simp -implicitDefEqProofs (disch := omega) only [go_sem, ↓reduceIte])
    simp only [F55_S2]
    refine leS_trans (leS_pad _ _ 1) ?_
    simp only [List.replicate, List.cons_append, List.nil_append]
    refine leS_virt 0 5 1 rfl ?_ ?_ rfl
    ·repeat (first | exact leL_refl _ | refine leL_cons (by first | exact leT_refl _ | exact leT_virt | exact leT_junk _ | exact leT_sl | exact leT_sln | exact leT_nil | (refine leT_agg (by repeat (first | exact leL_refl _ | refine leL_cons (by first | exact leT_refl _ | exact leT_sl | exact leT_sln | exact leT_nil) ?_)))) ?_)
    ·repeat (first | exact leOs_refl _ | refine leOs.cons (by first | exact leO.same _ | (refine leO.box (leT_agg (by repeat (first | exact leL_refl _ | refine leL_cons (by first | exact leT_refl _ | exact leT_virt | exact leT_junk _ | exact leT_sl | exact leT_sln | exact leT_nil | (refine leT_agg (by repeat (first | exact leL_refl _ | refine leL_cons (by first | exact leT_refl _ | exact leT_sl | exact leT_sln | exact leT_nil) ?_)))) ?_))) rfl) | (refine leO.box (by first | exact leT_virt | exact leT_sl | exact leT_sln) rfl)) ?_)
   ·clear h
    rintro m2 S ⟨x3, x4, rfl, hm2, h⟩
    cases m2 with
    | zero => first | cases (show (none : Option _) = some _ from h) | (rw [F55_L2] at h; cases h)
    | succ m2 =>
     rw [F55_L2] at h
     simp only [F55_S2]
     refine runX_block ?_
     refine runX_seq ?_
     refine runX_regionC fun C hC => ?_
     obtain ⟨g5, h⟩ := grd_some h
     try simp -implicitDefEqProofs (maxSteps := 4000000) (disch := first | omega | decide | (simp only [go_sem]; omega)) only [go_sem, ↓reduceIte]
     repeat (with_reducible refine And.intro (by first | assumption | omega | (simp; done) | (simp; omega)) ?_)
     refine bs_go <| buildX_val ?_
     obtain ⟨g6, h⟩ := grd_some h
     try simp -implicitDefEqProofs (maxSteps := 4000000) (disch := first | omega | decide | (simp only [go_sem]; omega)) only [go_sem, ↓reduceIte]
     repeat (with_reducible refine And.intro (by first | assumption | omega | (simp; done) | (simp; omega)) ?_)
     refine toEnd hC ?_
     refine endX_seq ?_
     refine runX_seq ?_
     refine runX_regionC fun C hC => ?_
     try simp -implicitDefEqProofs (disch := omega) only [go_sem, ↓reduceIte]
     refine toEnd hC ?_
     refine endX_seq ?_
     refine runX_seq ?_
     refine runX_regionC fun C hC => ?_
     try simp -implicitDefEqProofs (disch := omega) only [go_sem, ↓reduceIte]
     refine toEnd hC ?_
     refine endX_seq ?_
     rcases iteB_some h with ⟨c7, h⟩ | ⟨c7, h⟩
     ·refine runX_condT rfl c7 ?_
      refine runX_exit ?_
      refine endX_blkO (by decide) ?_
      refine endX_q (roundQ_exit ?_)
      refine endX_blkE ?_
      refine endX_seq ?_
      refine runX_meet [4] (fun S => ∃ (x10 : List (Int)), S = F55_S3 x10 ∧ F55_J3 m2 x10 = some r) ?_ ?_
      ·refine runX_seq ?_
       refine runX_regionC fun C hC => ?_
       try simp -implicitDefEqProofs (disch := omega) only [go_sem, ↓reduceIte]
       refine toEnd hC ?_
       refine endX_seq ?_
       rcases iteB_some h with ⟨c8, h⟩ | ⟨c8, h⟩
       ·refine runX_condT rfl c8 ?_
        refine runX_regionC fun C hC => ?_
        try simp -implicitDefEqProofs (maxSteps := 4000000) (disch := first | omega | decide | (simp only [go_sem]; omega)) only [go_sem, ↓reduceIte]
        repeat (with_reducible refine And.intro (by first | assumption | omega | (simp; done) | (simp; omega)) ?_)
        refine bs_go <| buildX_val ?_
        obtain ⟨g9, h⟩ := grd_some h
        try simp -implicitDefEqProofs (maxSteps := 4000000) (disch := first | omega | decide | (simp only [go_sem]; omega)) only [go_sem, ↓reduceIte]
        repeat (with_reducible refine And.intro (by first | assumption | omega | (simp; done) | (simp; omega)) ?_)
        refine toEnd hC ?_
        refine endX_q (meetQ_normal ⟨F55_S3 ((x4 ++ ([((([48, 49, 50, 51, 52, 53, 54, 55, 56, 57, 97, 98, 99, 100, 101, 102] : List UInt8).getD (x3.tmod (10 : Int)).toNat 0).toNat : Int)])) ++ [(45 : Int)]), ?_, ((x4 ++ ([((([48, 49, 50, 51, 52, 53, 54, 55, 56, 57, 97, 98, 99, 100, 101, 102] : List UInt8).getD (x3.tmod (10 : Int)).toNat 0).toNat : Int)])) ++ [(45 : Int)]), rfl, h⟩)
        simp only [F55_S3]
        (try simp -implicitDefEqProofs (disch := omega) only [go_sem, ↓reduceIte])
        exact leS_refl _
       ·refine runX_condF rfl c8 ?_
        refine runX_skip ?_
        refine endX_q (meetQ_normal ⟨F55_S3 (x4 ++ ([((([48, 49, 50, 51, 52, 53, 54, 55, 56, 57, 97, 98, 99, 100, 101, 102] : List UInt8).getD (x3.tmod (10 : Int)).toNat 0).toNat : Int)])), ?_, (x4 ++ ([((([48, 49, 50, 51, 52, 53, 54, 55, 56, 57, 97, 98, 99, 100, 101, 102] : List UInt8).getD (x3.tmod (10 : Int)).toNat 0).toNat : Int)])), rfl, h⟩)
        simp only [F55_S3]
        (try simp -implicitDefEqProofs (disch := omega) only [go_sem, ↓reduceIte])
        exact leS_refl _
      ·clear h
       rintro S ⟨x10, rfl, h⟩
       rw [F55_J3] at h
       simp only [F55_S3]
       refine runX_seq ?_
       refine runX_seq ?_
       refine runX_regionC fun C hC => ?_
       try simp -implicitDefEqProofs (disch := omega) only [go_sem, ↓reduceIte]
       refine toEnd hC ?_
       refine endX_seq ?_
       refine runX_block ?_
       refine runX_loop [4, 5, 6] (fun m S => ∃ (x11 : Int) (x12 : Int) (x13 : List (Int)), S = F55_S4 x11 x12 x13 ∧ m ≤ m2 ∧ F55_L4 m x11 x12 x13 = some r) m2 ⟨F55_S4 (0 : Int) (IntKind.wrap .i64 ((x10.length : Int) - (1 : Int))) x10, ?_, (0 : Int), (IntKind.wrap .i64 ((x10.length : Int) - (1 : Int))), x10, rfl, Nat.le_refl _, h⟩ ?_
       ·simp only [F55_S4]
        (try simp -implicitDefEqProofs (disch := omega) only [go_sem, ↓reduceIte])
        exact leS_refl _
       ·clear h
        rintro m4 S ⟨x11, x12, x13, rfl, hm4, h⟩
        cases m4 with
        | zero => first | cases (show (none : Option _) = some _ from h) | (rw [F55_L4] at h; cases h)
        | succ m4 =>
         rw [F55_L4] at h
         simp only [F55_S4]
         refine runX_seq ?_
         refine runX_seq ?_
         refine runX_regionC fun C hC => ?_
         try simp -implicitDefEqProofs (disch := omega) only [go_sem, ↓reduceIte]
         refine toEnd hC ?_
         refine endX_seq ?_
         rcases iteB_some h with ⟨c14, h⟩ | ⟨c14, h⟩
         ·refine runX_condT rfl c14 ?_
          refine runX_skip ?_
          refine endX_seq ?_
          refine runX_seq ?_
          refine runX_block ?_
          refine runX_draw2C mixed [2, 3] (by kernel_rfl) fun C hC => ?_
          obtain ⟨g15, h⟩ := grd_some h
          obtain ⟨g16, h⟩ := grd_some h
          obtain ⟨g17, h⟩ := grd_some h
          obtain ⟨g18, h⟩ := grd_some h
          obtain ⟨g19, h⟩ := grd_some h
          obtain ⟨g20, h⟩ := grd_some h
          obtain ⟨g21, h⟩ := grd_some h
          obtain ⟨g22, h⟩ := grd_some h
          try simp -implicitDefEqProofs (maxSteps := 4000000) (disch := first | omega | decide | (simp only [go_sem]; omega)) only [go_sem, ↓reduceIte]
          repeat (with_reducible refine And.intro (by first | assumption | omega | (simp; done) | (simp; omega)) ?_)
          refine toEnd hC ?_
          refine endX_blk ?_
          refine endX_seq ?_
          refine runX_regionC fun C hC => ?_
          try simp -implicitDefEqProofs (disch := omega) only [go_sem, ↓reduceIte]
          refine toEnd hC ?_
          refine endX_q (roundQ_normal ⟨m4, by omega, F55_S4 (IntKind.wrap .i64 (x11 + (1 : Int))) (IntKind.wrap .i64 (x12 - (1 : Int))) (List.set (List.set x13 x11.toNat (x13.getD x12.toNat default)) x12.toNat (x13.getD x11.toNat default)), ?_, (IntKind.wrap .i64 (x11 + (1 : Int))), (IntKind.wrap .i64 (x12 - (1 : Int))), (List.set (List.set x13 x11.toNat (x13.getD x12.toNat default)) x12.toNat (x13.getD x11.toNat default)), rfl, by omega, h⟩)
          simp only [F55_S4]
          (try simp -implicitDefEqProofs (disch := omega) only [go_sem, ↓reduceIte])
          exact leS_refl _
         ·refine runX_condF rfl c14 ?_
          refine runX_exit ?_
          refine endX_seqE ?_
          refine endX_q (roundQ_exit ?_)
          refine endX_blkE ?_
          refine endX_seq ?_
          refine runX_seq ?_
          refine runX_regionC fun C hC => ?_
          try simp -implicitDefEqProofs (disch := omega) only [go_sem, ↓reduceIte]
          refine toEnd hC ?_
          refine endX_seq ?_
          refine runX_ret ?_
          refine endX_q ?_
          obtain rfl := Option.some.inj h
          show RetW _ _ _ _ _
          simp only [RetW]
          (try simp -implicitDefEqProofs (disch := omega) only [go_sem, ↓reduceIte])
          (try simp (disch := omega) only [if_pos, Nat.sub_zero])
          exact leT_refl _
     ·refine runX_condF rfl c7 ?_
      refine runX_skip ?_
      refine endX_blk ?_
      refine endX_q (roundQ_normal ⟨m2, by omega, F55_S2 a0 (IntKind.wrap .u64 (x3.tdiv (10 : Int))) (x4 ++ ([((([48, 49, 50, 51, 52, 53, 54, 55, 56, 57, 97, 98, 99, 100, 101, 102] : List UInt8).getD (x3.tmod (10 : Int)).toNat 0).toNat : Int)])), ?_, (IntKind.wrap .u64 (x3.tdiv (10 : Int))), (x4 ++ ([((([48, 49, 50, 51, 52, 53, 54, 55, 56, 57, 97, 98, 99, 100, 101, 102] : List UInt8).getD (x3.tmod (10 : Int)).toNat 0).toNat : Int)])), rfl, by omega, h⟩)
      simp only [F55_S2]
      (try simp -implicitDefEqProofs (disch := omega) only [go_sem, ↓reduceIte])
      exact leS_refl _
end Go.Proofs.YtaiapalhdejngaaX

set_option linter.unusedVariables false
set_option linter.unusedSimpArgs false
namespace Go.Proofs.YtaiapalhdejngaaX
open Go Go.RowKit Go.Proofs
set_option maxRecDepth 100000
/-! ### internal/stringslite.IndexByte: by hand (a function without a body stands below it) -/
def F113 (n : Nat) (a0 : List UInt8) (a1 : Int) : Option Int := some (Lib.indexByte a0 a1.toNat.toUInt8)
set_option maxHeartbeats 1000000 in
theorem indexByte_calls (a0 : List UInt8) (a1 : Int) (w : World) :
  Calls Try.prog 113 #[.string (bs a0), .int .u8 a1] w fun e w' => e = .returned (.int .i64 (Lib.indexByte a0 a1.toNat.toUInt8)) ∧ Below w.heap.size w w' := by
 go_enter Try.func113, Try.ntmps113
 go_wp2
 rw [run_callFunc_extern Try.func119 (by kernel_rfl) (by kernel_rfl) (by kernel_rfl) (e := Extern.BytealgIndexByte.indexByte) (by kernel_rfl), Lib.run_indexByteString]
 simp only [Result.andThen]
 rw [Oper.upon_value]
 go_wp2
 go_ret
 exact ⟨rfl, Below.refl _ _⟩
theorem F113_ok (n : Nat) (a0 : List UInt8) (a1 : Int) (r : Int) (h : F113 n a0 a1 = some r) : FnC Try.prog 113 [.imm (.string (bs a0)), .imm (.int .u8 a1)] (.imm (.int .i64 r)) := by
 obtain rfl := Option.some.inj h
 refine ⟨⟨Try.f113, Try.func113, by kernel_rfl, rfl⟩, fun w ban vs hban hv => ?_⟩
 have e : vs = #[.string (bs a0), .int .u8 a1] := by
  obtain ⟨l⟩ := vs
  simp only [RepL, Rep] at hv
  obtain ⟨u, us, h1, h2, v, vs', h3, h4, h5⟩ := hv
  simp_all
 rw [e]
 refine (indexByte_calls a0 a1 w).mono ?_
 rintro e w' ⟨rfl, hb⟩
 exact ⟨_, rfl, hb, by simp only [Rep]; exact ⟨trivial, rfl⟩⟩
end Go.Proofs.YtaiapalhdejngaaX

set_option linter.unusedVariables false
set_option linter.unusedSimpArgs false
namespace Go.Proofs.YtaiapalhdejngaaX
open Go Go.RowKit Go.Proofs
set_option maxRecDepth 100000
attribute [local go_sem ↓] stepsK_build stepsK_bs appendS
attribute [local go_sem] String.reduceEq String.reduceNe reduceCtorEq Int.reduceEq Nat.reduceAdd Nat.reduceSub Nat.reduceMul Nat.reduceLT Nat.reduceLeDiff Nat.reduceEqDiff Nat.reduceBEq Int.reduceToNat Int.reduceLT Int.reduceLE Int.reduceGT Int.reduceGE Int.reduceAdd Int.reduceSub Int.reduceMul Int.reduceNeg Int.reduceBEq Int.reduceBNe Int.reducePow Int.reduceDiv Int.reduceMod Int.reduceTDiv Int.reduceTMod Int.reduceNatCast
/-! ### internal/stringslite.Index -/
def F114 (n : Nat) (a0 : List UInt8) (a1 : List UInt8) : Option (Int) := iteB ((a1.length : Int) == (0 : Int)) (some (0 : Int)) (iteB (a1 == a0) (some (0 : Int)) (iteB ((a1.length : Int) == (1 : Int)) (grd ((0 : Int) < (a1.length : Int)) ((F113 n a0 ((a1.getD (0 : Int).toNat 0).toNat : Int)).bind fun v5 => some v5)) (iteB (decide ((a0.length : Int) ≤ (a1.length : Int))) (some (-1 : Int)) (none))))
set_option maxHeartbeats 4000000 in
theorem F114_ok : ∀ (n : Nat) (a0 : List UInt8) (a1 : List UInt8) (r : Int), F114 n a0 a1 = some r → FnC Try.prog 114 [.imm (.string (bs a0)), .imm (.string (bs a1))] (.imm (.int .i64 r))
 | n, a0, a1, r, h => by
  unfold F114 at h
  refine FnC.goX mixed Try.func114 (by kernel_rfl) rfl ?_
  simp only [Try.ntmps114, List.length_cons, List.length_nil, List.replicate, List.cons_append, List.nil_append, Nat.reduceAdd, Nat.reduceSub]
  refine runX_seq ?_
  refine runX_regionC fun C hC => ?_
  try simp -implicitDefEqProofs (disch := omega) only [go_sem, ↓reduceIte]
  refine toEnd hC ?_
  refine endX_seq ?_
  refine runX_seq ?_
  refine runX_regionC fun C hC => ?_
  try simp -implicitDefEqProofs (disch := omega) only [go_sem, ↓reduceIte]
  refine toEnd hC ?_
  refine endX_seq ?_
  refine runX_seq ?_
  refine runX_block ?_
  refine runX_seq ?_
  refine runX_regionC fun C hC => ?_
  try simp -implicitDefEqProofs (disch := omega) only [go_sem, ↓reduceIte]
  rcases iteB_some h with ⟨c1, h⟩ | ⟨c1, h⟩
  ·refine guardK_F c1 ?_
   try simp -implicitDefEqProofs (disch := omega) only [go_sem, ↓reduceIte]
   refine toEnd hC ?_
   refine endX_seq ?_
   refine runX_condT rfl rfl ?_
   refine runX_seq ?_
   refine runX_regionC fun C hC => ?_
   try simp -implicitDefEqProofs (disch := omega) only [go_sem, ↓reduceIte]
   refine toEnd hC ?_
   refine endX_seq ?_
   refine runX_ret ?_
   refine endX_blkR ?_
   refine endX_seqR ?_
   refine endX_q ?_
   obtain rfl := Option.some.inj h
   show RetW _ _ _ _ _
   simp only [RetW]
   (try simp -implicitDefEqProofs (disch := omega) only [go_sem, ↓reduceIte])
   (try simp (disch := omega) only [if_pos, Nat.sub_zero])
   exact leT_refl _
  ·refine guardK_T c1 ?_
   try simp -implicitDefEqProofs (disch := omega) only [go_sem, ↓reduceIte]
   refine toEnd hC ?_
   refine endX_seq ?_
   rcases iteB_some h with ⟨c2, h⟩ | ⟨c2, h⟩
   ·refine runX_condT rfl c2 ?_
    refine runX_seq ?_
    refine runX_regionC fun C hC => ?_
    try simp -implicitDefEqProofs (disch := omega) only [go_sem, ↓reduceIte]
    refine toEnd hC ?_
    refine endX_seq ?_
    refine runX_ret ?_
    refine endX_blkR ?_
    refine endX_seqR ?_
    refine endX_q ?_
    obtain rfl := Option.some.inj h
    show RetW _ _ _ _ _
    simp only [RetW]
    (try simp -implicitDefEqProofs (maxSteps := 4000000) (disch := first | omega | decide | (simp only [go_sem]; omega)) only [go_sem, ↓reduceIte])
    (try simp (disch := omega) only [if_pos, Nat.sub_zero])
    exact leT_refl _
   ·refine runX_condF rfl c2 ?_
    refine runX_seq ?_
    refine runX_regionC fun C hC => ?_
    try simp -implicitDefEqProofs (maxSteps := 4000000) (disch := first | omega | decide | (simp only [go_sem]; omega)) only [go_sem, ↓reduceIte]
    repeat (with_reducible refine And.intro (by first | assumption | omega | (simp; done) | (simp; omega)) ?_)
    refine toEnd hC ?_
    refine endX_seq ?_
    rcases iteB_some h with ⟨c3, h⟩ | ⟨c3, h⟩
    ·refine runX_condT rfl c3 ?_
     refine runX_seq ?_
     refine runX_regionC fun C hC => ?_
     obtain ⟨g4, h⟩ := grd_some h
     obtain ⟨v5, h5, h⟩ := bnd_some h
     try simp -implicitDefEqProofs (maxSteps := 4000000) (disch := first | omega | decide | (simp only [go_sem]; omega)) only [go_sem, ↓reduceIte]
     repeat (with_reducible refine And.intro (by first | assumption | omega | (simp; done) | (simp; omega)) ?_)
     refine callG_X (by first | rfl | (simp only [go_sem]; done) | (simp only [closedL, closedT, Bool.and_true]; exact closedL_map _ (fun _ => by first | rfl | (simp only [go_sem]; done)) _)) (F113_ok n a0 ((a1.getD (0 : Int).toNat 0).toNat : Int) _ h5) (by repeat (first | exact leL_refl _ | refine leL_cons (by first | exact leT_refl _ | exact leT_virt | exact leT_junk _ | exact leT_sl | exact leT_sln | exact leT_nil | (refine leT_agg (by repeat (first | exact leL_refl _ | refine leL_cons (by first | exact leT_refl _ | exact leT_sl | exact leT_sln | exact leT_nil) ?_)))) ?_)) ?_
     try simp -implicitDefEqProofs (maxSteps := 4000000) (disch := first | omega | decide | (simp only [go_sem]; omega)) only [go_sem, ↓reduceIte]
     repeat (with_reducible refine And.intro (by first | assumption | omega | (simp; done) | (simp; omega)) ?_)
     refine toEnd hC ?_
     refine endX_seq ?_
     refine runX_ret ?_
     refine endX_blkR ?_
     refine endX_seqR ?_
     refine endX_q ?_
     obtain rfl := Option.some.inj h
     show RetW _ _ _ _ _
     simp only [RetW]
     (try simp -implicitDefEqProofs (disch := omega) only [go_sem, ↓reduceIte])
     (try simp (disch := omega) only [if_pos, Nat.sub_zero])
     exact leT_refl _
    ·refine runX_condF rfl c3 ?_
     refine runX_seq ?_
     refine runX_regionC fun C hC => ?_
     try simp -implicitDefEqProofs (disch := omega) only [go_sem, ↓reduceIte]
     refine toEnd hC ?_
     refine endX_seq ?_
     rcases iteB_some h with ⟨c6, h⟩ | ⟨c6, h⟩
     ·refine runX_condT rfl c6 ?_
      refine runX_seq ?_
      refine runX_regionC fun C hC => ?_
      try simp -implicitDefEqProofs (disch := omega) only [go_sem, ↓reduceIte]
      refine toEnd hC ?_
      refine endX_seq ?_
      refine runX_ret ?_
      refine endX_blkR ?_
      refine endX_seqR ?_
      refine endX_q ?_
      obtain rfl := Option.some.inj h
      show RetW _ _ _ _ _
      simp only [RetW]
      (try simp -implicitDefEqProofs (disch := omega) only [go_sem, ↓reduceIte])
      (try simp (disch := omega) only [if_pos, Nat.sub_zero])
      exact leT_refl _
     ·refine runX_condF rfl c6 ?_
      cases h
end Go.Proofs.YtaiapalhdejngaaX

set_option linter.unusedVariables false
set_option linter.unusedSimpArgs false
namespace Go.Proofs.YtaiapalhdejngaaX
open Go Go.RowKit Go.Proofs
set_option maxRecDepth 100000
attribute [local go_sem ↓] stepsK_build stepsK_bs appendS
attribute [local go_sem] String.reduceEq String.reduceNe reduceCtorEq Int.reduceEq Nat.reduceAdd Nat.reduceSub Nat.reduceMul Nat.reduceLT Nat.reduceLeDiff Nat.reduceEqDiff Nat.reduceBEq Int.reduceToNat Int.reduceLT Int.reduceLE Int.reduceGT Int.reduceGE Int.reduceAdd Int.reduceSub Int.reduceMul Int.reduceNeg Int.reduceBEq Int.reduceBNe Int.reducePow Int.reduceDiv Int.reduceMod Int.reduceTDiv Int.reduceTMod Int.reduceNatCast
/-! ### internal/stringslite.Cut -/
def F98 (n : Nat) (a0 : List UInt8) (a1 : List UInt8) : Option ((List UInt8) × (List UInt8) × (Bool)) := (F114 n a0 a1).bind fun v1 => iteB (decide ((0 : Int) ≤ v1)) (grd (0 ≤ v1 ∧ v1 ≤ (a0.length : Int)) (grd (0 ≤ (IntKind.wrap .i64 (v1 + (a1.length : Int))) ∧ (IntKind.wrap .i64 (v1 + (a1.length : Int))) ≤ (a0.length : Int)) (some ((a0.take v1.toNat), (a0.drop (IntKind.wrap .i64 (v1 + (a1.length : Int))).toNat), true)))) (some (a0, [], false))
set_option maxHeartbeats 4000000 in
theorem F98_ok : ∀ (n : Nat) (a0 : List UInt8) (a1 : List UInt8) (r : (List UInt8) × (List UInt8) × (Bool)), F98 n a0 a1 = some r → FnC Try.prog 98 [.imm (.string (bs a0)), .imm (.string (bs a1))] (.tup [.imm (.string (bs r.1)), .imm (.string (bs r.2.1)), .imm (.bool r.2.2)])
 | n, a0, a1, r, h => by
  unfold F98 at h
  refine FnC.goX mixed Try.func98 (by kernel_rfl) rfl ?_
  simp only [Try.ntmps98, List.length_cons, List.length_nil, List.replicate, List.cons_append, List.nil_append, Nat.reduceAdd, Nat.reduceSub]
  refine runX_seq ?_
  refine runX_regionC fun C hC => ?_
  try simp -implicitDefEqProofs (maxSteps := 4000000) (disch := first | omega | decide | (simp only [go_sem]; omega)) only [go_sem, ↓reduceIte]
  repeat (with_reducible refine And.intro (by first | assumption | omega | (simp; done) | (simp; omega)) ?_)
  refine toEnd hC ?_
  refine endX_seq ?_
  refine runX_seq ?_
  refine runX_seq ?_
  refine runX_regionC fun C hC => ?_
  obtain ⟨v1, h1, h⟩ := bnd_some h
  try simp -implicitDefEqProofs (maxSteps := 4000000) (disch := first | omega | decide | (simp only [go_sem]; omega)) only [go_sem, ↓reduceIte]
  repeat (with_reducible refine And.intro (by first | assumption | omega | (simp; done) | (simp; omega)) ?_)
  refine callG_X (by first | rfl | (simp only [go_sem]; done) | (simp only [closedL, closedT, Bool.and_true]; exact closedL_map _ (fun _ => by first | rfl | (simp only [go_sem]; done)) _)) (F114_ok n a0 a1 _ h1) (by repeat (first | exact leL_refl _ | refine leL_cons (by first | exact leT_refl _ | exact leT_virt | exact leT_junk _ | exact leT_sl | exact leT_sln | exact leT_nil | (refine leT_agg (by repeat (first | exact leL_refl _ | refine leL_cons (by first | exact leT_refl _ | exact leT_sl | exact leT_sln | exact leT_nil) ?_)))) ?_)) ?_
  try simp -implicitDefEqProofs (maxSteps := 4000000) (disch := first | omega | decide | (simp only [go_sem]; omega)) only [go_sem, ↓reduceIte]
  repeat (with_reducible refine And.intro (by first | assumption | omega | (simp; done) | (simp; omega)) ?_)
  refine toEnd hC ?_
  refine endX_seq ?_
  refine runX_seq ?_
  refine runX_regionC fun C hC => ?_
  try simp -implicitDefEqProofs (maxSteps := 4000000) (disch := first | omega | decide | (simp only [go_sem]; omega)) only [go_sem, ↓reduceIte]
  repeat (with_reducible refine And.intro (by first | assumption | omega | (simp; done) | (simp; omega)) ?_)
  refine toEnd hC ?_
  refine endX_seq ?_
  rcases iteB_some h with ⟨c2, h⟩ | ⟨c2, h⟩
  ·refine runX_condT rfl c2 ?_
   refine runX_seq ?_
   refine runX_drawC mixed (by kernel_rfl) fun C hC => ?_
   obtain ⟨g3, h⟩ := grd_some h
   obtain ⟨g4, h⟩ := grd_some h
   try simp -implicitDefEqProofs (maxSteps := 4000000) (disch := first | omega | decide | (simp only [go_sem]; omega)) only [go_sem, ↓reduceIte]
   repeat (with_reducible refine And.intro (by first | assumption | omega | (simp; done) | (simp; omega)) ?_)
   refine toEnd hC ?_
   refine endX_seq ?_
   refine runX_ret ?_
   refine endX_seqR ?_
   refine endX_q ?_
   obtain rfl := Option.some.inj h
   show RetW _ _ _ _ _
   simp only [RetW]
   (try simp -implicitDefEqProofs (maxSteps := 4000000) (disch := first | omega | decide | (simp only [go_sem]; omega)) only [go_sem, ↓reduceIte])
   (try simp (disch := omega) only [if_pos, Nat.sub_zero])
   exact leT_refl _
  ·refine runX_condF rfl c2 ?_
   refine runX_skip ?_
   refine endX_seq ?_
   refine runX_seq ?_
   refine runX_regionC fun C hC => ?_
   try simp -implicitDefEqProofs (maxSteps := 4000000) (disch := first | omega | decide | (simp only [go_sem]; omega)) only [go_sem, ↓reduceIte]
   repeat (with_reducible refine And.intro (by first | assumption | omega | (simp; done) | (simp; omega)) ?_)
   refine toEnd hC ?_
   refine endX_seq ?_
   refine runX_ret ?_
   refine endX_q ?_
   obtain rfl := Option.some.inj h
   show RetW _ _ _ _ _
   simp only [RetW]
   (try simp -implicitDefEqProofs (maxSteps := 4000000) (disch := first | omega | decide | (simp only [go_sem]; omega)) only [go_sem, ↓reduceIte])
   (try simp (disch := omega) only [if_pos, Nat.sub_zero])
   exact leT_refl _
end Go.Proofs.YtaiapalhdejngaaX

set_option linter.unusedVariables false
set_option linter.unusedSimpArgs false
namespace Go.Proofs.YtaiapalhdejngaaX
open Go Go.RowKit Go.Proofs
set_option maxRecDepth 100000
attribute [local go_sem ↓] stepsK_build stepsK_bs appendS
attribute [local go_sem] String.reduceEq String.reduceNe reduceCtorEq Int.reduceEq Nat.reduceAdd Nat.reduceSub Nat.reduceMul Nat.reduceLT Nat.reduceLeDiff Nat.reduceEqDiff Nat.reduceBEq Int.reduceToNat Int.reduceLT Int.reduceLE Int.reduceGT Int.reduceGE Int.reduceAdd Int.reduceSub Int.reduceMul Int.reduceNeg Int.reduceBEq Int.reduceBNe Int.reducePow Int.reduceDiv Int.reduceMod Int.reduceTDiv Int.reduceTMod Int.reduceNatCast
/-! ### strings.Cut -/
def F73 (n : Nat) (a0 : List UInt8) (a1 : List UInt8) : Option ((List UInt8) × (List UInt8) × (Bool)) := (F98 n a0 a1).bind fun v1 => some (v1.1, v1.2.1, v1.2.2)
set_option maxHeartbeats 4000000 in
theorem F73_ok : ∀ (n : Nat) (a0 : List UInt8) (a1 : List UInt8) (r : (List UInt8) × (List UInt8) × (Bool)), F73 n a0 a1 = some r → FnC Try.prog 73 [.imm (.string (bs a0)), .imm (.string (bs a1))] (.tup [.imm (.string (bs r.1)), .imm (.string (bs r.2.1)), .imm (.bool r.2.2)])
 | n, a0, a1, r, h => by
  unfold F73 at h
  refine FnC.goX mixed Try.func73 (by kernel_rfl) rfl ?_
  simp only [Try.ntmps73, List.length_cons, List.length_nil, List.replicate, List.cons_append, List.nil_append, Nat.reduceAdd, Nat.reduceSub]
  refine runX_seq ?_
  refine runX_regionC fun C hC => ?_
  try simp -implicitDefEqProofs (maxSteps := 4000000) (disch := first | omega | decide | (simp only [go_sem]; omega)) only [go_sem, ↓reduceIte]
  repeat (with_reducible refine And.intro (by first | assumption | omega | (simp; done) | (simp; omega)) ?_)
  refine toEnd hC ?_
  refine endX_seq ?_
  refine runX_seq ?_
  refine runX_regionC fun C hC => ?_
  obtain ⟨v1, h1, h⟩ := bnd_some h
  try simp -implicitDefEqProofs (maxSteps := 4000000) (disch := first | omega | decide | (simp only [go_sem]; omega)) only [go_sem, ↓reduceIte]
  repeat (with_reducible refine And.intro (by first | assumption | omega | (simp; done) | (simp; omega)) ?_)
  refine callG_X (by first | rfl | (simp only [go_sem]; done) | (simp only [closedL, closedT, Bool.and_true]; exact closedL_map _ (fun _ => by first | rfl | (simp only [go_sem]; done)) _)) (F98_ok n a0 a1 _ h1) (by repeat (first | exact leL_refl _ | refine leL_cons (by first | exact leT_refl _ | exact leT_virt | exact leT_junk _ | exact leT_sl | exact leT_sln | exact leT_nil | (refine leT_agg (by repeat (first | exact leL_refl _ | refine leL_cons (by first | exact leT_refl _ | exact leT_sl | exact leT_sln | exact leT_nil) ?_)))) ?_)) ?_
  try simp -implicitDefEqProofs (maxSteps := 4000000) (disch := first | omega | decide | (simp only [go_sem]; omega)) only [go_sem, ↓reduceIte]
  repeat (with_reducible refine And.intro (by first | assumption | omega | (simp; done) | (simp; omega)) ?_)
  refine toEnd hC ?_
  refine endX_seq ?_
  refine runX_ret ?_
  refine endX_q ?_
  obtain rfl := Option.some.inj h
  show RetW _ _ _ _ _
  simp only [RetW]
  (try simp -implicitDefEqProofs (maxSteps := 4000000) (disch := first | omega | decide | (simp only [go_sem]; omega)) only [go_sem, ↓reduceIte])
  (try simp (disch := omega) only [if_pos, Nat.sub_zero])
  exact leT_refl _
end Go.Proofs.YtaiapalhdejngaaX

set_option linter.unusedVariables false
set_option linter.unusedSimpArgs false
namespace Go.Proofs.YtaiapalhdejngaaX
open Go Go.RowKit Go.Proofs
set_option maxRecDepth 100000
attribute [local go_sem ↓] stepsK_build stepsK_bs appendS
attribute [local go_sem] String.reduceEq String.reduceNe reduceCtorEq Int.reduceEq Nat.reduceAdd Nat.reduceSub Nat.reduceMul Nat.reduceLT Nat.reduceLeDiff Nat.reduceEqDiff Nat.reduceBEq Int.reduceToNat Int.reduceLT Int.reduceLE Int.reduceGT Int.reduceGE Int.reduceAdd Int.reduceSub Int.reduceMul Int.reduceNeg Int.reduceBEq Int.reduceBNe Int.reducePow Int.reduceDiv Int.reduceMod Int.reduceTDiv Int.reduceTMod Int.reduceNatCast
/-! ### hex.ReadDecimal -/
def F78_S1 (a0 : List UInt8) (x3 : Int) (x4 : Int) : St := ⟨[.imm (.string (bs a0)), .junk, .junk, .junk, .imm (.int .i64 x3), .junk, .junk, .junk, .junk, .junk, .junk, .junk, .junk, .junk, .imm (.int .i64 (a0.length : Int)), .imm (.int .i64 x4), .junk, .junk, .junk, .junk, .junk, .junk, .junk, .junk, .junk, .junk, .junk, .junk, .junk, .junk, .junk, .junk, .junk], []⟩
def F78_L1 : Nat → (List UInt8) → (Int) → (Int) → Option ((Int) × (Bool))
 | 0, _, _, _ => none
 | m1 + 1, a0, x3, x4 => iteB (decide (x4 < (a0.length : Int))) (grd (0 ≤ x4 ∧ x4 < (a0.length : Int)) ((F70 m1 ((a0.getD x4.toNat 0).toNat : Int)).bind fun v7 => iteB (v7 != (1 : Int)) (some ((0 : Int), false)) (grd (0 ≤ x4 ∧ x4 < (a0.length : Int)) (F78_L1 m1 a0 (IntKind.wrap .i64 ((IntKind.wrap .i64 (x3 * (10 : Int))) + (IntKind.wrap .i64 ((IntKind.wrap .u8 (((a0.getD x4.toNat 0).toNat : Int) - (48 : Int))))))) (IntKind.wrap .i64 (x4 + (1 : Int))))))) (some (x3, true))
def F78 (n : Nat) (a0 : List UInt8) : Option ((Int) × (Bool)) := iteB (a0 == []) (some ((0 : Int), false)) (iteB (decide ((18 : Int) < (a0.length : Int))) (some ((0 : Int), false)) (F78_L1 n a0 (0 : Int) (0 : Int)))
set_option maxHeartbeats 4000000 in
theorem F78_ok : ∀ (n : Nat) (a0 : List UInt8) (r : (Int) × (Bool)), F78 n a0 = some r → FnC Try.prog 78 [.imm (.string (bs a0))] (.tup [.imm (.int .i64 r.1), .imm (.bool r.2)])
 | n, a0, r, h => by
  unfold F78 at h
  refine FnC.goX mixed Try.func78 (by kernel_rfl) rfl ?_
  simp only [Try.ntmps78, List.length_cons, List.length_nil, List.replicate, List.cons_append, List.nil_append, Nat.reduceAdd, Nat.reduceSub]
  refine runX_seq ?_
  refine runX_regionC fun C hC => ?_
  try simp -implicitDefEqProofs (disch := omega) only [go_sem, ↓reduceIte]
  refine toEnd hC ?_
  refine endX_seq ?_
  refine runX_seq ?_
  refine runX_seq ?_
  refine runX_regionC fun C hC => ?_
  try simp -implicitDefEqProofs (disch := omega) only [go_sem, ↓reduceIte]
  rcases iteB_some h with ⟨c1, h⟩ | ⟨c1, h⟩
  ·refine guardK_F c1 ?_
   try simp -implicitDefEqProofs (disch := omega) only [go_sem, ↓reduceIte]
   refine toEnd hC ?_
   refine endX_seq ?_
   refine runX_condT rfl rfl ?_
   refine runX_seq ?_
   refine runX_regionC fun C hC => ?_
   try simp -implicitDefEqProofs (disch := omega) only [go_sem, ↓reduceIte]
   refine toEnd hC ?_
   refine endX_seq ?_
   refine runX_ret ?_
   refine endX_seqR ?_
   refine endX_q ?_
   obtain rfl := Option.some.inj h
   show RetW _ _ _ _ _
   simp only [RetW]
   (try simp -implicitDefEqProofs (disch := omega) only [go_sem, ↓reduceIte])
   (try simp (disch := omega) only [if_pos, Nat.sub_zero])
   exact leT_refl _
  ·refine guardK_T c1 ?_
   try simp -implicitDefEqProofs (disch := omega) only [go_sem, ↓reduceIte]
   refine toEnd hC ?_
   refine endX_seq ?_
   rcases iteB_some h with ⟨c2, h⟩ | ⟨c2, h⟩
   ·refine runX_condT rfl c2 ?_
    refine runX_seq ?_
    refine runX_regionC fun C hC => ?_
    try simp -implicitDefEqProofs (disch := omega) only [go_sem, ↓reduceIte]
    refine toEnd hC ?_
    refine endX_seq ?_
    refine runX_ret ?_
    refine endX_seqR ?_
    refine endX_q ?_
    obtain rfl := Option.some.inj h
    show RetW _ _ _ _ _
    simp only [RetW]
    (try simp -implicitDefEqProofs (disch := omega) only [go_sem, ↓reduceIte])
    (try simp (disch := omega) only [if_pos, Nat.sub_zero])
    exact leT_refl _
   ·refine runX_condF rfl c2 ?_
    refine runX_skip ?_
    refine endX_seq ?_
    refine runX_seq ?_
    refine runX_regionC fun C hC => ?_
    try simp -implicitDefEqProofs (disch := omega) only [go_sem, ↓reduceIte]
    refine toEnd hC ?_
    refine endX_seq ?_
    refine runX_seq ?_
    refine runX_seq ?_
    refine runX_regionC fun C hC => ?_
    try simp -implicitDefEqProofs (disch := omega) only [go_sem, ↓reduceIte]
    refine toEnd hC ?_
    refine endX_seq ?_
    refine runX_block ?_
    refine runX_loop [0, 4, 14, 15] (fun m S => ∃ (x3 : Int) (x4 : Int), S = F78_S1 a0 x3 x4 ∧ m ≤ n ∧ F78_L1 m a0 x3 x4 = some r) n ⟨F78_S1 a0 (0 : Int) (0 : Int), ?_, (0 : Int), (0 : Int), rfl, Nat.le_refl _, h⟩ ?_
    ·simp only [F78_S1]
     (try simp -implicitDefEqProofs (disch := omega) only [go_sem, ↓reduceIte])
     exact leS_refl _
    ·clear h
     rintro m1 S ⟨x3, x4, rfl, hm1, h⟩
     cases m1 with
     | zero => first | cases (show (none : Option _) = some _ from h) | (rw [F78_L1] at h; cases h)
     | succ m1 =>
      rw [F78_L1] at h
      simp only [F78_S1]
      refine runX_seq ?_
      refine runX_regionC fun C hC => ?_
      try simp -implicitDefEqProofs (maxSteps := 4000000) (disch := first | omega | decide | (simp only [go_sem]; omega)) only [go_sem, ↓reduceIte]
      repeat (with_reducible refine And.intro (by first | assumption | omega | (simp; done) | (simp; omega)) ?_)
      refine toEnd hC ?_
      refine endX_seq ?_
      refine runX_seq ?_
      rcases iteB_some h with ⟨c5, h⟩ | ⟨c5, h⟩
      ·refine runX_condT rfl c5 ?_
       refine runX_skip ?_
       refine endX_seq ?_
       refine runX_seq ?_
       refine runX_block ?_
       refine runX_seq ?_
       refine runX_regionC fun C hC => ?_
       try simp -implicitDefEqProofs (disch := omega) only [go_sem, ↓reduceIte]
       refine toEnd hC ?_
       refine endX_seq ?_
       refine runX_seq ?_
       refine runX_seq ?_
       refine runX_regionC fun C hC => ?_
       obtain ⟨g6, h⟩ := grd_some h
       obtain ⟨v7, h7, h⟩ := bnd_some h
       try simp -implicitDefEqProofs (maxSteps := 4000000) (disch := first | omega | decide | (simp only [go_sem]; omega)) only [go_sem, ↓reduceIte]
       repeat (with_reducible refine And.intro (by first | assumption | omega | (simp; done) | (simp; omega)) ?_)
       refine callG_X (by first | rfl | (simp only [go_sem]; done) | (simp only [closedL, closedT, Bool.and_true]; exact closedL_map _ (fun _ => by first | rfl | (simp only [go_sem]; done)) _)) (F70_ok m1 ((a0.getD x4.toNat 0).toNat : Int) _ h7) (by repeat (first | exact leL_refl _ | refine leL_cons (by first | exact leT_refl _ | exact leT_virt | exact leT_junk _ | exact leT_sl | exact leT_sln | exact leT_nil | (refine leT_agg (by repeat (first | exact leL_refl _ | refine leL_cons (by first | exact leT_refl _ | exact leT_sl | exact leT_sln | exact leT_nil) ?_)))) ?_)) ?_
       try simp -implicitDefEqProofs (maxSteps := 4000000) (disch := first | omega | decide | (simp only [go_sem]; omega)) only [go_sem, ↓reduceIte]
       repeat (with_reducible refine And.intro (by first | assumption | omega | (simp; done) | (simp; omega)) ?_)
       refine toEnd hC ?_
       refine endX_seq ?_
       rcases iteB_some h with ⟨c8, h⟩ | ⟨c8, h⟩
       ·refine runX_condT rfl c8 ?_
        refine runX_seq ?_
        refine runX_regionC fun C hC => ?_
        try simp -implicitDefEqProofs (disch := omega) only [go_sem, ↓reduceIte]
        refine toEnd hC ?_
        refine endX_seq ?_
        refine runX_ret ?_
        refine endX_seqR ?_
        refine endX_blkR ?_
        refine endX_seqR ?_
        refine endX_q (roundQ_ret ?_)
        refine endX_blkR ?_
        refine endX_seqR ?_
        refine endX_q ?_
        obtain rfl := Option.some.inj h
        show RetW _ _ _ _ _
        simp only [RetW]
        (try simp -implicitDefEqProofs (maxSteps := 4000000) (disch := first | omega | decide | (simp only [go_sem]; omega)) only [go_sem, ↓reduceIte])
        (try simp (disch := omega) only [if_pos, Nat.sub_zero])
        exact leT_refl _
       ·refine runX_condF rfl c8 ?_
        refine runX_skip ?_
        refine endX_seq ?_
        refine runX_regionC fun C hC => ?_
        obtain ⟨g9, h⟩ := grd_some h
        try simp -implicitDefEqProofs (maxSteps := 4000000) (disch := first | omega | decide | (simp only [go_sem]; omega)) only [go_sem, ↓reduceIte]
        repeat (with_reducible refine And.intro (by first | assumption | omega | (simp; done) | (simp; omega)) ?_)
        refine toEnd hC ?_
        refine endX_blk ?_
        refine endX_seq ?_
        refine runX_regionC fun C hC => ?_
        try simp -implicitDefEqProofs (disch := omega) only [go_sem, ↓reduceIte]
        refine toEnd hC ?_
        refine endX_q (roundQ_normal ⟨m1, by omega, F78_S1 a0 (IntKind.wrap .i64 ((IntKind.wrap .i64 (x3 * (10 : Int))) + (IntKind.wrap .i64 ((IntKind.wrap .u8 (((a0.getD x4.toNat 0).toNat : Int) - (48 : Int))))))) (IntKind.wrap .i64 (x4 + (1 : Int))), ?_, (IntKind.wrap .i64 ((IntKind.wrap .i64 (x3 * (10 : Int))) + (IntKind.wrap .i64 ((IntKind.wrap .u8 (((a0.getD x4.toNat 0).toNat : Int) - (48 : Int))))))), (IntKind.wrap .i64 (x4 + (1 : Int))), rfl, by omega, h⟩)
        simp only [F78_S1]
        (try simp -implicitDefEqProofs (disch := omega) only [go_sem, ↓reduceIte])
        exact leS_refl _
      ·refine runX_condF rfl c5 ?_
       refine runX_exit ?_
       refine endX_seqE ?_
       refine endX_q (roundQ_exit ?_)
       refine endX_blkE ?_
       refine endX_seq ?_
       refine runX_seq ?_
       refine runX_regionC fun C hC => ?_
       try simp -implicitDefEqProofs (disch := omega) only [go_sem, ↓reduceIte]
       refine toEnd hC ?_
       refine endX_seq ?_
       refine runX_ret ?_
       refine endX_q ?_
       obtain rfl := Option.some.inj h
       show RetW _ _ _ _ _
       simp only [RetW]
       (try simp -implicitDefEqProofs (disch := omega) only [go_sem, ↓reduceIte])
       (try simp (disch := omega) only [if_pos, Nat.sub_zero])
       exact leT_refl _
end Go.Proofs.YtaiapalhdejngaaX

set_option linter.unusedVariables false
set_option linter.unusedSimpArgs false
namespace Go.Proofs.YtaiapalhdejngaaX
open Go Go.RowKit Go.Proofs
set_option maxRecDepth 100000
attribute [local go_sem ↓] stepsK_build stepsK_bs appendS
attribute [local go_sem] String.reduceEq String.reduceNe reduceCtorEq Int.reduceEq Nat.reduceAdd Nat.reduceSub Nat.reduceMul Nat.reduceLT Nat.reduceLeDiff Nat.reduceEqDiff Nat.reduceBEq Int.reduceToNat Int.reduceLT Int.reduceLE Int.reduceGT Int.reduceGE Int.reduceAdd Int.reduceSub Int.reduceMul Int.reduceNeg Int.reduceBEq Int.reduceBNe Int.reducePow Int.reduceDiv Int.reduceMod Int.reduceTDiv Int.reduceTMod Int.reduceNatCast
/-! ### etag.Count -/
def F41 (n : Nat) (a0 : List UInt8) : Option (Int) := (F73 n a0 ([45] : List UInt8)).bind fun v1 => (F37 n v1.1).bind fun v2 => iteB (!v2.2) (some (0 : Int)) (iteB (!v1.2.2) (some (1 : Int)) ((F78 n v1.2.1).bind fun v5 => iteB (!v5.2) (some (0 : Int)) (iteB (decide (v5.1 < (1 : Int))) (some (0 : Int)) (iteB (decide ((10000 : Int) < v5.1)) (some (0 : Int)) ((F55 n v5.1).bind fun v9 => iteB (!(v9 == v1.2.1)) (some (0 : Int)) (some v5.1))))))
set_option maxHeartbeats 4000000 in
theorem F41_ok : ∀ (n : Nat) (a0 : List UInt8) (r : Int), F41 n a0 = some r → FnC Try.prog 41 [.imm (.string (bs a0))] (.imm (.int .i64 r))
 | n, a0, r, h => by
  unfold F41 at h
  refine FnC.goX mixed Try.func41 (by kernel_rfl) rfl ?_
  simp only [Try.ntmps41, List.length_cons, List.length_nil, List.replicate, List.cons_append, List.nil_append, Nat.reduceAdd, Nat.reduceSub]
  refine runX_seq ?_
  refine runX_regionC fun C hC => ?_
  try simp -implicitDefEqProofs (disch := omega) only [go_sem, ↓reduceIte]
  refine toEnd hC ?_
  refine endX_seq ?_
  refine runX_seq ?_
  refine runX_regionC fun C hC => ?_
  obtain ⟨v1, h1, h⟩ := bnd_some h
  try simp -implicitDefEqProofs (maxSteps := 4000000) (disch := first | omega | decide | (simp only [go_sem]; omega)) only [go_sem, ↓reduceIte]
  repeat (with_reducible refine And.intro (by first | assumption | omega | (simp; done) | (simp; omega)) ?_)
  refine callG_X (by first | rfl | (simp only [go_sem]; done) | (simp only [closedL, closedT, Bool.and_true]; exact closedL_map _ (fun _ => by first | rfl | (simp only [go_sem]; done)) _)) (F73_ok n a0 ([45] : List UInt8) _ h1) (by repeat (first | exact leL_refl _ | refine leL_cons (by first | exact leT_refl _ | exact leT_virt | exact leT_junk _ | exact leT_sl | exact leT_sln | exact leT_nil | (refine leT_agg (by repeat (first | exact leL_refl _ | refine leL_cons (by first | exact leT_refl _ | exact leT_sl | exact leT_sln | exact leT_nil) ?_)))) ?_)) ?_
  try simp -implicitDefEqProofs (maxSteps := 4000000) (disch := first | omega | decide | (simp only [go_sem]; omega)) only [go_sem, ↓reduceIte]
  repeat (with_reducible refine And.intro (by first | assumption | omega | (simp; done) | (simp; omega)) ?_)
  refine toEnd hC ?_
  refine endX_seq ?_
  refine runX_seq ?_
  refine runX_seq ?_
  refine runX_regionC fun C hC => ?_
  obtain ⟨v2, h2, h⟩ := bnd_some h
  try simp -implicitDefEqProofs (maxSteps := 4000000) (disch := first | omega | decide | (simp only [go_sem]; omega)) only [go_sem, ↓reduceIte]
  repeat (with_reducible refine And.intro (by first | assumption | omega | (simp; done) | (simp; omega)) ?_)
  refine callG_X (by first | rfl | (simp only [go_sem]; done) | (simp only [closedL, closedT, Bool.and_true]; exact closedL_map _ (fun _ => by first | rfl | (simp only [go_sem]; done)) _)) (F37_ok n v1.1 _ h2) (by repeat (first | exact leL_refl _ | refine leL_cons (by first | exact leT_refl _ | exact leT_virt | exact leT_junk _ | exact leT_sl | exact leT_sln | exact leT_nil | (refine leT_agg (by repeat (first | exact leL_refl _ | refine leL_cons (by first | exact leT_refl _ | exact leT_sl | exact leT_sln | exact leT_nil) ?_)))) ?_)) ?_
  try simp -implicitDefEqProofs (maxSteps := 4000000) (disch := first | omega | decide | (simp only [go_sem]; omega)) only [go_sem, ↓reduceIte]
  repeat (with_reducible refine And.intro (by first | assumption | omega | (simp; done) | (simp; omega)) ?_)
  refine toEnd hC ?_
  refine endX_seq ?_
  refine runX_seq ?_
  refine runX_regionC fun C hC => ?_
  try simp -implicitDefEqProofs (disch := omega) only [go_sem, ↓reduceIte]
  refine toEnd hC ?_
  refine endX_seq ?_
  rcases iteB_some h with ⟨c3, h⟩ | ⟨c3, h⟩
  ·refine runX_condT rfl c3 ?_
   refine runX_seq ?_
   refine runX_regionC fun C hC => ?_
   try simp -implicitDefEqProofs (disch := omega) only [go_sem, ↓reduceIte]
   refine toEnd hC ?_
   refine endX_seq ?_
   refine runX_ret ?_
   refine endX_seqR ?_
   refine endX_q ?_
   obtain rfl := Option.some.inj h
   show RetW _ _ _ _ _
   simp only [RetW]
   (try simp -implicitDefEqProofs (disch := omega) only [go_sem, ↓reduceIte])
   (try simp (disch := omega) only [if_pos, Nat.sub_zero])
   exact leT_refl _
  ·refine runX_condF rfl c3 ?_
   refine runX_skip ?_
   refine endX_seq ?_
   refine runX_seq ?_
   refine runX_seq ?_
   refine runX_regionC fun C hC => ?_
   try simp -implicitDefEqProofs (disch := omega) only [go_sem, ↓reduceIte]
   refine toEnd hC ?_
   refine endX_seq ?_
   rcases iteB_some h with ⟨c4, h⟩ | ⟨c4, h⟩
   ·refine runX_condT rfl c4 ?_
    refine runX_seq ?_
    refine runX_regionC fun C hC => ?_
    try simp -implicitDefEqProofs (disch := omega) only [go_sem, ↓reduceIte]
    refine toEnd hC ?_
    refine endX_seq ?_
    refine runX_ret ?_
    refine endX_seqR ?_
    refine endX_q ?_
    obtain rfl := Option.some.inj h
    show RetW _ _ _ _ _
    simp only [RetW]
    (try simp -implicitDefEqProofs (maxSteps := 4000000) (disch := first | omega | decide | (simp only [go_sem]; omega)) only [go_sem, ↓reduceIte])
    (try simp (disch := omega) only [if_pos, Nat.sub_zero])
    exact leT_refl _
   ·refine runX_condF rfl c4 ?_
    refine runX_skip ?_
    refine endX_seq ?_
    refine runX_seq ?_
    refine runX_regionC fun C hC => ?_
    obtain ⟨v5, h5, h⟩ := bnd_some h
    try simp -implicitDefEqProofs (maxSteps := 4000000) (disch := first | omega | decide | (simp only [go_sem]; omega)) only [go_sem, ↓reduceIte]
    repeat (with_reducible refine And.intro (by first | assumption | omega | (simp; done) | (simp; omega)) ?_)
    refine callG_X (by first | rfl | (simp only [go_sem]; done) | (simp only [closedL, closedT, Bool.and_true]; exact closedL_map _ (fun _ => by first | rfl | (simp only [go_sem]; done)) _)) (F78_ok n v1.2.1 _ h5) (by repeat (first | exact leL_refl _ | refine leL_cons (by first | exact leT_refl _ | exact leT_virt | exact leT_junk _ | exact leT_sl | exact leT_sln | exact leT_nil | (refine leT_agg (by repeat (first | exact leL_refl _ | refine leL_cons (by first | exact leT_refl _ | exact leT_sl | exact leT_sln | exact leT_nil) ?_)))) ?_)) ?_
    try simp -implicitDefEqProofs (maxSteps := 4000000) (disch := first | omega | decide | (simp only [go_sem]; omega)) only [go_sem, ↓reduceIte]
    repeat (with_reducible refine And.intro (by first | assumption | omega | (simp; done) | (simp; omega)) ?_)
    refine toEnd hC ?_
    refine endX_seq ?_
    refine runX_seq ?_
    refine runX_seq ?_
    refine runX_regionC fun C hC => ?_
    try simp -implicitDefEqProofs (disch := omega) only [go_sem, ↓reduceIte]
    rcases iteB_some h with ⟨c6, h⟩ | ⟨c6, h⟩
    ·refine guardK_F c6 ?_
     try simp -implicitDefEqProofs (disch := omega) only [go_sem, ↓reduceIte]
     refine toEnd hC ?_
     refine endX_seq ?_
     refine runX_condT rfl rfl ?_
     refine runX_seq ?_
     refine runX_regionC fun C hC => ?_
     try simp -implicitDefEqProofs (disch := omega) only [go_sem, ↓reduceIte]
     refine toEnd hC ?_
     refine endX_seq ?_
     refine runX_ret ?_
     refine endX_seqR ?_
     refine endX_q ?_
     obtain rfl := Option.some.inj h
     show RetW _ _ _ _ _
     simp only [RetW]
     (try simp -implicitDefEqProofs (disch := omega) only [go_sem, ↓reduceIte])
     (try simp (disch := omega) only [if_pos, Nat.sub_zero])
     exact leT_refl _
    ·refine guardK_T c6 ?_
     try simp -implicitDefEqProofs (disch := omega) only [go_sem, ↓reduceIte]
     rcases iteB_some h with ⟨c7, h⟩ | ⟨c7, h⟩
     ·refine guardK_F c7 ?_
      try simp -implicitDefEqProofs (disch := omega) only [go_sem, ↓reduceIte]
      refine toEnd hC ?_
      refine endX_seq ?_
      refine runX_condT rfl rfl ?_
      refine runX_seq ?_
      refine runX_regionC fun C hC => ?_
      try simp -implicitDefEqProofs (disch := omega) only [go_sem, ↓reduceIte]
      refine toEnd hC ?_
      refine endX_seq ?_
      refine runX_ret ?_
      refine endX_seqR ?_
      refine endX_q ?_
      obtain rfl := Option.some.inj h
      show RetW _ _ _ _ _
      simp only [RetW]
      (try simp -implicitDefEqProofs (disch := omega) only [go_sem, ↓reduceIte])
      (try simp (disch := omega) only [if_pos, Nat.sub_zero])
      exact leT_refl _
     ·refine guardK_T c7 ?_
      try simp -implicitDefEqProofs (disch := omega) only [go_sem, ↓reduceIte]
      rcases iteB_some h with ⟨c8, h⟩ | ⟨c8, h⟩
      ·refine guardK_F c8 ?_
       try simp -implicitDefEqProofs (disch := omega) only [go_sem, ↓reduceIte]
       refine toEnd hC ?_
       refine endX_seq ?_
       refine runX_condT rfl rfl ?_
       refine runX_seq ?_
       refine runX_regionC fun C hC => ?_
       try simp -implicitDefEqProofs (disch := omega) only [go_sem, ↓reduceIte]
       refine toEnd hC ?_
       refine endX_seq ?_
       refine runX_ret ?_
       refine endX_seqR ?_
       refine endX_q ?_
       obtain rfl := Option.some.inj h
       show RetW _ _ _ _ _
       simp only [RetW]
       (try simp -implicitDefEqProofs (maxSteps := 4000000) (disch := first | omega | decide | (simp only [go_sem]; omega)) only [go_sem, ↓reduceIte])
       (try simp (disch := omega) only [if_pos, Nat.sub_zero])
       exact leT_refl _
      ·refine guardK_T c8 ?_
       obtain ⟨v9, h9, h⟩ := bnd_some h
       try simp -implicitDefEqProofs (maxSteps := 4000000) (disch := first | omega | decide | (simp only [go_sem]; omega)) only [go_sem, ↓reduceIte]
       repeat (with_reducible refine And.intro (by first | assumption | omega | (simp; done) | (simp; omega)) ?_)
       refine callG_X (by first | rfl | (simp only [go_sem]; done) | (simp only [closedL, closedT, Bool.and_true]; exact closedL_map _ (fun _ => by first | rfl | (simp only [go_sem]; done)) _)) (F55_ok n v5.1 _ h9) (by repeat (first | exact leL_refl _ | refine leL_cons (by first | exact leT_refl _ | exact leT_virt | exact leT_junk _ | exact leT_sl | exact leT_sln | exact leT_nil | (refine leT_agg (by repeat (first | exact leL_refl _ | refine leL_cons (by first | exact leT_refl _ | exact leT_sl | exact leT_sln | exact leT_nil) ?_)))) ?_)) ?_
       try simp -implicitDefEqProofs (maxSteps := 4000000) (disch := first | omega | decide | (simp only [go_sem]; omega)) only [go_sem, ↓reduceIte]
       repeat (with_reducible refine And.intro (by first | assumption | omega | (simp; done) | (simp; omega)) ?_)
       refine toEnd hC ?_
       refine endX_seq ?_
       rcases iteB_some h with ⟨c10, h⟩ | ⟨c10, h⟩
       ·refine runX_condT rfl c10 ?_
        refine runX_seq ?_
        refine runX_regionC fun C hC => ?_
        try simp -implicitDefEqProofs (disch := omega) only [go_sem, ↓reduceIte]
        refine toEnd hC ?_
        refine endX_seq ?_
        refine runX_ret ?_
        refine endX_seqR ?_
        refine endX_q ?_
        obtain rfl := Option.some.inj h
        show RetW _ _ _ _ _
        simp only [RetW]
        (try simp -implicitDefEqProofs (disch := omega) only [go_sem, ↓reduceIte])
        (try simp (disch := omega) only [if_pos, Nat.sub_zero])
        exact leT_refl _
       ·refine runX_condF rfl c10 ?_
        refine runX_skip ?_
        refine endX_seq ?_
        refine runX_seq ?_
        refine runX_regionC fun C hC => ?_
        try simp -implicitDefEqProofs (disch := omega) only [go_sem, ↓reduceIte]
        refine toEnd hC ?_
        refine endX_seq ?_
        refine runX_ret ?_
        refine endX_q ?_
        obtain rfl := Option.some.inj h
        show RetW _ _ _ _ _
        simp only [RetW]
        (try simp -implicitDefEqProofs (disch := omega) only [go_sem, ↓reduceIte])
        (try simp (disch := omega) only [if_pos, Nat.sub_zero])
        exact leT_refl _
end Go.Proofs.YtaiapalhdejngaaX

set_option linter.unusedVariables false
set_option linter.unusedSimpArgs false
namespace Go.Proofs.YtaiapalhdejngaaX
open Go Go.RowKit Go.Proofs
set_option maxRecDepth 100000
attribute [local go_sem ↓] stepsK_build stepsK_bs appendS
attribute [local go_sem] String.reduceEq String.reduceNe reduceCtorEq Int.reduceEq Nat.reduceAdd Nat.reduceSub Nat.reduceMul Nat.reduceLT Nat.reduceLeDiff Nat.reduceEqDiff Nat.reduceBEq Int.reduceToNat Int.reduceLT Int.reduceLE Int.reduceGT Int.reduceGE Int.reduceAdd Int.reduceSub Int.reduceMul Int.reduceNeg Int.reduceBEq Int.reduceBNe Int.reducePow Int.reduceDiv Int.reduceMod Int.reduceTDiv Int.reduceTMod Int.reduceNatCast
/-! ### shadowboxref04.digit -/
def F58 (n : Nat) (a0 : Int) : Option (List UInt8) := grd (0 ≤ a0 ∧ a0 ≤ (IntKind.wrap .i64 (a0 + (1 : Int))) ∧ (IntKind.wrap .i64 (a0 + (1 : Int))) ≤ (16 : Int)) (some ((([48, 49, 50, 51, 52, 53, 54, 55, 56, 57, 97, 98, 99, 100, 101, 102] : List UInt8).take (IntKind.wrap .i64 (a0 + (1 : Int))).toNat).drop a0.toNat))
set_option maxHeartbeats 4000000 in
theorem F58_ok : ∀ (n : Nat) (a0 : Int) (r : List UInt8), F58 n a0 = some r → FnC Try.prog 58 [.imm (.int .i64 a0)] (.imm (.string (bs r)))
 | n, a0, r, h => by
  unfold F58 at h
  refine FnC.goX mixed Try.func58 (by kernel_rfl) rfl ?_
  simp only [Try.ntmps58, List.length_cons, List.length_nil, List.replicate, List.cons_append, List.nil_append, Nat.reduceAdd, Nat.reduceSub]
  refine runX_seq ?_
  refine runX_regionC fun C hC => ?_
  try simp -implicitDefEqProofs (maxSteps := 4000000) (disch := first | omega | decide | (simp only [go_sem]; omega)) only [go_sem, ↓reduceIte]
  repeat (with_reducible refine And.intro (by first | assumption | omega | (simp; done) | (simp; omega)) ?_)
  refine toEnd hC ?_
  refine endX_seq ?_
  refine runX_seq ?_
  refine runX_regionC fun C hC => ?_
  obtain ⟨g1, h⟩ := grd_some h
  try simp -implicitDefEqProofs (maxSteps := 4000000) (disch := first | omega | decide | (simp only [go_sem]; omega)) only [go_sem, ↓reduceIte]
  repeat (with_reducible refine And.intro (by first | assumption | omega | (simp; done) | (simp; omega)) ?_)
  refine toEnd hC ?_
  refine endX_seq ?_
  refine runX_ret ?_
  refine endX_q ?_
  obtain rfl := Option.some.inj h
  show RetW _ _ _ _ _
  simp only [RetW]
  (try simp -implicitDefEqProofs (maxSteps := 4000000) (disch := first | omega | decide | (simp only [go_sem]; omega)) only [go_sem, ↓reduceIte])
  (try simp (disch := omega) only [if_pos, Nat.sub_zero])
  exact leT_refl _
end Go.Proofs.YtaiapalhdejngaaX

set_option linter.unusedVariables false
set_option linter.unusedSimpArgs false
namespace Go.Proofs.YtaiapalhdejngaaX
open Go Go.RowKit Go.Proofs
set_option maxRecDepth 100000
attribute [local go_sem ↓] stepsK_build stepsK_bs appendS
attribute [local go_sem] String.reduceEq String.reduceNe reduceCtorEq Int.reduceEq Nat.reduceAdd Nat.reduceSub Nat.reduceMul Nat.reduceLT Nat.reduceLeDiff Nat.reduceEqDiff Nat.reduceBEq Int.reduceToNat Int.reduceLT Int.reduceLE Int.reduceGT Int.reduceGE Int.reduceAdd Int.reduceSub Int.reduceMul Int.reduceNeg Int.reduceBEq Int.reduceBNe Int.reducePow Int.reduceDiv Int.reduceMod Int.reduceTDiv Int.reduceTMod Int.reduceNatCast
/-! ### shadowboxref04.Decimal -/
def F22_S1 (x5 : Int) (x6 : List UInt8) : St := ⟨[.imm (.int .i64 x5), .junk, .junk, .imm (.string (bs x6)), .junk, .junk, .junk, .junk, .junk, .junk, .junk, .junk, .junk, .junk, .junk, .junk, .junk, .junk, .junk, .junk, .junk, .junk, .junk, .junk, .junk, .junk, .junk, .junk, .junk, .junk, .junk, .junk, .junk], []⟩
def F22_S2 (x15 : Int) (x16 : List UInt8) : St := ⟨[.imm (.int .i64 x15), .junk, .junk, .imm (.string (bs x16)), .junk, .junk, .junk, .junk, .junk, .junk, .junk, .junk, .junk, .junk, .junk, .junk, .junk, .junk, .junk, .junk, .junk, .junk, .junk, .junk, .junk, .junk, .junk, .junk, .junk, .junk, .junk, .junk, .junk], []⟩
mutual
def F22_L1 : Nat → (Int) → (List UInt8) → Option (List UInt8)
 | 0, _, _ => none
 | m1 + 1, x5, x6 => iteB (decide (x5 < (0 : Int))) ((F58 m1 (IntKind.wrap .i64 ((0 : Int) - (x5.tmod (10 : Int))))).bind fun v8 => grd (v8.length + x6.length ≤ 9223372036854775807) (F22_L1 m1 (IntKind.wrap .i64 (x5.tdiv (10 : Int))) (v8 ++ x6))) (grd (1 + x6.length ≤ 9223372036854775807) (some (([45] : List UInt8) ++ x6)))
def F22_L2 : Nat → (Int) → (List UInt8) → Option (List UInt8)
 | 0, _, _ => none
 | m2 + 1, x15, x16 => iteB (decide (x15 < (0 : Int))) ((F58 m2 (IntKind.wrap .i64 ((0 : Int) - (x15.tmod (10 : Int))))).bind fun v18 => grd (v18.length + x16.length ≤ 9223372036854775807) (F22_L2 m2 (IntKind.wrap .i64 (x15.tdiv (10 : Int))) (v18 ++ x16))) (grd (1 + x16.length ≤ 9223372036854775807) (some (([45] : List UInt8) ++ x16)))
def F22 : Nat → (Int) → Option (List UInt8)
 | 0, _ => none
 | n + 1, a0 => iteB (decide ((0 : Int) ≤ a0)) (iteB (decide (a0 < (10 : Int))) ((F58 n a0).bind fun v3 => some v3) (iteB (decide (a0 < (0 : Int))) (F22_L1 n a0 []) ((F22 n (IntKind.wrap .i64 (a0.tdiv (10 : Int)))).bind fun v11 => (F58 n (a0.tmod (10 : Int))).bind fun v12 => grd (v11.length + v12.length ≤ 9223372036854775807) (some (v11 ++ v12))))) (iteB (decide (a0 < (0 : Int))) (F22_L2 n a0 []) ((F22 n (IntKind.wrap .i64 (a0.tdiv (10 : Int)))).bind fun v21 => (F58 n (a0.tmod (10 : Int))).bind fun v22 => grd (v21.length + v22.length ≤ 9223372036854775807) (some (v21 ++ v22))))
end
set_option maxHeartbeats 4000000 in
theorem F22_okB : ∀ (N n : Nat), n ≤ N → ∀ (a0 : Int) (r : List UInt8), F22 n a0 = some r → FnC Try.prog 22 [.imm (.int .i64 a0)] (.imm (.string (bs r))) := by
 intro N
 induction N with
 | zero =>
  intro n hN a0 r h
  obtain rfl : n = 0 := by omega
  first | cases (show (none : Option _) = some _ from h) | (rw [F22] at h; cases h)
 | succ N IH =>
  intro n hN a0 r h
  cases n with
  | zero => first | cases (show (none : Option _) = some _ from h) | (rw [F22] at h; cases h)
  | succ n =>
   rw [F22] at h
   refine FnC.goX mixed Try.func22 (by kernel_rfl) rfl ?_
   simp only [Try.ntmps22, List.length_cons, List.length_nil, List.replicate, List.cons_append, List.nil_append, Nat.reduceAdd, Nat.reduceSub]
   refine runX_seq ?_
   refine runX_regionC fun C hC => ?_
   try simp -implicitDefEqProofs (disch := omega) only [go_sem, ↓reduceIte]
   refine toEnd hC ?_
   refine endX_seq ?_
   refine runX_seq ?_
   refine runX_seq ?_
   refine runX_regionC fun C hC => ?_
   try simp -implicitDefEqProofs (disch := omega) only [go_sem, ↓reduceIte]
   rcases iteB_some h with ⟨c1, h⟩ | ⟨c1, h⟩
   ·refine guardK_T c1 ?_
    try simp -implicitDefEqProofs (disch := omega) only [go_sem, ↓reduceIte]
    refine toEnd hC ?_
    refine endX_seq ?_
    rcases iteB_some h with ⟨c2, h⟩ | ⟨c2, h⟩
    ·refine runX_condT rfl c2 ?_
     refine runX_seq ?_
     refine runX_regionC fun C hC => ?_
     obtain ⟨v3, h3, h⟩ := bnd_some h
     try simp -implicitDefEqProofs (disch := omega) only [go_sem, ↓reduceIte]
     refine callG_X rfl (F58_ok n a0 _ h3) (leL_refl _) ?_
     try simp -implicitDefEqProofs (disch := omega) only [go_sem, ↓reduceIte]
     refine toEnd hC ?_
     refine endX_seq ?_
     refine runX_ret ?_
     refine endX_seqR ?_
     refine endX_q ?_
     obtain rfl := Option.some.inj h
     show RetW _ _ _ _ _
     simp only [RetW]
     (try simp -implicitDefEqProofs (disch := omega) only [go_sem, ↓reduceIte])
     (try simp (disch := omega) only [if_pos, Nat.sub_zero])
     exact leT_refl _
    ·refine runX_condF rfl c2 ?_
     refine runX_skip ?_
     refine endX_seq ?_
     refine runX_seq ?_
     refine runX_seq ?_
     refine runX_regionC fun C hC => ?_
     try simp -implicitDefEqProofs (disch := omega) only [go_sem, ↓reduceIte]
     refine toEnd hC ?_
     refine endX_seq ?_
     rcases iteB_some h with ⟨c4, h⟩ | ⟨c4, h⟩
     ·refine runX_condT rfl c4 ?_
      refine runX_seq ?_
      refine runX_regionC fun C hC => ?_
      try simp -implicitDefEqProofs (disch := omega) only [go_sem, ↓reduceIte]
      refine toEnd hC ?_
      refine endX_seq ?_
      refine runX_seq ?_
      refine runX_block ?_
      refine runX_loop [0, 3] (fun m S => ∃ (x5 : Int) (x6 : List UInt8), S = F22_S1 x5 x6 ∧ m ≤ n ∧ F22_L1 m x5 x6 = some r) n ⟨F22_S1 a0 [], ?_, a0, [], rfl, Nat.le_refl _, h⟩ ?_
      ·simp only [F22_S1]
       (try simp -implicitDefEqProofs (disch := omega) only [go_sem, ↓reduceIte])
       exact leS_refl _
      ·clear h
       rintro m1 S ⟨x5, x6, rfl, hm1, h⟩
       cases m1 with
       | zero => first | cases (show (none : Option _) = some _ from h) | (rw [F22_L1] at h; cases h)
       | succ m1 =>
        rw [F22_L1] at h
        simp only [F22_S1]
        refine runX_seq ?_
        refine runX_seq ?_
        refine runX_regionC fun C hC => ?_
        try simp -implicitDefEqProofs (disch := omega) only [go_sem, ↓reduceIte]
        refine toEnd hC ?_
        refine endX_seq ?_
        rcases iteB_some h with ⟨c7, h⟩ | ⟨c7, h⟩
        ·refine runX_condT rfl c7 ?_
         refine runX_skip ?_
         refine endX_seq ?_
         refine runX_block ?_
         refine runX_seq ?_
         refine runX_regionC fun C hC => ?_
         obtain ⟨v8, h8, h⟩ := bnd_some h
         try simp -implicitDefEqProofs (maxSteps := 4000000) (disch := first | omega | decide | (simp only [go_sem]; omega)) only [go_sem, ↓reduceIte]
         repeat (with_reducible refine And.intro (by first | assumption | omega | (simp; done) | (simp; omega)) ?_)
         refine callG_X (by simp only [go_sem]) (F58_ok m1 (IntKind.wrap .i64 ((0 : Int) - (x5.tmod (10 : Int)))) _ h8) (leL_refl _) ?_
         obtain ⟨g9, h⟩ := grd_some h
         try simp -implicitDefEqProofs (maxSteps := 4000000) (disch := first | omega | decide | (simp only [go_sem]; omega)) only [go_sem, ↓reduceIte]
         repeat (with_reducible refine And.intro (by first | assumption | omega | (simp; done) | (simp; omega)) ?_)
         refine toEnd hC ?_
         refine endX_seq ?_
         refine runX_regionC fun C hC => ?_
         try simp -implicitDefEqProofs (disch := omega) only [go_sem, ↓reduceIte]
         refine toEnd hC ?_
         refine endX_blk ?_
         refine endX_q (roundQ_normal ⟨m1, by omega, F22_S1 (IntKind.wrap .i64 (x5.tdiv (10 : Int))) (v8 ++ x6), ?_, (IntKind.wrap .i64 (x5.tdiv (10 : Int))), (v8 ++ x6), rfl, by omega, h⟩)
         simp only [F22_S1]
         (try simp -implicitDefEqProofs (maxSteps := 4000000) (disch := first | omega | decide | (simp only [go_sem]; omega)) only [go_sem, ↓reduceIte])
         exact leS_le (leL_refl _) (leOs_refl _)
        ·refine runX_condF rfl c7 ?_
         refine runX_exit ?_
         refine endX_seqE ?_
         refine endX_q (roundQ_exit ?_)
         refine endX_blkE ?_
         refine endX_seq ?_
         refine runX_seq ?_
         refine runX_regionC fun C hC => ?_
         obtain ⟨g10, h⟩ := grd_some h
         try simp -implicitDefEqProofs (maxSteps := 4000000) (disch := first | omega | decide | (simp only [go_sem]; omega)) only [go_sem, ↓reduceIte]
         repeat (with_reducible refine And.intro (by first | assumption | omega | (simp; done) | (simp; omega)) ?_)
         refine toEnd hC ?_
         refine endX_seq ?_
         refine runX_ret ?_
         refine endX_seqR ?_
         refine endX_q ?_
         obtain rfl := Option.some.inj h
         show RetW _ _ _ _ _
         simp only [RetW]
         (try simp -implicitDefEqProofs (maxSteps := 4000000) (disch := first | omega | decide | (simp only [go_sem]; omega)) only [go_sem, ↓reduceIte])
         (try simp (disch := omega) only [if_pos, Nat.sub_zero])
         exact leT_refl _
     ·refine runX_condF rfl c4 ?_
      refine runX_skip ?_
      refine endX_seq ?_
      refine runX_seq ?_
      refine runX_regionC fun C hC => ?_
      obtain ⟨v11, h11, h⟩ := bnd_some h
      try simp -implicitDefEqProofs (maxSteps := 4000000) (disch := first | omega | decide | (simp only [go_sem]; omega)) only [go_sem, ↓reduceIte]
      repeat (with_reducible refine And.intro (by first | assumption | omega | (simp; done) | (simp; omega)) ?_)
      refine callG_X (by first | rfl | (simp only [go_sem]; done) | (simp only [closedL, closedT, Bool.and_true]; exact closedL_map _ (fun _ => by first | rfl | (simp only [go_sem]; done)) _)) (IH n (by omega) (IntKind.wrap .i64 (a0.tdiv (10 : Int))) _ h11) (by repeat (first | exact leL_refl _ | refine leL_cons (by first | exact leT_refl _ | exact leT_virt | exact leT_junk _ | exact leT_sl | exact leT_sln | exact leT_nil | (refine leT_agg (by repeat (first | exact leL_refl _ | refine leL_cons (by first | exact leT_refl _ | exact leT_sl | exact leT_sln | exact leT_nil) ?_)))) ?_)) ?_
      obtain ⟨v12, h12, h⟩ := bnd_some h
      try simp -implicitDefEqProofs (maxSteps := 4000000) (disch := first | omega | decide | (simp only [go_sem]; omega)) only [go_sem, ↓reduceIte]
      repeat (with_reducible refine And.intro (by first | assumption | omega | (simp; done) | (simp; omega)) ?_)
      refine callG_X (by simp only [go_sem]) (F58_ok n (a0.tmod (10 : Int)) _ h12) (leL_refl _) ?_
      obtain ⟨g13, h⟩ := grd_some h
      try simp -implicitDefEqProofs (maxSteps := 4000000) (disch := first | omega | decide | (simp only [go_sem]; omega)) only [go_sem, ↓reduceIte]
      repeat (with_reducible refine And.intro (by first | assumption | omega | (simp; done) | (simp; omega)) ?_)
      refine toEnd hC ?_
      refine endX_seq ?_
      refine runX_ret ?_
      refine endX_q ?_
      obtain rfl := Option.some.inj h
      show RetW _ _ _ _ _
      simp only [RetW]
      (try simp -implicitDefEqProofs (disch := omega) only [go_sem, ↓reduceIte])
      (try simp (disch := omega) only [if_pos, Nat.sub_zero])
      exact leT_refl _
   ·refine guardK_F c1 ?_
    try simp -implicitDefEqProofs (disch := omega) only [go_sem, ↓reduceIte]
    refine toEnd hC ?_
    refine endX_seq ?_
    refine runX_condF rfl rfl ?_
    refine runX_skip ?_
    refine endX_seq ?_
    refine runX_seq ?_
    refine runX_seq ?_
    refine runX_regionC fun C hC => ?_
    try simp -implicitDefEqProofs (disch := omega) only [go_sem, ↓reduceIte]
    refine toEnd hC ?_
    refine endX_seq ?_
    rcases iteB_some h with ⟨c14, h⟩ | ⟨c14, h⟩
    ·refine runX_condT rfl c14 ?_
     refine runX_seq ?_
     refine runX_regionC fun C hC => ?_
     try simp -implicitDefEqProofs (disch := omega) only [go_sem, ↓reduceIte]
     refine toEnd hC ?_
     refine endX_seq ?_
     refine runX_seq ?_
     refine runX_block ?_
     refine runX_loop [0, 3] (fun m S => ∃ (x15 : Int) (x16 : List UInt8), S = F22_S2 x15 x16 ∧ m ≤ n ∧ F22_L2 m x15 x16 = some r) n ⟨F22_S2 a0 [], ?_, a0, [], rfl, Nat.le_refl _, h⟩ ?_
     ·simp only [F22_S2]
      (try simp -implicitDefEqProofs (disch := omega) only [go_sem, ↓reduceIte])
      exact leS_refl _
     ·clear h
      rintro m2 S ⟨x15, x16, rfl, hm2, h⟩
      cases m2 with
      | zero => first | cases (show (none : Option _) = some _ from h) | (rw [F22_L2] at h; cases h)
      | succ m2 =>
       rw [F22_L2] at h
       simp only [F22_S2]
       refine runX_seq ?_
       refine runX_seq ?_
       refine runX_regionC fun C hC => ?_
       try simp -implicitDefEqProofs (disch := omega) only [go_sem, ↓reduceIte]
       refine toEnd hC ?_
       refine endX_seq ?_
       rcases iteB_some h with ⟨c17, h⟩ | ⟨c17, h⟩
       ·refine runX_condT rfl c17 ?_
        refine runX_skip ?_
        refine endX_seq ?_
        refine runX_block ?_
        refine runX_seq ?_
        refine runX_regionC fun C hC => ?_
        obtain ⟨v18, h18, h⟩ := bnd_some h
        try simp -implicitDefEqProofs (maxSteps := 4000000) (disch := first | omega | decide | (simp only [go_sem]; omega)) only [go_sem, ↓reduceIte]
        repeat (with_reducible refine And.intro (by first | assumption | omega | (simp; done) | (simp; omega)) ?_)
        refine callG_X (by simp only [go_sem]) (F58_ok m2 (IntKind.wrap .i64 ((0 : Int) - (x15.tmod (10 : Int)))) _ h18) (leL_refl _) ?_
        obtain ⟨g19, h⟩ := grd_some h
        try simp -implicitDefEqProofs (maxSteps := 4000000) (disch := first | omega | decide | (simp only [go_sem]; omega)) only [go_sem, ↓reduceIte]
        repeat (with_reducible refine And.intro (by first | assumption | omega | (simp; done) | (simp; omega)) ?_)
        refine toEnd hC ?_
        refine endX_seq ?_
        refine runX_regionC fun C hC => ?_
        try simp -implicitDefEqProofs (disch := omega) only [go_sem, ↓reduceIte]
        refine toEnd hC ?_
        refine endX_blk ?_
        refine endX_q (roundQ_normal ⟨m2, by omega, F22_S2 (IntKind.wrap .i64 (x15.tdiv (10 : Int))) (v18 ++ x16), ?_, (IntKind.wrap .i64 (x15.tdiv (10 : Int))), (v18 ++ x16), rfl, by omega, h⟩)
        simp only [F22_S2]
        (try simp -implicitDefEqProofs (maxSteps := 4000000) (disch := first | omega | decide | (simp only [go_sem]; omega)) only [go_sem, ↓reduceIte])
        exact leS_le (leL_refl _) (leOs_refl _)
       ·refine runX_condF rfl c17 ?_
        refine runX_exit ?_
        refine endX_seqE ?_
        refine endX_q (roundQ_exit ?_)
        refine endX_blkE ?_
        refine endX_seq ?_
        refine runX_seq ?_
        refine runX_regionC fun C hC => ?_
        obtain ⟨g20, h⟩ := grd_some h
        try simp -implicitDefEqProofs (maxSteps := 4000000) (disch := first | omega | decide | (simp only [go_sem]; omega)) only [go_sem, ↓reduceIte]
        repeat (with_reducible refine And.intro (by first | assumption | omega | (simp; done) | (simp; omega)) ?_)
        refine toEnd hC ?_
        refine endX_seq ?_
        refine runX_ret ?_
        refine endX_seqR ?_
        refine endX_q ?_
        obtain rfl := Option.some.inj h
        show RetW _ _ _ _ _
        simp only [RetW]
        (try simp -implicitDefEqProofs (maxSteps := 4000000) (disch := first | omega | decide | (simp only [go_sem]; omega)) only [go_sem, ↓reduceIte])
        (try simp (disch := omega) only [if_pos, Nat.sub_zero])
        exact leT_refl _
    ·refine runX_condF rfl c14 ?_
     refine runX_skip ?_
     refine endX_seq ?_
     refine runX_seq ?_
     refine runX_regionC fun C hC => ?_
     obtain ⟨v21, h21, h⟩ := bnd_some h
     try simp -implicitDefEqProofs (maxSteps := 4000000) (disch := first | omega | decide | (simp only [go_sem]; omega)) only [go_sem, ↓reduceIte]
     repeat (with_reducible refine And.intro (by first | assumption | omega | (simp; done) | (simp; omega)) ?_)
     refine callG_X (by first | rfl | (simp only [go_sem]; done) | (simp only [closedL, closedT, Bool.and_true]; exact closedL_map _ (fun _ => by first | rfl | (simp only [go_sem]; done)) _)) (IH n (by omega) (IntKind.wrap .i64 (a0.tdiv (10 : Int))) _ h21) (by repeat (first | exact leL_refl _ | refine leL_cons (by first | exact leT_refl _ | exact leT_virt | exact leT_junk _ | exact leT_sl | exact leT_sln | exact leT_nil | (refine leT_agg (by repeat (first | exact leL_refl _ | refine leL_cons (by first | exact leT_refl _ | exact leT_sl | exact leT_sln | exact leT_nil) ?_)))) ?_)) ?_
     obtain ⟨v22, h22, h⟩ := bnd_some h
     try simp -implicitDefEqProofs (maxSteps := 4000000) (disch := first | omega | decide | (simp only [go_sem]; omega)) only [go_sem, ↓reduceIte]
     repeat (with_reducible refine And.intro (by first | assumption | omega | (simp; done) | (simp; omega)) ?_)
     refine callG_X (by simp only [go_sem]) (F58_ok n (a0.tmod (10 : Int)) _ h22) (leL_refl _) ?_
     obtain ⟨g23, h⟩ := grd_some h
     try simp -implicitDefEqProofs (maxSteps := 4000000) (disch := first | omega | decide | (simp only [go_sem]; omega)) only [go_sem, ↓reduceIte]
     repeat (with_reducible refine And.intro (by first | assumption | omega | (simp; done) | (simp; omega)) ?_)
     refine toEnd hC ?_
     refine endX_seq ?_
     refine runX_ret ?_
     refine endX_q ?_
     obtain rfl := Option.some.inj h
     show RetW _ _ _ _ _
     simp only [RetW]
     (try simp -implicitDefEqProofs (disch := omega) only [go_sem, ↓reduceIte])
     (try simp (disch := omega) only [if_pos, Nat.sub_zero])
     exact leT_refl _
theorem F22_ok : ∀ (n : Nat) (a0 : Int) (r : List UInt8), F22 n a0 = some r → FnC Try.prog 22 [.imm (.int .i64 a0)] (.imm (.string (bs r))) := fun n => F22_okB n n (Nat.le_refl n)
end Go.Proofs.YtaiapalhdejngaaX

set_option linter.unusedVariables false
set_option linter.unusedSimpArgs false
namespace Go.Proofs.YtaiapalhdejngaaX
open Go Go.RowKit Go.Proofs
set_option maxRecDepth 100000
attribute [local go_sem ↓] stepsK_build stepsK_bs appendS
attribute [local go_sem] String.reduceEq String.reduceNe reduceCtorEq Int.reduceEq Nat.reduceAdd Nat.reduceSub Nat.reduceMul Nat.reduceLT Nat.reduceLeDiff Nat.reduceEqDiff Nat.reduceBEq Int.reduceToNat Int.reduceLT Int.reduceLE Int.reduceGT Int.reduceGE Int.reduceAdd Int.reduceSub Int.reduceMul Int.reduceNeg Int.reduceBEq Int.reduceBNe Int.reducePow Int.reduceDiv Int.reduceMod Int.reduceTDiv Int.reduceTMod Int.reduceNatCast
/-! ### shadowboxref04.ReadDecimal -/
def F59_S1 (a0 : List UInt8) (x3 : Int) (x4 : Int) : St := ⟨[.imm (.string (bs a0)), .junk, .junk, .junk, .imm (.int .i64 x3), .imm (.int .i64 x4), .junk, .junk, .junk, .junk, .junk, .junk, .junk, .junk, .junk, .junk, .junk, .junk, .junk, .junk, .junk, .junk, .junk, .junk, .junk, .junk, .junk, .junk, .junk, .junk, .junk, .junk, .junk], []⟩
def F59_L1 : Nat → (List UInt8) → (Int) → (Int) → Option ((Int) × (Bool))
 | 0, _, _, _ => none
 | m1 + 1, a0, x3, x4 => iteB (decide (x4 < (a0.length : Int))) (grd (0 ≤ x4 ∧ x4 < (a0.length : Int)) ((F71 m1 ((a0.getD x4.toNat 0).toNat : Int)).bind fun v7 => iteB (v7 != (1 : Int)) (some ((0 : Int), false)) (grd (0 ≤ x4 ∧ x4 < (a0.length : Int)) ((F94 m1 ((a0.getD x4.toNat 0).toNat : Int)).bind fun v10 => F59_L1 m1 a0 (IntKind.wrap .i64 ((IntKind.wrap .i64 (x3 * (10 : Int))) + v10)) (IntKind.wrap .i64 (x4 + (1 : Int))))))) (some (x3, true))
def F59 (n : Nat) (a0 : List UInt8) : Option ((Int) × (Bool)) := iteB ((a0.length : Int) == (0 : Int)) (some ((0 : Int), false)) (iteB (decide ((18 : Int) < (a0.length : Int))) (some ((0 : Int), false)) (F59_L1 n a0 (0 : Int) (0 : Int)))
set_option maxHeartbeats 4000000 in
theorem F59_ok : ∀ (n : Nat) (a0 : List UInt8) (r : (Int) × (Bool)), F59 n a0 = some r → FnC Try.prog 59 [.imm (.string (bs a0))] (.tup [.imm (.int .i64 r.1), .imm (.bool r.2)])
 | n, a0, r, h => by
  unfold F59 at h
  refine FnC.goX mixed Try.func59 (by kernel_rfl) rfl ?_
  simp only [Try.ntmps59, List.length_cons, List.length_nil, List.replicate, List.cons_append, List.nil_append, Nat.reduceAdd, Nat.reduceSub]
  refine runX_seq ?_
  refine runX_regionC fun C hC => ?_
  try simp -implicitDefEqProofs (disch := omega) only [go_sem, ↓reduceIte]
  refine toEnd hC ?_
  refine endX_seq ?_
  refine runX_seq ?_
  refine runX_seq ?_
  refine runX_regionC fun C hC => ?_
  try simp -implicitDefEqProofs (disch := omega) only [go_sem, ↓reduceIte]
  rcases iteB_some h with ⟨c1, h⟩ | ⟨c1, h⟩
  ·refine guardK_F c1 ?_
   try simp -implicitDefEqProofs (disch := omega) only [go_sem, ↓reduceIte]
   refine toEnd hC ?_
   refine endX_seq ?_
   refine runX_condT rfl rfl ?_
   refine runX_seq ?_
   refine runX_regionC fun C hC => ?_
   try simp -implicitDefEqProofs (disch := omega) only [go_sem, ↓reduceIte]
   refine toEnd hC ?_
   refine endX_seq ?_
   refine runX_ret ?_
   refine endX_seqR ?_
   refine endX_q ?_
   obtain rfl := Option.some.inj h
   show RetW _ _ _ _ _
   simp only [RetW]
   (try simp -implicitDefEqProofs (disch := omega) only [go_sem, ↓reduceIte])
   (try simp (disch := omega) only [if_pos, Nat.sub_zero])
   exact leT_refl _
  ·refine guardK_T c1 ?_
   try simp -implicitDefEqProofs (disch := omega) only [go_sem, ↓reduceIte]
   refine toEnd hC ?_
   refine endX_seq ?_
   rcases iteB_some h with ⟨c2, h⟩ | ⟨c2, h⟩
   ·refine runX_condT rfl c2 ?_
    refine runX_seq ?_
    refine runX_regionC fun C hC => ?_
    try simp -implicitDefEqProofs (disch := omega) only [go_sem, ↓reduceIte]
    refine toEnd hC ?_
    refine endX_seq ?_
    refine runX_ret ?_
    refine endX_seqR ?_
    refine endX_q ?_
    obtain rfl := Option.some.inj h
    show RetW _ _ _ _ _
    simp only [RetW]
    (try simp -implicitDefEqProofs (disch := omega) only [go_sem, ↓reduceIte])
    (try simp (disch := omega) only [if_pos, Nat.sub_zero])
    exact leT_refl _
   ·refine runX_condF rfl c2 ?_
    refine runX_skip ?_
    refine endX_seq ?_
    refine runX_seq ?_
    refine runX_regionC fun C hC => ?_
    try simp -implicitDefEqProofs (disch := omega) only [go_sem, ↓reduceIte]
    refine toEnd hC ?_
    refine endX_seq ?_
    refine runX_seq ?_
    refine runX_seq ?_
    refine runX_regionC fun C hC => ?_
    try simp -implicitDefEqProofs (disch := omega) only [go_sem, ↓reduceIte]
    refine toEnd hC ?_
    refine endX_seq ?_
    refine runX_block ?_
    refine runX_loop [0, 4, 5] (fun m S => ∃ (x3 : Int) (x4 : Int), S = F59_S1 a0 x3 x4 ∧ m ≤ n ∧ F59_L1 m a0 x3 x4 = some r) n ⟨F59_S1 a0 (0 : Int) (0 : Int), ?_, (0 : Int), (0 : Int), rfl, Nat.le_refl _, h⟩ ?_
    ·simp only [F59_S1]
     (try simp -implicitDefEqProofs (disch := omega) only [go_sem, ↓reduceIte])
     exact leS_refl _
    ·clear h
     rintro m1 S ⟨x3, x4, rfl, hm1, h⟩
     cases m1 with
     | zero => first | cases (show (none : Option _) = some _ from h) | (rw [F59_L1] at h; cases h)
     | succ m1 =>
      rw [F59_L1] at h
      simp only [F59_S1]
      refine runX_seq ?_
      refine runX_seq ?_
      refine runX_regionC fun C hC => ?_
      try simp -implicitDefEqProofs (maxSteps := 4000000) (disch := first | omega | decide | (simp only [go_sem]; omega)) only [go_sem, ↓reduceIte]
      repeat (with_reducible refine And.intro (by first | assumption | omega | (simp; done) | (simp; omega)) ?_)
      refine toEnd hC ?_
      refine endX_seq ?_
      rcases iteB_some h with ⟨c5, h⟩ | ⟨c5, h⟩
      ·refine runX_condT rfl c5 ?_
       refine runX_skip ?_
       refine endX_seq ?_
       refine runX_seq ?_
       refine runX_block ?_
       refine runX_seq ?_
       refine runX_seq ?_
       refine runX_regionC fun C hC => ?_
       obtain ⟨g6, h⟩ := grd_some h
       obtain ⟨v7, h7, h⟩ := bnd_some h
       try simp -implicitDefEqProofs (maxSteps := 4000000) (disch := first | omega | decide | (simp only [go_sem]; omega)) only [go_sem, ↓reduceIte]
       repeat (with_reducible refine And.intro (by first | assumption | omega | (simp; done) | (simp; omega)) ?_)
       refine callG_X (by first | rfl | (simp only [go_sem]; done) | (simp only [closedL, closedT, Bool.and_true]; exact closedL_map _ (fun _ => by first | rfl | (simp only [go_sem]; done)) _)) (F71_ok m1 ((a0.getD x4.toNat 0).toNat : Int) _ h7) (by repeat (first | exact leL_refl _ | refine leL_cons (by first | exact leT_refl _ | exact leT_virt | exact leT_junk _ | exact leT_sl | exact leT_sln | exact leT_nil | (refine leT_agg (by repeat (first | exact leL_refl _ | refine leL_cons (by first | exact leT_refl _ | exact leT_sl | exact leT_sln | exact leT_nil) ?_)))) ?_)) ?_
       try simp -implicitDefEqProofs (maxSteps := 4000000) (disch := first | omega | decide | (simp only [go_sem]; omega)) only [go_sem, ↓reduceIte]
       repeat (with_reducible refine And.intro (by first | assumption | omega | (simp; done) | (simp; omega)) ?_)
       refine toEnd hC ?_
       refine endX_seq ?_
       rcases iteB_some h with ⟨c8, h⟩ | ⟨c8, h⟩
       ·refine runX_condT rfl c8 ?_
        refine runX_seq ?_
        refine runX_regionC fun C hC => ?_
        try simp -implicitDefEqProofs (disch := omega) only [go_sem, ↓reduceIte]
        refine toEnd hC ?_
        refine endX_seq ?_
        refine runX_ret ?_
        refine endX_seqR ?_
        refine endX_blkR ?_
        refine endX_seqR ?_
        refine endX_q (roundQ_ret ?_)
        refine endX_blkR ?_
        refine endX_seqR ?_
        refine endX_q ?_
        obtain rfl := Option.some.inj h
        show RetW _ _ _ _ _
        simp only [RetW]
        (try simp -implicitDefEqProofs (maxSteps := 4000000) (disch := first | omega | decide | (simp only [go_sem]; omega)) only [go_sem, ↓reduceIte])
        (try simp (disch := omega) only [if_pos, Nat.sub_zero])
        exact leT_refl _
       ·refine runX_condF rfl c8 ?_
        refine runX_skip ?_
        refine endX_seq ?_
        refine runX_regionC fun C hC => ?_
        obtain ⟨g9, h⟩ := grd_some h
        obtain ⟨v10, h10, h⟩ := bnd_some h
        try simp -implicitDefEqProofs (maxSteps := 4000000) (disch := first | omega | decide | (simp only [go_sem]; omega)) only [go_sem, ↓reduceIte]
        repeat (with_reducible refine And.intro (by first | assumption | omega | (simp; done) | (simp; omega)) ?_)
        refine callG_X (by first | rfl | (simp only [go_sem]; done) | (simp only [closedL, closedT, Bool.and_true]; exact closedL_map _ (fun _ => by first | rfl | (simp only [go_sem]; done)) _)) (F94_ok m1 ((a0.getD x4.toNat 0).toNat : Int) _ h10) (by repeat (first | exact leL_refl _ | refine leL_cons (by first | exact leT_refl _ | exact leT_virt | exact leT_junk _ | exact leT_sl | exact leT_sln | exact leT_nil | (refine leT_agg (by repeat (first | exact leL_refl _ | refine leL_cons (by first | exact leT_refl _ | exact leT_sl | exact leT_sln | exact leT_nil) ?_)))) ?_)) ?_
        try simp -implicitDefEqProofs (maxSteps := 4000000) (disch := first | omega | decide | (simp only [go_sem]; omega)) only [go_sem, ↓reduceIte]
        repeat (with_reducible refine And.intro (by first | assumption | omega | (simp; done) | (simp; omega)) ?_)
        refine toEnd hC ?_
        refine endX_blk ?_
        refine endX_seq ?_
        refine runX_regionC fun C hC => ?_
        try simp -implicitDefEqProofs (disch := omega) only [go_sem, ↓reduceIte]
        refine toEnd hC ?_
        refine endX_q (roundQ_normal ⟨m1, by omega, F59_S1 a0 (IntKind.wrap .i64 ((IntKind.wrap .i64 (x3 * (10 : Int))) + v10)) (IntKind.wrap .i64 (x4 + (1 : Int))), ?_, (IntKind.wrap .i64 ((IntKind.wrap .i64 (x3 * (10 : Int))) + v10)), (IntKind.wrap .i64 (x4 + (1 : Int))), rfl, by omega, h⟩)
        simp only [F59_S1]
        (try simp -implicitDefEqProofs (disch := omega) only [go_sem, ↓reduceIte])
        exact leS_refl _
      ·refine runX_condF rfl c5 ?_
       refine runX_exit ?_
       refine endX_seqE ?_
       refine endX_q (roundQ_exit ?_)
       refine endX_blkE ?_
       refine endX_seq ?_
       refine runX_seq ?_
       refine runX_regionC fun C hC => ?_
       try simp -implicitDefEqProofs (disch := omega) only [go_sem, ↓reduceIte]
       refine toEnd hC ?_
       refine endX_seq ?_
       refine runX_ret ?_
       refine endX_q ?_
       obtain rfl := Option.some.inj h
       show RetW _ _ _ _ _
       simp only [RetW]
       (try simp -implicitDefEqProofs (disch := omega) only [go_sem, ↓reduceIte])
       (try simp (disch := omega) only [if_pos, Nat.sub_zero])
       exact leT_refl _
end Go.Proofs.YtaiapalhdejngaaX

set_option linter.unusedVariables false
set_option linter.unusedSimpArgs false
namespace Go.Proofs.YtaiapalhdejngaaX
open Go Go.RowKit Go.Proofs
set_option maxRecDepth 100000
attribute [local go_sem ↓] stepsK_build stepsK_bs appendS
attribute [local go_sem] String.reduceEq String.reduceNe reduceCtorEq Int.reduceEq Nat.reduceAdd Nat.reduceSub Nat.reduceMul Nat.reduceLT Nat.reduceLeDiff Nat.reduceEqDiff Nat.reduceBEq Int.reduceToNat Int.reduceLT Int.reduceLE Int.reduceGT Int.reduceGE Int.reduceAdd Int.reduceSub Int.reduceMul Int.reduceNeg Int.reduceBEq Int.reduceBNe Int.reducePow Int.reduceDiv Int.reduceMod Int.reduceTDiv Int.reduceTMod Int.reduceNatCast
/-! ### shadowboxref37.Count -/
def F42 (n : Nat) (a0 : List UInt8) : Option (Int) := iteB (decide ((a0.length : Int) < (32 : Int))) (some (0 : Int)) (grd ((32 : Int) ≤ (a0.length : Int)) ((F38 n (a0.take 32)).bind fun v3 => iteB (!v3.2) (some (0 : Int)) (iteB ((a0.length : Int) == (32 : Int)) (some (1 : Int)) (grd ((33 : Int) ≤ (a0.length : Int)) ((F59 n (a0.drop 33)).bind fun v7 => grd ((32 : Int) < (a0.length : Int)) (iteB (((a0.getD (32 : Int).toNat 0).toNat : Int) != (45 : Int)) (some (0 : Int)) (iteB (!v7.2) (some (0 : Int)) (iteB (decide (v7.1 < (1 : Int))) (some (0 : Int)) (iteB (decide ((10000 : Int) < v7.1)) (some (0 : Int)) ((F22 n v7.1).bind fun v13 => grd ((33 : Int) ≤ (a0.length : Int)) (iteB (!(v13 == (a0.drop 33))) (some (0 : Int)) (some v7.1))))))))))))
set_option maxHeartbeats 4000000 in
theorem F42_ok : ∀ (n : Nat) (a0 : List UInt8) (r : Int), F42 n a0 = some r → FnC Try.prog 42 [.imm (.string (bs a0))] (.imm (.int .i64 r))
 | n, a0, r, h => by
  unfold F42 at h
  refine FnC.goX mixed Try.func42 (by kernel_rfl) rfl ?_
  simp only [Try.ntmps42, List.length_cons, List.length_nil, List.replicate, List.cons_append, List.nil_append, Nat.reduceAdd, Nat.reduceSub]
  refine runX_seq ?_
  refine runX_regionC fun C hC => ?_
  try simp -implicitDefEqProofs (disch := omega) only [go_sem, ↓reduceIte]
  refine toEnd hC ?_
  refine endX_seq ?_
  refine runX_seq ?_
  refine runX_seq ?_
  refine runX_regionC fun C hC => ?_
  try simp -implicitDefEqProofs (disch := omega) only [go_sem, ↓reduceIte]
  refine toEnd hC ?_
  refine endX_seq ?_
  rcases iteB_some h with ⟨c1, h⟩ | ⟨c1, h⟩
  ·refine runX_condT rfl c1 ?_
   refine runX_seq ?_
   refine runX_regionC fun C hC => ?_
   try simp -implicitDefEqProofs (disch := omega) only [go_sem, ↓reduceIte]
   refine toEnd hC ?_
   refine endX_seq ?_
   refine runX_ret ?_
   refine endX_seqR ?_
   refine endX_q ?_
   obtain rfl := Option.some.inj h
   show RetW _ _ _ _ _
   simp only [RetW]
   (try simp -implicitDefEqProofs (maxSteps := 4000000) (disch := first | omega | decide | (simp only [go_sem]; omega)) only [go_sem, ↓reduceIte])
   (try simp (disch := omega) only [if_pos, Nat.sub_zero])
   exact leT_refl _
  ·refine runX_condF rfl c1 ?_
   refine runX_skip ?_
   refine endX_seq ?_
   refine runX_seq ?_
   refine runX_regionC fun C hC => ?_
   obtain ⟨g2, h⟩ := grd_some h
   obtain ⟨v3, h3, h⟩ := bnd_some h
   try simp -implicitDefEqProofs (maxSteps := 4000000) (disch := first | omega | decide | (simp only [go_sem]; omega)) only [go_sem, ↓reduceIte]
   repeat (with_reducible refine And.intro (by first | assumption | omega | (simp; done) | (simp; omega)) ?_)
   refine callG_X (by first | rfl | (simp only [go_sem]; done) | (simp only [closedL, closedT, Bool.and_true]; exact closedL_map _ (fun _ => by first | rfl | (simp only [go_sem]; done)) _)) (F38_ok n (a0.take 32) _ h3) (by repeat (first | exact leL_refl _ | refine leL_cons (by first | exact leT_refl _ | exact leT_virt | exact leT_junk _ | exact leT_sl | exact leT_sln | exact leT_nil | (refine leT_agg (by repeat (first | exact leL_refl _ | refine leL_cons (by first | exact leT_refl _ | exact leT_sl | exact leT_sln | exact leT_nil) ?_)))) ?_)) ?_
   try simp -implicitDefEqProofs (maxSteps := 4000000) (disch := first | omega | decide | (simp only [go_sem]; omega)) only [go_sem, ↓reduceIte]
   repeat (with_reducible refine And.intro (by first | assumption | omega | (simp; done) | (simp; omega)) ?_)
   refine toEnd hC ?_
   refine endX_seq ?_
   refine runX_seq ?_
   refine runX_seq ?_
   refine runX_regionC fun C hC => ?_
   try simp -implicitDefEqProofs (disch := omega) only [go_sem, ↓reduceIte]
   refine toEnd hC ?_
   refine endX_seq ?_
   rcases iteB_some h with ⟨c4, h⟩ | ⟨c4, h⟩
   ·refine runX_condT rfl c4 ?_
    refine runX_seq ?_
    refine runX_regionC fun C hC => ?_
    try simp -implicitDefEqProofs (disch := omega) only [go_sem, ↓reduceIte]
    refine toEnd hC ?_
    refine endX_seq ?_
    refine runX_ret ?_
    refine endX_seqR ?_
    refine endX_q ?_
    obtain rfl := Option.some.inj h
    show RetW _ _ _ _ _
    simp only [RetW]
    (try simp -implicitDefEqProofs (disch := omega) only [go_sem, ↓reduceIte])
    (try simp (disch := omega) only [if_pos, Nat.sub_zero])
    exact leT_refl _
   ·refine runX_condF rfl c4 ?_
    refine runX_skip ?_
    refine endX_seq ?_
    refine runX_seq ?_
    refine runX_seq ?_
    refine runX_regionC fun C hC => ?_
    try simp -implicitDefEqProofs (disch := omega) only [go_sem, ↓reduceIte]
    refine toEnd hC ?_
    refine endX_seq ?_
    rcases iteB_some h with ⟨c5, h⟩ | ⟨c5, h⟩
    ·refine runX_condT rfl c5 ?_
     refine runX_seq ?_
     refine runX_regionC fun C hC => ?_
     try simp -implicitDefEqProofs (disch := omega) only [go_sem, ↓reduceIte]
     refine toEnd hC ?_
     refine endX_seq ?_
     refine runX_ret ?_
     refine endX_seqR ?_
     refine endX_q ?_
     obtain rfl := Option.some.inj h
     show RetW _ _ _ _ _
     simp only [RetW]
     (try simp -implicitDefEqProofs (maxSteps := 4000000) (disch := first | omega | decide | (simp only [go_sem]; omega)) only [go_sem, ↓reduceIte])
     (try simp (disch := omega) only [if_pos, Nat.sub_zero])
     exact leT_refl _
    ·refine runX_condF rfl c5 ?_
     refine runX_skip ?_
     refine endX_seq ?_
     refine runX_seq ?_
     refine runX_regionC fun C hC => ?_
     obtain ⟨g6, h⟩ := grd_some h
     obtain ⟨v7, h7, h⟩ := bnd_some h
     try simp -implicitDefEqProofs (maxSteps := 4000000) (disch := first | omega | decide | (simp only [go_sem]; omega)) only [go_sem, ↓reduceIte]
     repeat (with_reducible refine And.intro (by first | assumption | omega | (simp; done) | (simp; omega)) ?_)
     refine callG_X (by first | rfl | (simp only [go_sem]; done) | (simp only [closedL, closedT, Bool.and_true]; exact closedL_map _ (fun _ => by first | rfl | (simp only [go_sem]; done)) _)) (F59_ok n (a0.drop 33) _ h7) (by repeat (first | exact leL_refl _ | refine leL_cons (by first | exact leT_refl _ | exact leT_virt | exact leT_junk _ | exact leT_sl | exact leT_sln | exact leT_nil | (refine leT_agg (by repeat (first | exact leL_refl _ | refine leL_cons (by first | exact leT_refl _ | exact leT_sl | exact leT_sln | exact leT_nil) ?_)))) ?_)) ?_
     try simp -implicitDefEqProofs (maxSteps := 4000000) (disch := first | omega | decide | (simp only [go_sem]; omega)) only [go_sem, ↓reduceIte]
     repeat (with_reducible refine And.intro (by first | assumption | omega | (simp; done) | (simp; omega)) ?_)
     refine toEnd hC ?_
     refine endX_seq ?_
     refine runX_seq ?_
     refine runX_seq ?_
     refine runX_drawC mixed (by kernel_rfl) fun C hC => ?_
     obtain ⟨g8, h⟩ := grd_some h
     try simp -implicitDefEqProofs (maxSteps := 4000000) (disch := first | omega | decide | (simp only [go_sem]; omega)) only [go_sem, ↓reduceIte]
     repeat (with_reducible refine And.intro (by first | assumption | omega | (simp; done) | (simp; omega)) ?_)
     rcases iteB_some h with ⟨c9, h⟩ | ⟨c9, h⟩
     ·refine guardD_F c9 ?_
      try simp -implicitDefEqProofs (maxSteps := 4000000) (disch := first | omega | decide | (simp only [go_sem]; omega)) only [go_sem, ↓reduceIte]
      repeat (with_reducible refine And.intro (by first | assumption | omega | (simp; done) | (simp; omega)) ?_)
      refine toEnd hC ?_
      refine endX_seq ?_
      refine runX_condT rfl rfl ?_
      refine runX_seq ?_
      refine runX_regionC fun C hC => ?_
      try simp -implicitDefEqProofs (disch := omega) only [go_sem, ↓reduceIte]
      refine toEnd hC ?_
      refine endX_seq ?_
      refine runX_ret ?_
      refine endX_seqR ?_
      refine endX_q ?_
      obtain rfl := Option.some.inj h
      show RetW _ _ _ _ _
      simp only [RetW]
      (try simp -implicitDefEqProofs (maxSteps := 4000000) (disch := first | omega | decide | (simp only [go_sem]; omega)) only [go_sem, ↓reduceIte])
      (try simp (disch := omega) only [if_pos, Nat.sub_zero])
      exact leT_refl _
     ·refine guardD_T c9 ?_
      try simp -implicitDefEqProofs (maxSteps := 4000000) (disch := first | omega | decide | (simp only [go_sem]; omega)) only [go_sem, ↓reduceIte]
      repeat (with_reducible refine And.intro (by first | assumption | omega | (simp; done) | (simp; omega)) ?_)
      rcases iteB_some h with ⟨c10, h⟩ | ⟨c10, h⟩
      ·refine guardD_F c10 ?_
       try simp -implicitDefEqProofs (maxSteps := 4000000) (disch := first | omega | decide | (simp only [go_sem]; omega)) only [go_sem, ↓reduceIte]
       repeat (with_reducible refine And.intro (by first | assumption | omega | (simp; done) | (simp; omega)) ?_)
       refine toEnd hC ?_
       refine endX_seq ?_
       refine runX_condT rfl rfl ?_
       refine runX_seq ?_
       refine runX_regionC fun C hC => ?_
       try simp -implicitDefEqProofs (disch := omega) only [go_sem, ↓reduceIte]
       refine toEnd hC ?_
       refine endX_seq ?_
       refine runX_ret ?_
       refine endX_seqR ?_
       refine endX_q ?_
       obtain rfl := Option.some.inj h
       show RetW _ _ _ _ _
       simp only [RetW]
       (try simp -implicitDefEqProofs (disch := omega) only [go_sem, ↓reduceIte])
       (try simp (disch := omega) only [if_pos, Nat.sub_zero])
       exact leT_refl _
      ·refine guardD_T c10 ?_
       try simp -implicitDefEqProofs (disch := omega) only [go_sem, ↓reduceIte]
       rcases iteB_some h with ⟨c11, h⟩ | ⟨c11, h⟩
       ·refine guardD_F c11 ?_
        try simp -implicitDefEqProofs (disch := omega) only [go_sem, ↓reduceIte]
        refine toEnd hC ?_
        refine endX_seq ?_
        refine runX_condT rfl rfl ?_
        refine runX_seq ?_
        refine runX_regionC fun C hC => ?_
        try simp -implicitDefEqProofs (disch := omega) only [go_sem, ↓reduceIte]
        refine toEnd hC ?_
        refine endX_seq ?_
        refine runX_ret ?_
        refine endX_seqR ?_
        refine endX_q ?_
        obtain rfl := Option.some.inj h
        show RetW _ _ _ _ _
        simp only [RetW]
        (try simp -implicitDefEqProofs (disch := omega) only [go_sem, ↓reduceIte])
        (try simp (disch := omega) only [if_pos, Nat.sub_zero])
        exact leT_refl _
       ·refine guardD_T c11 ?_
        try simp -implicitDefEqProofs (disch := omega) only [go_sem, ↓reduceIte]
        rcases iteB_some h with ⟨c12, h⟩ | ⟨c12, h⟩
        ·refine guardD_F c12 ?_
         try simp -implicitDefEqProofs (disch := omega) only [go_sem, ↓reduceIte]
         refine toEnd hC ?_
         refine endX_seq ?_
         refine runX_condT rfl rfl ?_
         refine runX_seq ?_
         refine runX_regionC fun C hC => ?_
         try simp -implicitDefEqProofs (disch := omega) only [go_sem, ↓reduceIte]
         refine toEnd hC ?_
         refine endX_seq ?_
         refine runX_ret ?_
         refine endX_seqR ?_
         refine endX_q ?_
         obtain rfl := Option.some.inj h
         show RetW _ _ _ _ _
         simp only [RetW]
         (try simp -implicitDefEqProofs (maxSteps := 4000000) (disch := first | omega | decide | (simp only [go_sem]; omega)) only [go_sem, ↓reduceIte])
         (try simp (disch := omega) only [if_pos, Nat.sub_zero])
         exact leT_refl _
        ·refine guardD_T c12 ?_
         obtain ⟨v13, h13, h⟩ := bnd_some h
         try simp -implicitDefEqProofs (maxSteps := 4000000) (disch := first | omega | decide | (simp only [go_sem]; omega)) only [go_sem, ↓reduceIte]
         repeat (with_reducible refine And.intro (by first | assumption | omega | (simp; done) | (simp; omega)) ?_)
         refine callD_X (F22_ok n v7.1 _ h13) (by repeat (first | exact leL_refl _ | refine leL_cons (by first | exact leT_refl _ | exact leT_virt | exact leT_junk _ | exact leT_sl | exact leT_sln | exact leT_nil | (refine leT_agg (by repeat (first | exact leL_refl _ | refine leL_cons (by first | exact leT_refl _ | exact leT_sl | exact leT_sln | exact leT_nil) ?_)))) ?_)) ?_
         obtain ⟨g14, h⟩ := grd_some h
         try simp -implicitDefEqProofs (maxSteps := 4000000) (disch := first | omega | decide | (simp only [go_sem]; omega)) only [go_sem, ↓reduceIte]
         repeat (with_reducible refine And.intro (by first | assumption | omega | (simp; done) | (simp; omega)) ?_)
         refine toEnd hC ?_
         refine endX_seq ?_
         rcases iteB_some h with ⟨c15, h⟩ | ⟨c15, h⟩
         ·refine runX_condT rfl c15 ?_
          refine runX_seq ?_
          refine runX_regionC fun C hC => ?_
          try simp -implicitDefEqProofs (disch := omega) only [go_sem, ↓reduceIte]
          refine toEnd hC ?_
          refine endX_seq ?_
          refine runX_ret ?_
          refine endX_seqR ?_
          refine endX_q ?_
          obtain rfl := Option.some.inj h
          show RetW _ _ _ _ _
          simp only [RetW]
          (try simp -implicitDefEqProofs (disch := omega) only [go_sem, ↓reduceIte])
          (try simp (disch := omega) only [if_pos, Nat.sub_zero])
          exact leT_refl _
         ·refine runX_condF rfl c15 ?_
          refine runX_skip ?_
          refine endX_seq ?_
          refine runX_seq ?_
          refine runX_regionC fun C hC => ?_
          try simp -implicitDefEqProofs (disch := omega) only [go_sem, ↓reduceIte]
          refine toEnd hC ?_
          refine endX_seq ?_
          refine runX_ret ?_
          refine endX_q ?_
          obtain rfl := Option.some.inj h
          show RetW _ _ _ _ _
          simp only [RetW]
          (try simp -implicitDefEqProofs (disch := omega) only [go_sem, ↓reduceIte])
          (try simp (disch := omega) only [if_pos, Nat.sub_zero])
          exact leT_refl _
end Go.Proofs.YtaiapalhdejngaaX
