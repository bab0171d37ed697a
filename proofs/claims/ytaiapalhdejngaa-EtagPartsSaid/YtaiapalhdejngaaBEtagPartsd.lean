/- Part of the proof of EtagParts: walks and plain words, merged. -/
import Derived.Test.YtaiapalhdejngaaBEtagPartsc
set_option linter.unusedVariables false
set_option linter.unusedSimpArgs false

set_option linter.unusedVariables false
set_option linter.unusedSimpArgs false
namespace Go.Proofs.YtaiapalhdejngaaX
open Go Go.RowKit Go.Proofs
set_option maxRecDepth 100000
attribute [local go_sem ↓] stepsK_build stepsK_build0 stepsK_bs stepsK_bs0 appendS
attribute [local go_sem] String.reduceEq String.reduceNe reduceCtorEq Int.reduceEq Nat.reduceAdd Nat.reduceSub Nat.reduceMul Nat.reduceLT Nat.reduceLeDiff Nat.reduceEqDiff Nat.reduceBEq Int.reduceToNat Int.reduceLT Int.reduceLE Int.reduceGT Int.reduceGE Int.reduceAdd Int.reduceSub Int.reduceMul Int.reduceNeg Int.reduceBEq Int.reduceBNe Int.reducePow Int.reduceDiv Int.reduceMod Int.reduceTDiv Int.reduceTMod Int.reduceNatCast
/-! ### (md5.State).End -/
def F83_S1 (a0 : (List (Int)) × (Int)) (a1 : List (Int)) (x14 : Int) (x15 : Int) (x16 : Int) (x17 : Int) (x18 : Int) (x19 : List (Int)) : St := ⟨[.junk, .junk, .ref 0 0 0 0, .junk, .ref 1 0 0 0, .imm (.int .u64 (IntKind.wrap .u64 ((8 : Int) * (IntKind.wrap .u64 (a0.2 + (IntKind.wrap .u64 (((a1.take (if (63 : Int) < (a1.length : Int) then (63 : Int) else (a1.length : Int)).toNat).length : Int)))))))), .ref 2 0 0 0, .junk, .junk, .junk, .junk, .junk, .junk, .junk, .junk, .junk, .junk, .junk, .junk, .junk, .junk, .junk, .junk, .junk, .junk, .junk, .junk, .junk, .junk, .junk, .junk, .junk, .junk, .junk, .junk, .junk, .junk, .junk, .junk, .junk, .junk, .junk, .junk, .junk, .junk, .junk, .junk, .junk, .junk, .junk, .junk, .junk, .junk, .junk, .junk, .junk, .junk, .junk, .junk, .junk, .junk, .junk, .junk, .junk, .junk], [some (.box 113 (.agg [.imm (.int .u32 x14), .imm (.int .u32 x15), .imm (.int .u32 x16), .imm (.int .u32 x17), .imm (.int .u64 x18)]) false), some (.box 70 (.agg [.imm (.int .u8 (0 : Int)), .imm (.int .u8 (0 : Int)), .imm (.int .u8 (0 : Int)), .imm (.int .u8 (0 : Int)), .imm (.int .u8 (0 : Int)), .imm (.int .u8 (0 : Int)), .imm (.int .u8 (0 : Int)), .imm (.int .u8 (0 : Int)), .imm (.int .u8 (0 : Int)), .imm (.int .u8 (0 : Int)), .imm (.int .u8 (0 : Int)), .imm (.int .u8 (0 : Int)), .imm (.int .u8 (0 : Int)), .imm (.int .u8 (0 : Int)), .imm (.int .u8 (0 : Int)), .imm (.int .u8 (0 : Int))]) false), some (.box 116 (.agg (List.map byteT x19)) false)]⟩
def F83_J1 (n : Nat) (a0 : (List (Int)) × (Int)) (a1 : List (Int)) (x14 : Int) (x15 : Int) (x16 : Int) (x17 : Int) (x18 : Int) (x19 : List (Int)) : Option (List (Int)) := grd (56 < x19.length) (grd (57 < x19.length) (grd (58 < x19.length) (grd (59 < x19.length) (grd (60 < x19.length) (grd (61 < x19.length) (grd (62 < x19.length) (grd (63 < x19.length) (grd (64 ≤ x19.length) ((F82 n ([x14, x15, x16, x17], x18) ((List.set (List.set (List.set (List.set (List.set (List.set (List.set (List.set x19 56 (IntKind.wrap .u8 ((bShr .u64 (IntKind.wrap .u64 ((8 : Int) * (IntKind.wrap .u64 (a0.2 + (IntKind.wrap .u64 (((a1.take (if (63 : Int) < (a1.length : Int) then (63 : Int) else (a1.length : Int)).toNat).length : Int))))))) 0)))) 57 (IntKind.wrap .u8 ((bShr .u64 (IntKind.wrap .u64 ((8 : Int) * (IntKind.wrap .u64 (a0.2 + (IntKind.wrap .u64 (((a1.take (if (63 : Int) < (a1.length : Int) then (63 : Int) else (a1.length : Int)).toNat).length : Int))))))) 8)))) 58 (IntKind.wrap .u8 ((bShr .u64 (IntKind.wrap .u64 ((8 : Int) * (IntKind.wrap .u64 (a0.2 + (IntKind.wrap .u64 (((a1.take (if (63 : Int) < (a1.length : Int) then (63 : Int) else (a1.length : Int)).toNat).length : Int))))))) 16)))) 59 (IntKind.wrap .u8 ((bShr .u64 (IntKind.wrap .u64 ((8 : Int) * (IntKind.wrap .u64 (a0.2 + (IntKind.wrap .u64 (((a1.take (if (63 : Int) < (a1.length : Int) then (63 : Int) else (a1.length : Int)).toNat).length : Int))))))) 24)))) 60 (IntKind.wrap .u8 ((bShr .u64 (IntKind.wrap .u64 ((8 : Int) * (IntKind.wrap .u64 (a0.2 + (IntKind.wrap .u64 (((a1.take (if (63 : Int) < (a1.length : Int) then (63 : Int) else (a1.length : Int)).toNat).length : Int))))))) 32)))) 61 (IntKind.wrap .u8 ((bShr .u64 (IntKind.wrap .u64 ((8 : Int) * (IntKind.wrap .u64 (a0.2 + (IntKind.wrap .u64 (((a1.take (if (63 : Int) < (a1.length : Int) then (63 : Int) else (a1.length : Int)).toNat).length : Int))))))) 40)))) 62 (IntKind.wrap .u8 ((bShr .u64 (IntKind.wrap .u64 ((8 : Int) * (IntKind.wrap .u64 (a0.2 + (IntKind.wrap .u64 (((a1.take (if (63 : Int) < (a1.length : Int) then (63 : Int) else (a1.length : Int)).toNat).length : Int))))))) 48)))) 63 (IntKind.wrap .u8 ((bShr .u64 (IntKind.wrap .u64 ((8 : Int) * (IntKind.wrap .u64 (a0.2 + (IntKind.wrap .u64 (((a1.take (if (63 : Int) < (a1.length : Int) then (63 : Int) else (a1.length : Int)).toNat).length : Int))))))) 56)))).take 64)).bind fun v37 => some [(IntKind.wrap .u8 ((bShr .u32 (v37.1.getD 0 default) 0))), (IntKind.wrap .u8 ((bShr .u32 (v37.1.getD 0 default) 8))), (IntKind.wrap .u8 ((bShr .u32 (v37.1.getD 0 default) 16))), (IntKind.wrap .u8 ((bShr .u32 (v37.1.getD 0 default) 24))), (IntKind.wrap .u8 ((bShr .u32 (v37.1.getD 1 default) 0))), (IntKind.wrap .u8 ((bShr .u32 (v37.1.getD 1 default) 8))), (IntKind.wrap .u8 ((bShr .u32 (v37.1.getD 1 default) 16))), (IntKind.wrap .u8 ((bShr .u32 (v37.1.getD 1 default) 24))), (IntKind.wrap .u8 ((bShr .u32 (v37.1.getD 2 default) 0))), (IntKind.wrap .u8 ((bShr .u32 (v37.1.getD 2 default) 8))), (IntKind.wrap .u8 ((bShr .u32 (v37.1.getD 2 default) 16))), (IntKind.wrap .u8 ((bShr .u32 (v37.1.getD 2 default) 24))), (IntKind.wrap .u8 ((bShr .u32 (v37.1.getD 3 default) 0))), (IntKind.wrap .u8 ((bShr .u32 (v37.1.getD 3 default) 8))), (IntKind.wrap .u8 ((bShr .u32 (v37.1.getD 3 default) 16))), (IntKind.wrap .u8 ((bShr .u32 (v37.1.getD 3 default) 24)))])))))))))
def F83 (n : Nat) (a0 : (List (Int)) × (Int)) (a1 : List (Int)) : Option (List (Int)) := grd (0 ≤ (if (63 : Int) < (a1.length : Int) then (63 : Int) else (a1.length : Int)) ∧ (if (63 : Int) < (a1.length : Int) then (63 : Int) else (a1.length : Int)) ≤ (a1.length : Int)) (grd ((a1.take (if (63 : Int) < (a1.length : Int) then (63 : Int) else (a1.length : Int)).toNat).length ≤ 64) (grd (0 ≤ ((a1.take (if (63 : Int) < (a1.length : Int) then (63 : Int) else (a1.length : Int)).toNat).length : Int) ∧ ((a1.take (if (63 : Int) < (a1.length : Int) then (63 : Int) else (a1.length : Int)).toNat).length : Int) < (64 : Int)) (grd (((a1.take (if (63 : Int) < (a1.length : Int) then (63 : Int) else (a1.length : Int)).toNat).length : Int).toNat < ((a1.take (if (63 : Int) < (a1.length : Int) then (63 : Int) else (a1.length : Int)).toNat).length + (((0 : Int) :: (0 : Int) :: (0 : Int) :: (0 : Int) :: (0 : Int) :: (0 : Int) :: (0 : Int) :: (0 : Int) :: (0 : Int) :: (0 : Int) :: (0 : Int) :: (0 : Int) :: (0 : Int) :: (0 : Int) :: (0 : Int) :: (0 : Int) :: (0 : Int) :: (0 : Int) :: (0 : Int) :: (0 : Int) :: (0 : Int) :: (0 : Int) :: (0 : Int) :: (0 : Int) :: (0 : Int) :: (0 : Int) :: (0 : Int) :: (0 : Int) :: (0 : Int) :: (0 : Int) :: (0 : Int) :: (0 : Int) :: (0 : Int) :: (0 : Int) :: (0 : Int) :: (0 : Int) :: (0 : Int) :: (0 : Int) :: (0 : Int) :: (0 : Int) :: (0 : Int) :: (0 : Int) :: (0 : Int) :: (0 : Int) :: (0 : Int) :: (0 : Int) :: (0 : Int) :: (0 : Int) :: (0 : Int) :: (0 : Int) :: (0 : Int) :: (0 : Int) :: (0 : Int) :: (0 : Int) :: (0 : Int) :: (0 : Int) :: (0 : Int) :: (0 : Int) :: (0 : Int) :: (0 : Int) :: (0 : Int) :: (0 : Int) :: (0 : Int) :: (0 : Int) :: ([] : List Int)).drop ((a1.take (if (63 : Int) < (a1.length : Int) then (63 : Int) else (a1.length : Int)).toNat).length)).length)) (iteB (decide ((56 : Int) ≤ ((a1.take (if (63 : Int) < (a1.length : Int) then (63 : Int) else (a1.length : Int)).toNat).length : Int))) (grd (64 ≤ ((a1.take (if (63 : Int) < (a1.length : Int) then (63 : Int) else (a1.length : Int)).toNat).length + (((0 : Int) :: (0 : Int) :: (0 : Int) :: (0 : Int) :: (0 : Int) :: (0 : Int) :: (0 : Int) :: (0 : Int) :: (0 : Int) :: (0 : Int) :: (0 : Int) :: (0 : Int) :: (0 : Int) :: (0 : Int) :: (0 : Int) :: (0 : Int) :: (0 : Int) :: (0 : Int) :: (0 : Int) :: (0 : Int) :: (0 : Int) :: (0 : Int) :: (0 : Int) :: (0 : Int) :: (0 : Int) :: (0 : Int) :: (0 : Int) :: (0 : Int) :: (0 : Int) :: (0 : Int) :: (0 : Int) :: (0 : Int) :: (0 : Int) :: (0 : Int) :: (0 : Int) :: (0 : Int) :: (0 : Int) :: (0 : Int) :: (0 : Int) :: (0 : Int) :: (0 : Int) :: (0 : Int) :: (0 : Int) :: (0 : Int) :: (0 : Int) :: (0 : Int) :: (0 : Int) :: (0 : Int) :: (0 : Int) :: (0 : Int) :: (0 : Int) :: (0 : Int) :: (0 : Int) :: (0 : Int) :: (0 : Int) :: (0 : Int) :: (0 : Int) :: (0 : Int) :: (0 : Int) :: (0 : Int) :: (0 : Int) :: (0 : Int) :: (0 : Int) :: (0 : Int) :: ([] : List Int)).drop ((a1.take (if (63 : Int) < (a1.length : Int) then (63 : Int) else (a1.length : Int)).toNat).length)).length)) ((F82 n (a0.1, a0.2) ((List.set ((a1.take (if (63 : Int) < (a1.length : Int) then (63 : Int) else (a1.length : Int)).toNat) ++ ((0 : Int) :: (0 : Int) :: (0 : Int) :: (0 : Int) :: (0 : Int) :: (0 : Int) :: (0 : Int) :: (0 : Int) :: (0 : Int) :: (0 : Int) :: (0 : Int) :: (0 : Int) :: (0 : Int) :: (0 : Int) :: (0 : Int) :: (0 : Int) :: (0 : Int) :: (0 : Int) :: (0 : Int) :: (0 : Int) :: (0 : Int) :: (0 : Int) :: (0 : Int) :: (0 : Int) :: (0 : Int) :: (0 : Int) :: (0 : Int) :: (0 : Int) :: (0 : Int) :: (0 : Int) :: (0 : Int) :: (0 : Int) :: (0 : Int) :: (0 : Int) :: (0 : Int) :: (0 : Int) :: (0 : Int) :: (0 : Int) :: (0 : Int) :: (0 : Int) :: (0 : Int) :: (0 : Int) :: (0 : Int) :: (0 : Int) :: (0 : Int) :: (0 : Int) :: (0 : Int) :: (0 : Int) :: (0 : Int) :: (0 : Int) :: (0 : Int) :: (0 : Int) :: (0 : Int) :: (0 : Int) :: (0 : Int) :: (0 : Int) :: (0 : Int) :: (0 : Int) :: (0 : Int) :: (0 : Int) :: (0 : Int) :: (0 : Int) :: (0 : Int) :: (0 : Int) :: ([] : List Int)).drop ((a1.take (if (63 : Int) < (a1.length : Int) then (63 : Int) else (a1.length : Int)).toNat).length)) (((a1.take (if (63 : Int) < (a1.length : Int) then (63 : Int) else (a1.length : Int)).toNat).length : Int).toNat) (128 : Int)).take 64)).bind fun v10 => grd (((a1.take (if (63 : Int) < (a1.length : Int) then (63 : Int) else (a1.length : Int)).toNat).length + (((0 : Int) :: (0 : Int) :: (0 : Int) :: (0 : Int) :: (0 : Int) :: (0 : Int) :: (0 : Int) :: (0 : Int) :: (0 : Int) :: (0 : Int) :: (0 : Int) :: (0 : Int) :: (0 : Int) :: (0 : Int) :: (0 : Int) :: (0 : Int) :: (0 : Int) :: (0 : Int) :: (0 : Int) :: (0 : Int) :: (0 : Int) :: (0 : Int) :: (0 : Int) :: (0 : Int) :: (0 : Int) :: (0 : Int) :: (0 : Int) :: (0 : Int) :: (0 : Int) :: (0 : Int) :: (0 : Int) :: (0 : Int) :: (0 : Int) :: (0 : Int) :: (0 : Int) :: (0 : Int) :: (0 : Int) :: (0 : Int) :: (0 : Int) :: (0 : Int) :: (0 : Int) :: (0 : Int) :: (0 : Int) :: (0 : Int) :: (0 : Int) :: (0 : Int) :: (0 : Int) :: (0 : Int) :: (0 : Int) :: (0 : Int) :: (0 : Int) :: (0 : Int) :: (0 : Int) :: (0 : Int) :: (0 : Int) :: (0 : Int) :: (0 : Int) :: (0 : Int) :: (0 : Int) :: (0 : Int) :: (0 : Int) :: (0 : Int) :: (0 : Int) :: (0 : Int) :: ([] : List Int)).drop ((a1.take (if (63 : Int) < (a1.length : Int) then (63 : Int) else (a1.length : Int)).toNat).length)).length) = 64) (F83_J1 n a0 a1 (v10.1.getD 0 default) (v10.1.getD 1 default) (v10.1.getD 2 default) (v10.1.getD 3 default) v10.2 ((0 : Int) :: (0 : Int) :: (0 : Int) :: (0 : Int) :: (0 : Int) :: (0 : Int) :: (0 : Int) :: (0 : Int) :: (0 : Int) :: (0 : Int) :: (0 : Int) :: (0 : Int) :: (0 : Int) :: (0 : Int) :: (0 : Int) :: (0 : Int) :: (0 : Int) :: (0 : Int) :: (0 : Int) :: (0 : Int) :: (0 : Int) :: (0 : Int) :: (0 : Int) :: (0 : Int) :: (0 : Int) :: (0 : Int) :: (0 : Int) :: (0 : Int) :: (0 : Int) :: (0 : Int) :: (0 : Int) :: (0 : Int) :: (0 : Int) :: (0 : Int) :: (0 : Int) :: (0 : Int) :: (0 : Int) :: (0 : Int) :: (0 : Int) :: (0 : Int) :: (0 : Int) :: (0 : Int) :: (0 : Int) :: (0 : Int) :: (0 : Int) :: (0 : Int) :: (0 : Int) :: (0 : Int) :: (0 : Int) :: (0 : Int) :: (0 : Int) :: (0 : Int) :: (0 : Int) :: (0 : Int) :: (0 : Int) :: (0 : Int) :: (0 : Int) :: (0 : Int) :: (0 : Int) :: (0 : Int) :: (0 : Int) :: (0 : Int) :: (0 : Int) :: (0 : Int) :: ([] : List Int))))) (F83_J1 n a0 a1 (a0.1.getD 0 default) (a0.1.getD 1 default) (a0.1.getD 2 default) (a0.1.getD 3 default) a0.2 (List.set ((a1.take (if (63 : Int) < (a1.length : Int) then (63 : Int) else (a1.length : Int)).toNat) ++ ((0 : Int) :: (0 : Int) :: (0 : Int) :: (0 : Int) :: (0 : Int) :: (0 : Int) :: (0 : Int) :: (0 : Int) :: (0 : Int) :: (0 : Int) :: (0 : Int) :: (0 : Int) :: (0 : Int) :: (0 : Int) :: (0 : Int) :: (0 : Int) :: (0 : Int) :: (0 : Int) :: (0 : Int) :: (0 : Int) :: (0 : Int) :: (0 : Int) :: (0 : Int) :: (0 : Int) :: (0 : Int) :: (0 : Int) :: (0 : Int) :: (0 : Int) :: (0 : Int) :: (0 : Int) :: (0 : Int) :: (0 : Int) :: (0 : Int) :: (0 : Int) :: (0 : Int) :: (0 : Int) :: (0 : Int) :: (0 : Int) :: (0 : Int) :: (0 : Int) :: (0 : Int) :: (0 : Int) :: (0 : Int) :: (0 : Int) :: (0 : Int) :: (0 : Int) :: (0 : Int) :: (0 : Int) :: (0 : Int) :: (0 : Int) :: (0 : Int) :: (0 : Int) :: (0 : Int) :: (0 : Int) :: (0 : Int) :: (0 : Int) :: (0 : Int) :: (0 : Int) :: (0 : Int) :: (0 : Int) :: (0 : Int) :: (0 : Int) :: (0 : Int) :: (0 : Int) :: ([] : List Int)).drop ((a1.take (if (63 : Int) < (a1.length : Int) then (63 : Int) else (a1.length : Int)).toNat).length)) (((a1.take (if (63 : Int) < (a1.length : Int) then (63 : Int) else (a1.length : Int)).toNat).length : Int).toNat) (128 : Int)))))))
set_option maxHeartbeats 4000000 in
theorem F83_ok : ∀ (n : Nat) (a0 : (List (Int)) × (Int)) (a1 : List (Int)) (r : List (Int)), F83 n a0 a1 = some r → FnC Try.prog 83 [.agg [.imm (.int .u32 (a0.1.getD 0 default)), .imm (.int .u32 (a0.1.getD 1 default)), .imm (.int .u32 (a0.1.getD 2 default)), .imm (.int .u32 (a0.1.getD 3 default)), .imm (.int .u64 a0.2)], .sl 1 false (List.map byteT a1)] (.agg (List.map byteT r))
  | n, a0, a1, r, h => by
    unfold F83 at h
    refine FnC.goX mixed Try.func83 (by kernel_rfl) rfl ?_
    simp only [Try.ntmps83, List.length_cons, List.length_nil, List.replicate, List.cons_append, List.nil_append, Nat.reduceAdd, Nat.reduceSub]
    refine runX_seq ?_
    refine runX_regionC fun C hC => ?_
    try simp -implicitDefEqProofs (maxSteps := 4000000) (disch := first | omega | decide | (simp only [go_sem]; omega)) only [go_sem, ↓reduceIte]
    repeat (with_reducible refine And.intro (by first | assumption | omega | (simp; done) | (simp; omega)) ?_)
    refine toEnd hC ?_
    refine endX_seq ?_
    refine runX_seq ?_
    refine runX_regionC fun C hC => ?_
    obtain ⟨g1, h⟩ := grd_some h
    try simp -implicitDefEqProofs (maxSteps := 4000000) (disch := first | omega | decide | (simp only [go_sem]; omega)) only [go_sem, ↓reduceIte]
    repeat (with_reducible refine And.intro (by first | assumption | omega | (simp; done) | (simp; omega)) ?_)
    refine toEnd hC ?_
    refine endX_seq ?_
    refine runX_seq ?_
    refine runX_regionC fun C hC => ?_
    try simp -implicitDefEqProofs (maxSteps := 4000000) (disch := first | omega | decide | (simp only [go_sem]; omega)) only [go_sem, ↓reduceIte]
    repeat (with_reducible refine And.intro (by first | assumption | omega | (simp; done) | (simp; omega)) ?_)
    refine toEnd hC ?_
    refine endX_seq ?_
    refine runX_seq ?_
    refine runX_regionC fun C hC => ?_
    try simp -implicitDefEqProofs (maxSteps := 4000000) (disch := first | omega | decide | (simp only [go_sem]; omega)) only [go_sem, ↓reduceIte]
    repeat (with_reducible refine And.intro (by first | assumption | omega | (simp; done) | (simp; omega)) ?_)
    refine toEnd hC ?_
    refine endX_seq ?_
    refine runX_seq ?_
    refine runX_regionC fun C hC => ?_
    obtain ⟨g2, h⟩ := grd_some h
    have e3 : patchT (.imm (.int .u8 (0 : Int)) :: .imm (.int .u8 (0 : Int)) :: .imm (.int .u8 (0 : Int)) :: .imm (.int .u8 (0 : Int)) :: .imm (.int .u8 (0 : Int)) :: .imm (.int .u8 (0 : Int)) :: .imm (.int .u8 (0 : Int)) :: .imm (.int .u8 (0 : Int)) :: .imm (.int .u8 (0 : Int)) :: .imm (.int .u8 (0 : Int)) :: .imm (.int .u8 (0 : Int)) :: .imm (.int .u8 (0 : Int)) :: .imm (.int .u8 (0 : Int)) :: .imm (.int .u8 (0 : Int)) :: .imm (.int .u8 (0 : Int)) :: .imm (.int .u8 (0 : Int)) :: .imm (.int .u8 (0 : Int)) :: .imm (.int .u8 (0 : Int)) :: .imm (.int .u8 (0 : Int)) :: .imm (.int .u8 (0 : Int)) :: .imm (.int .u8 (0 : Int)) :: .imm (.int .u8 (0 : Int)) :: .imm (.int .u8 (0 : Int)) :: .imm (.int .u8 (0 : Int)) :: .imm (.int .u8 (0 : Int)) :: .imm (.int .u8 (0 : Int)) :: .imm (.int .u8 (0 : Int)) :: .imm (.int .u8 (0 : Int)) :: .imm (.int .u8 (0 : Int)) :: .imm (.int .u8 (0 : Int)) :: .imm (.int .u8 (0 : Int)) :: .imm (.int .u8 (0 : Int)) :: .imm (.int .u8 (0 : Int)) :: .imm (.int .u8 (0 : Int)) :: .imm (.int .u8 (0 : Int)) :: .imm (.int .u8 (0 : Int)) :: .imm (.int .u8 (0 : Int)) :: .imm (.int .u8 (0 : Int)) :: .imm (.int .u8 (0 : Int)) :: .imm (.int .u8 (0 : Int)) :: .imm (.int .u8 (0 : Int)) :: .imm (.int .u8 (0 : Int)) :: .imm (.int .u8 (0 : Int)) :: .imm (.int .u8 (0 : Int)) :: .imm (.int .u8 (0 : Int)) :: .imm (.int .u8 (0 : Int)) :: .imm (.int .u8 (0 : Int)) :: .imm (.int .u8 (0 : Int)) :: .imm (.int .u8 (0 : Int)) :: .imm (.int .u8 (0 : Int)) :: .imm (.int .u8 (0 : Int)) :: .imm (.int .u8 (0 : Int)) :: .imm (.int .u8 (0 : Int)) :: .imm (.int .u8 (0 : Int)) :: .imm (.int .u8 (0 : Int)) :: .imm (.int .u8 (0 : Int)) :: .imm (.int .u8 (0 : Int)) :: .imm (.int .u8 (0 : Int)) :: .imm (.int .u8 (0 : Int)) :: .imm (.int .u8 (0 : Int)) :: .imm (.int .u8 (0 : Int)) :: .imm (.int .u8 (0 : Int)) :: .imm (.int .u8 (0 : Int)) :: .imm (.int .u8 (0 : Int)) :: ([] : List T)) 0 (List.map byteT (a1.take (if (63 : Int) < (a1.length : Int) then (63 : Int) else (a1.length : Int)).toNat)) = List.map byteT ((a1.take (if (63 : Int) < (a1.length : Int) then (63 : Int) else (a1.length : Int)).toNat) ++ ((0 : Int) :: (0 : Int) :: (0 : Int) :: (0 : Int) :: (0 : Int) :: (0 : Int) :: (0 : Int) :: (0 : Int) :: (0 : Int) :: (0 : Int) :: (0 : Int) :: (0 : Int) :: (0 : Int) :: (0 : Int) :: (0 : Int) :: (0 : Int) :: (0 : Int) :: (0 : Int) :: (0 : Int) :: (0 : Int) :: (0 : Int) :: (0 : Int) :: (0 : Int) :: (0 : Int) :: (0 : Int) :: (0 : Int) :: (0 : Int) :: (0 : Int) :: (0 : Int) :: (0 : Int) :: (0 : Int) :: (0 : Int) :: (0 : Int) :: (0 : Int) :: (0 : Int) :: (0 : Int) :: (0 : Int) :: (0 : Int) :: (0 : Int) :: (0 : Int) :: (0 : Int) :: (0 : Int) :: (0 : Int) :: (0 : Int) :: (0 : Int) :: (0 : Int) :: (0 : Int) :: (0 : Int) :: (0 : Int) :: (0 : Int) :: (0 : Int) :: (0 : Int) :: (0 : Int) :: (0 : Int) :: (0 : Int) :: (0 : Int) :: (0 : Int) :: (0 : Int) :: (0 : Int) :: (0 : Int) :: (0 : Int) :: (0 : Int) :: (0 : Int) :: (0 : Int) :: ([] : List Int)).drop ((a1.take (if (63 : Int) < (a1.length : Int) then (63 : Int) else (a1.length : Int)).toNat).length)) := copy_map byteT ((0 : Int) :: (0 : Int) :: (0 : Int) :: (0 : Int) :: (0 : Int) :: (0 : Int) :: (0 : Int) :: (0 : Int) :: (0 : Int) :: (0 : Int) :: (0 : Int) :: (0 : Int) :: (0 : Int) :: (0 : Int) :: (0 : Int) :: (0 : Int) :: (0 : Int) :: (0 : Int) :: (0 : Int) :: (0 : Int) :: (0 : Int) :: (0 : Int) :: (0 : Int) :: (0 : Int) :: (0 : Int) :: (0 : Int) :: (0 : Int) :: (0 : Int) :: (0 : Int) :: (0 : Int) :: (0 : Int) :: (0 : Int) :: (0 : Int) :: (0 : Int) :: (0 : Int) :: (0 : Int) :: (0 : Int) :: (0 : Int) :: (0 : Int) :: (0 : Int) :: (0 : Int) :: (0 : Int) :: (0 : Int) :: (0 : Int) :: (0 : Int) :: (0 : Int) :: (0 : Int) :: (0 : Int) :: (0 : Int) :: (0 : Int) :: (0 : Int) :: (0 : Int) :: (0 : Int) :: (0 : Int) :: (0 : Int) :: (0 : Int) :: (0 : Int) :: (0 : Int) :: (0 : Int) :: (0 : Int) :: (0 : Int) :: (0 : Int) :: (0 : Int) :: (0 : Int) :: ([] : List Int)) (a1.take (if (63 : Int) < (a1.length : Int) then (63 : Int) else (a1.length : Int)).toNat)
    have e4 : List.drop ((a1.take (if (63 : Int) < (a1.length : Int) then (63 : Int) else (a1.length : Int)).toNat).length) ((.imm (.int .u8 (0 : Int)) :: .imm (.int .u8 (0 : Int)) :: .imm (.int .u8 (0 : Int)) :: .imm (.int .u8 (0 : Int)) :: .imm (.int .u8 (0 : Int)) :: .imm (.int .u8 (0 : Int)) :: .imm (.int .u8 (0 : Int)) :: .imm (.int .u8 (0 : Int)) :: .imm (.int .u8 (0 : Int)) :: .imm (.int .u8 (0 : Int)) :: .imm (.int .u8 (0 : Int)) :: .imm (.int .u8 (0 : Int)) :: .imm (.int .u8 (0 : Int)) :: .imm (.int .u8 (0 : Int)) :: .imm (.int .u8 (0 : Int)) :: .imm (.int .u8 (0 : Int)) :: .imm (.int .u8 (0 : Int)) :: .imm (.int .u8 (0 : Int)) :: .imm (.int .u8 (0 : Int)) :: .imm (.int .u8 (0 : Int)) :: .imm (.int .u8 (0 : Int)) :: .imm (.int .u8 (0 : Int)) :: .imm (.int .u8 (0 : Int)) :: .imm (.int .u8 (0 : Int)) :: .imm (.int .u8 (0 : Int)) :: .imm (.int .u8 (0 : Int)) :: .imm (.int .u8 (0 : Int)) :: .imm (.int .u8 (0 : Int)) :: .imm (.int .u8 (0 : Int)) :: .imm (.int .u8 (0 : Int)) :: .imm (.int .u8 (0 : Int)) :: .imm (.int .u8 (0 : Int)) :: .imm (.int .u8 (0 : Int)) :: .imm (.int .u8 (0 : Int)) :: .imm (.int .u8 (0 : Int)) :: .imm (.int .u8 (0 : Int)) :: .imm (.int .u8 (0 : Int)) :: .imm (.int .u8 (0 : Int)) :: .imm (.int .u8 (0 : Int)) :: .imm (.int .u8 (0 : Int)) :: .imm (.int .u8 (0 : Int)) :: .imm (.int .u8 (0 : Int)) :: .imm (.int .u8 (0 : Int)) :: .imm (.int .u8 (0 : Int)) :: .imm (.int .u8 (0 : Int)) :: .imm (.int .u8 (0 : Int)) :: .imm (.int .u8 (0 : Int)) :: .imm (.int .u8 (0 : Int)) :: .imm (.int .u8 (0 : Int)) :: .imm (.int .u8 (0 : Int)) :: .imm (.int .u8 (0 : Int)) :: .imm (.int .u8 (0 : Int)) :: .imm (.int .u8 (0 : Int)) :: .imm (.int .u8 (0 : Int)) :: .imm (.int .u8 (0 : Int)) :: .imm (.int .u8 (0 : Int)) :: .imm (.int .u8 (0 : Int)) :: .imm (.int .u8 (0 : Int)) :: .imm (.int .u8 (0 : Int)) :: .imm (.int .u8 (0 : Int)) :: .imm (.int .u8 (0 : Int)) :: .imm (.int .u8 (0 : Int)) :: .imm (.int .u8 (0 : Int)) :: .imm (.int .u8 (0 : Int)) :: ([] : List T)) : List T) = List.map byteT (((0 : Int) :: (0 : Int) :: (0 : Int) :: (0 : Int) :: (0 : Int) :: (0 : Int) :: (0 : Int) :: (0 : Int) :: (0 : Int) :: (0 : Int) :: (0 : Int) :: (0 : Int) :: (0 : Int) :: (0 : Int) :: (0 : Int) :: (0 : Int) :: (0 : Int) :: (0 : Int) :: (0 : Int) :: (0 : Int) :: (0 : Int) :: (0 : Int) :: (0 : Int) :: (0 : Int) :: (0 : Int) :: (0 : Int) :: (0 : Int) :: (0 : Int) :: (0 : Int) :: (0 : Int) :: (0 : Int) :: (0 : Int) :: (0 : Int) :: (0 : Int) :: (0 : Int) :: (0 : Int) :: (0 : Int) :: (0 : Int) :: (0 : Int) :: (0 : Int) :: (0 : Int) :: (0 : Int) :: (0 : Int) :: (0 : Int) :: (0 : Int) :: (0 : Int) :: (0 : Int) :: (0 : Int) :: (0 : Int) :: (0 : Int) :: (0 : Int) :: (0 : Int) :: (0 : Int) :: (0 : Int) :: (0 : Int) :: (0 : Int) :: (0 : Int) :: (0 : Int) :: (0 : Int) :: (0 : Int) :: (0 : Int) :: (0 : Int) :: (0 : Int) :: (0 : Int) :: ([] : List Int)).drop ((a1.take (if (63 : Int) < (a1.length : Int) then (63 : Int) else (a1.length : Int)).toNat).length)) := drop_lit byteT ((0 : Int) :: (0 : Int) :: (0 : Int) :: (0 : Int) :: (0 : Int) :: (0 : Int) :: (0 : Int) :: (0 : Int) :: (0 : Int) :: (0 : Int) :: (0 : Int) :: (0 : Int) :: (0 : Int) :: (0 : Int) :: (0 : Int) :: (0 : Int) :: (0 : Int) :: (0 : Int) :: (0 : Int) :: (0 : Int) :: (0 : Int) :: (0 : Int) :: (0 : Int) :: (0 : Int) :: (0 : Int) :: (0 : Int) :: (0 : Int) :: (0 : Int) :: (0 : Int) :: (0 : Int) :: (0 : Int) :: (0 : Int) :: (0 : Int) :: (0 : Int) :: (0 : Int) :: (0 : Int) :: (0 : Int) :: (0 : Int) :: (0 : Int) :: (0 : Int) :: (0 : Int) :: (0 : Int) :: (0 : Int) :: (0 : Int) :: (0 : Int) :: (0 : Int) :: (0 : Int) :: (0 : Int) :: (0 : Int) :: (0 : Int) :: (0 : Int) :: (0 : Int) :: (0 : Int) :: (0 : Int) :: (0 : Int) :: (0 : Int) :: (0 : Int) :: (0 : Int) :: (0 : Int) :: (0 : Int) :: (0 : Int) :: (0 : Int) :: (0 : Int) :: (0 : Int) :: ([] : List Int)) _ _ rfl
    obtain ⟨g5, h⟩ := grd_some h
    obtain ⟨g6, h⟩ := grd_some h
    have e7 : patchT (List.map byteT ((a1.take (if (63 : Int) < (a1.length : Int) then (63 : Int) else (a1.length : Int)).toNat) ++ ((0 : Int) :: (0 : Int) :: (0 : Int) :: (0 : Int) :: (0 : Int) :: (0 : Int) :: (0 : Int) :: (0 : Int) :: (0 : Int) :: (0 : Int) :: (0 : Int) :: (0 : Int) :: (0 : Int) :: (0 : Int) :: (0 : Int) :: (0 : Int) :: (0 : Int) :: (0 : Int) :: (0 : Int) :: (0 : Int) :: (0 : Int) :: (0 : Int) :: (0 : Int) :: (0 : Int) :: (0 : Int) :: (0 : Int) :: (0 : Int) :: (0 : Int) :: (0 : Int) :: (0 : Int) :: (0 : Int) :: (0 : Int) :: (0 : Int) :: (0 : Int) :: (0 : Int) :: (0 : Int) :: (0 : Int) :: (0 : Int) :: (0 : Int) :: (0 : Int) :: (0 : Int) :: (0 : Int) :: (0 : Int) :: (0 : Int) :: (0 : Int) :: (0 : Int) :: (0 : Int) :: (0 : Int) :: (0 : Int) :: (0 : Int) :: (0 : Int) :: (0 : Int) :: (0 : Int) :: (0 : Int) :: (0 : Int) :: (0 : Int) :: (0 : Int) :: (0 : Int) :: (0 : Int) :: (0 : Int) :: (0 : Int) :: (0 : Int) :: (0 : Int) :: (0 : Int) :: ([] : List Int)).drop ((a1.take (if (63 : Int) < (a1.length : Int) then (63 : Int) else (a1.length : Int)).toNat).length))) (((a1.take (if (63 : Int) < (a1.length : Int) then (63 : Int) else (a1.length : Int)).toNat).length : Int).toNat) ([.imm (.int .u8 (128 : Int))] : List T) = List.map byteT (List.set ((a1.take (if (63 : Int) < (a1.length : Int) then (63 : Int) else (a1.length : Int)).toNat) ++ ((0 : Int) :: (0 : Int) :: (0 : Int) :: (0 : Int) :: (0 : Int) :: (0 : Int) :: (0 : Int) :: (0 : Int) :: (0 : Int) :: (0 : Int) :: (0 : Int) :: (0 : Int) :: (0 : Int) :: (0 : Int) :: (0 : Int) :: (0 : Int) :: (0 : Int) :: (0 : Int) :: (0 : Int) :: (0 : Int) :: (0 : Int) :: (0 : Int) :: (0 : Int) :: (0 : Int) :: (0 : Int) :: (0 : Int) :: (0 : Int) :: (0 : Int) :: (0 : Int) :: (0 : Int) :: (0 : Int) :: (0 : Int) :: (0 : Int) :: (0 : Int) :: (0 : Int) :: (0 : Int) :: (0 : Int) :: (0 : Int) :: (0 : Int) :: (0 : Int) :: (0 : Int) :: (0 : Int) :: (0 : Int) :: (0 : Int) :: (0 : Int) :: (0 : Int) :: (0 : Int) :: (0 : Int) :: (0 : Int) :: (0 : Int) :: (0 : Int) :: (0 : Int) :: (0 : Int) :: (0 : Int) :: (0 : Int) :: (0 : Int) :: (0 : Int) :: (0 : Int) :: (0 : Int) :: (0 : Int) :: (0 : Int) :: (0 : Int) :: (0 : Int) :: (0 : Int) :: ([] : List Int)).drop ((a1.take (if (63 : Int) < (a1.length : Int) then (63 : Int) else (a1.length : Int)).toNat).length)) (((a1.take (if (63 : Int) < (a1.length : Int) then (63 : Int) else (a1.length : Int)).toNat).length : Int).toNat) (128 : Int)) := patch_map byteT (l := ((a1.take (if (63 : Int) < (a1.length : Int) then (63 : Int) else (a1.length : Int)).toNat) ++ ((0 : Int) :: (0 : Int) :: (0 : Int) :: (0 : Int) :: (0 : Int) :: (0 : Int) :: (0 : Int) :: (0 : Int) :: (0 : Int) :: (0 : Int) :: (0 : Int) :: (0 : Int) :: (0 : Int) :: (0 : Int) :: (0 : Int) :: (0 : Int) :: (0 : Int) :: (0 : Int) :: (0 : Int) :: (0 : Int) :: (0 : Int) :: (0 : Int) :: (0 : Int) :: (0 : Int) :: (0 : Int) :: (0 : Int) :: (0 : Int) :: (0 : Int) :: (0 : Int) :: (0 : Int) :: (0 : Int) :: (0 : Int) :: (0 : Int) :: (0 : Int) :: (0 : Int) :: (0 : Int) :: (0 : Int) :: (0 : Int) :: (0 : Int) :: (0 : Int) :: (0 : Int) :: (0 : Int) :: (0 : Int) :: (0 : Int) :: (0 : Int) :: (0 : Int) :: (0 : Int) :: (0 : Int) :: (0 : Int) :: (0 : Int) :: (0 : Int) :: (0 : Int) :: (0 : Int) :: (0 : Int) :: (0 : Int) :: (0 : Int) :: (0 : Int) :: (0 : Int) :: (0 : Int) :: (0 : Int) :: (0 : Int) :: (0 : Int) :: (0 : Int) :: (0 : Int) :: ([] : List Int)).drop ((a1.take (if (63 : Int) < (a1.length : Int) then (63 : Int) else (a1.length : Int)).toNat).length))) (i := ((a1.take (if (63 : Int) < (a1.length : Int) then (63 : Int) else (a1.length : Int)).toNat).length : Int).toNat) (v := (128 : Int)) (by first | omega | (simp only [List.length_cons, List.length_nil]; omega) | (simp only [List.length_append]; omega) | (simp only [List.length_append, List.length_drop, List.length_cons, List.length_nil] at *; omega))
    try simp -implicitDefEqProofs (maxSteps := 4000000) (disch := first | omega | decide | (simp only [go_sem]; omega)) only [go_sem, ↓reduceIte, e3, e4, e7]
    repeat (with_reducible refine And.intro (by first | assumption | omega | (simp; done) | (simp; omega)) ?_)
    refine toEnd hC ?_
    refine endX_seq ?_
    refine runX_meet [2, 4, 5, 6] (fun S => ∃ (x14 : Int) (x15 : Int) (x16 : Int) (x17 : Int) (x18 : Int) (x19 : List (Int)), S = F83_S1 a0 a1 x14 x15 x16 x17 x18 x19 ∧ F83_J1 n a0 a1 x14 x15 x16 x17 x18 x19 = some r) ?_ ?_
    · refine runX_seq ?_
      refine runX_regionC fun C hC => ?_
      try simp -implicitDefEqProofs (maxSteps := 4000000) (disch := first | omega | decide | (simp only [go_sem]; omega)) only [go_sem, ↓reduceIte]
      repeat (with_reducible refine And.intro (by first | assumption | omega | (simp; done) | (simp; omega)) ?_)
      refine toEnd hC ?_
      refine endX_seq ?_
      rcases iteB_some h with ⟨c8, h⟩ | ⟨c8, h⟩
      · refine runX_condT rfl c8 ?_
        refine runX_seq ?_
        refine runX_regionC fun C hC => ?_
        obtain ⟨g9, h⟩ := grd_some h
        obtain ⟨v10, h10, h⟩ := bnd_some h
        try simp -implicitDefEqProofs (maxSteps := 4000000) (disch := first | omega | decide | (simp only [go_sem]; omega)) only [go_sem, ↓reduceIte]
        repeat (with_reducible refine And.intro (by first | assumption | omega | (simp; done) | (simp; omega)) ?_)
        refine callG_X (by first | rfl | (simp only [go_sem]; done) | (simp only [closedL, closedT, Bool.and_true]; exact closedL_map _ (fun _ => by first | rfl | (simp only [go_sem]; done)) _)) (F82_ok n (a0.1, a0.2) ((List.set ((a1.take (if (63 : Int) < (a1.length : Int) then (63 : Int) else (a1.length : Int)).toNat) ++ ((0 : Int) :: (0 : Int) :: (0 : Int) :: (0 : Int) :: (0 : Int) :: (0 : Int) :: (0 : Int) :: (0 : Int) :: (0 : Int) :: (0 : Int) :: (0 : Int) :: (0 : Int) :: (0 : Int) :: (0 : Int) :: (0 : Int) :: (0 : Int) :: (0 : Int) :: (0 : Int) :: (0 : Int) :: (0 : Int) :: (0 : Int) :: (0 : Int) :: (0 : Int) :: (0 : Int) :: (0 : Int) :: (0 : Int) :: (0 : Int) :: (0 : Int) :: (0 : Int) :: (0 : Int) :: (0 : Int) :: (0 : Int) :: (0 : Int) :: (0 : Int) :: (0 : Int) :: (0 : Int) :: (0 : Int) :: (0 : Int) :: (0 : Int) :: (0 : Int) :: (0 : Int) :: (0 : Int) :: (0 : Int) :: (0 : Int) :: (0 : Int) :: (0 : Int) :: (0 : Int) :: (0 : Int) :: (0 : Int) :: (0 : Int) :: (0 : Int) :: (0 : Int) :: (0 : Int) :: (0 : Int) :: (0 : Int) :: (0 : Int) :: (0 : Int) :: (0 : Int) :: (0 : Int) :: (0 : Int) :: (0 : Int) :: (0 : Int) :: (0 : Int) :: (0 : Int) :: ([] : List Int)).drop ((a1.take (if (63 : Int) < (a1.length : Int) then (63 : Int) else (a1.length : Int)).toNat).length)) (((a1.take (if (63 : Int) < (a1.length : Int) then (63 : Int) else (a1.length : Int)).toNat).length : Int).toNat) (128 : Int)).take 64) _ h10) (by repeat (first | exact leL_refl _ | refine leL_cons (by first | exact leT_refl _ | exact leT_virt | exact leT_junk _ | exact leT_sl | exact leT_sln | exact leT_nil | (refine leT_agg (by repeat (first | exact leL_refl _ | refine leL_cons (by first | exact leT_refl _ | exact leT_sl | exact leT_sln | exact leT_nil) ?_)))) ?_)) ?_
        try simp -implicitDefEqProofs (maxSteps := 4000000) (disch := first | omega | decide | (simp only [go_sem]; omega)) only [go_sem, ↓reduceIte]
        repeat (with_reducible refine And.intro (by first | assumption | omega | (simp; done) | (simp; omega)) ?_)
        refine toEnd hC ?_
        refine endX_seq ?_
        refine runX_regionC fun C hC => ?_
        simp only [runK_region, runK_draw, liteL, liteL2, dstsL, gL, List.getD_cons_zero, List.getD_cons_succ]
        try simp -implicitDefEqProofs (maxSteps := 4000000) (disch := first | omega | decide | (simp only [go_sem]; omega)) only [go_sem, ↓reduceIte]
        repeat (with_reducible refine And.intro (by first | assumption | omega | (simp; done) | (simp; omega)) ?_)
        refine bldG_of [.imm (.int .u8 (0 : Int)), .imm (.int .u8 (0 : Int)), .imm (.int .u8 (0 : Int)), .imm (.int .u8 (0 : Int)), .imm (.int .u8 (0 : Int)), .imm (.int .u8 (0 : Int)), .imm (.int .u8 (0 : Int)), .imm (.int .u8 (0 : Int)), .imm (.int .u8 (0 : Int)), .imm (.int .u8 (0 : Int)), .imm (.int .u8 (0 : Int)), .imm (.int .u8 (0 : Int)), .imm (.int .u8 (0 : Int)), .imm (.int .u8 (0 : Int)), .imm (.int .u8 (0 : Int)), .imm (.int .u8 (0 : Int)), .imm (.int .u8 (0 : Int)), .imm (.int .u8 (0 : Int)), .imm (.int .u8 (0 : Int)), .imm (.int .u8 (0 : Int)), .imm (.int .u8 (0 : Int)), .imm (.int .u8 (0 : Int)), .imm (.int .u8 (0 : Int)), .imm (.int .u8 (0 : Int)), .imm (.int .u8 (0 : Int)), .imm (.int .u8 (0 : Int)), .imm (.int .u8 (0 : Int)), .imm (.int .u8 (0 : Int)), .imm (.int .u8 (0 : Int)), .imm (.int .u8 (0 : Int)), .imm (.int .u8 (0 : Int)), .imm (.int .u8 (0 : Int)), .imm (.int .u8 (0 : Int)), .imm (.int .u8 (0 : Int)), .imm (.int .u8 (0 : Int)), .imm (.int .u8 (0 : Int)), .imm (.int .u8 (0 : Int)), .imm (.int .u8 (0 : Int)), .imm (.int .u8 (0 : Int)), .imm (.int .u8 (0 : Int)), .imm (.int .u8 (0 : Int)), .imm (.int .u8 (0 : Int)), .imm (.int .u8 (0 : Int)), .imm (.int .u8 (0 : Int)), .imm (.int .u8 (0 : Int)), .imm (.int .u8 (0 : Int)), .imm (.int .u8 (0 : Int)), .imm (.int .u8 (0 : Int)), .imm (.int .u8 (0 : Int)), .imm (.int .u8 (0 : Int)), .imm (.int .u8 (0 : Int)), .imm (.int .u8 (0 : Int)), .imm (.int .u8 (0 : Int)), .imm (.int .u8 (0 : Int)), .imm (.int .u8 (0 : Int)), .imm (.int .u8 (0 : Int)), .imm (.int .u8 (0 : Int)), .imm (.int .u8 (0 : Int)), .imm (.int .u8 (0 : Int)), .imm (.int .u8 (0 : Int)), .imm (.int .u8 (0 : Int)), .imm (.int .u8 (0 : Int)), .imm (.int .u8 (0 : Int)), .imm (.int .u8 (0 : Int))] (by kernel_rfl) ?_
        obtain ⟨g11, h⟩ := grd_some h
        have e12 : List.drop 64 (List.set ((a1.take (if (63 : Int) < (a1.length : Int) then (63 : Int) else (a1.length : Int)).toNat) ++ ((0 : Int) :: (0 : Int) :: (0 : Int) :: (0 : Int) :: (0 : Int) :: (0 : Int) :: (0 : Int) :: (0 : Int) :: (0 : Int) :: (0 : Int) :: (0 : Int) :: (0 : Int) :: (0 : Int) :: (0 : Int) :: (0 : Int) :: (0 : Int) :: (0 : Int) :: (0 : Int) :: (0 : Int) :: (0 : Int) :: (0 : Int) :: (0 : Int) :: (0 : Int) :: (0 : Int) :: (0 : Int) :: (0 : Int) :: (0 : Int) :: (0 : Int) :: (0 : Int) :: (0 : Int) :: (0 : Int) :: (0 : Int) :: (0 : Int) :: (0 : Int) :: (0 : Int) :: (0 : Int) :: (0 : Int) :: (0 : Int) :: (0 : Int) :: (0 : Int) :: (0 : Int) :: (0 : Int) :: (0 : Int) :: (0 : Int) :: (0 : Int) :: (0 : Int) :: (0 : Int) :: (0 : Int) :: (0 : Int) :: (0 : Int) :: (0 : Int) :: (0 : Int) :: (0 : Int) :: (0 : Int) :: (0 : Int) :: (0 : Int) :: (0 : Int) :: (0 : Int) :: (0 : Int) :: (0 : Int) :: (0 : Int) :: (0 : Int) :: (0 : Int) :: (0 : Int) :: ([] : List Int)).drop ((a1.take (if (63 : Int) < (a1.length : Int) then (63 : Int) else (a1.length : Int)).toNat).length)) (((a1.take (if (63 : Int) < (a1.length : Int) then (63 : Int) else (a1.length : Int)).toNat).length : Int).toNat) (128 : Int)) = [] := List.drop_of_length_le (by first | omega | (simp only [List.length_set, List.length_append]; omega) | (simp only [List.length_set, List.length_append, List.length_drop, List.length_cons, List.length_nil] at *; omega))
        have e13 : List.drop 64 (List.set ((a1.take (if (63 : Int) < (a1.length : Int) then (63 : Int) else (a1.length : Int)).toNat) ++ ((0 : Int) :: (0 : Int) :: (0 : Int) :: (0 : Int) :: (0 : Int) :: (0 : Int) :: (0 : Int) :: (0 : Int) :: (0 : Int) :: (0 : Int) :: (0 : Int) :: (0 : Int) :: (0 : Int) :: (0 : Int) :: (0 : Int) :: (0 : Int) :: (0 : Int) :: (0 : Int) :: (0 : Int) :: (0 : Int) :: (0 : Int) :: (0 : Int) :: (0 : Int) :: (0 : Int) :: (0 : Int) :: (0 : Int) :: (0 : Int) :: (0 : Int) :: (0 : Int) :: (0 : Int) :: (0 : Int) :: (0 : Int) :: (0 : Int) :: (0 : Int) :: (0 : Int) :: (0 : Int) :: (0 : Int) :: (0 : Int) :: (0 : Int) :: (0 : Int) :: (0 : Int) :: (0 : Int) :: (0 : Int) :: (0 : Int) :: (0 : Int) :: (0 : Int) :: (0 : Int) :: (0 : Int) :: (0 : Int) :: (0 : Int) :: (0 : Int) :: (0 : Int) :: (0 : Int) :: (0 : Int) :: (0 : Int) :: (0 : Int) :: (0 : Int) :: (0 : Int) :: (0 : Int) :: (0 : Int) :: (0 : Int) :: (0 : Int) :: (0 : Int) :: (0 : Int) :: ([] : List Int)).drop ((a1.take (if (63 : Int) < (a1.length : Int) then (63 : Int) else (a1.length : Int)).toNat).length)) (((a1.take (if (63 : Int) < (a1.length : Int) then (63 : Int) else (a1.length : Int)).toNat).length)) (128 : Int)) = [] := List.drop_of_length_le (by first | omega | (simp only [List.length_set, List.length_append]; omega) | (simp only [List.length_set, List.length_append, List.length_drop, List.length_cons, List.length_nil] at *; omega))
        try simp -implicitDefEqProofs (maxSteps := 4000000) (disch := first | omega | decide | (simp only [go_sem]; omega)) only [go_sem, ↓reduceIte, e12, e13]
        repeat (with_reducible refine And.intro (by first | assumption | omega | (simp; done) | (simp; omega)) ?_)
        refine toEnd hC ?_
        refine endX_q (meetQ_normal ⟨F83_S1 a0 a1 (v10.1.getD 0 default) (v10.1.getD 1 default) (v10.1.getD 2 default) (v10.1.getD 3 default) v10.2 ((0 : Int) :: (0 : Int) :: (0 : Int) :: (0 : Int) :: (0 : Int) :: (0 : Int) :: (0 : Int) :: (0 : Int) :: (0 : Int) :: (0 : Int) :: (0 : Int) :: (0 : Int) :: (0 : Int) :: (0 : Int) :: (0 : Int) :: (0 : Int) :: (0 : Int) :: (0 : Int) :: (0 : Int) :: (0 : Int) :: (0 : Int) :: (0 : Int) :: (0 : Int) :: (0 : Int) :: (0 : Int) :: (0 : Int) :: (0 : Int) :: (0 : Int) :: (0 : Int) :: (0 : Int) :: (0 : Int) :: (0 : Int) :: (0 : Int) :: (0 : Int) :: (0 : Int) :: (0 : Int) :: (0 : Int) :: (0 : Int) :: (0 : Int) :: (0 : Int) :: (0 : Int) :: (0 : Int) :: (0 : Int) :: (0 : Int) :: (0 : Int) :: (0 : Int) :: (0 : Int) :: (0 : Int) :: (0 : Int) :: (0 : Int) :: (0 : Int) :: (0 : Int) :: (0 : Int) :: (0 : Int) :: (0 : Int) :: (0 : Int) :: (0 : Int) :: (0 : Int) :: (0 : Int) :: (0 : Int) :: (0 : Int) :: (0 : Int) :: (0 : Int) :: (0 : Int) :: ([] : List Int)), ?_, (v10.1.getD 0 default), (v10.1.getD 1 default), (v10.1.getD 2 default), (v10.1.getD 3 default), v10.2, ((0 : Int) :: (0 : Int) :: (0 : Int) :: (0 : Int) :: (0 : Int) :: (0 : Int) :: (0 : Int) :: (0 : Int) :: (0 : Int) :: (0 : Int) :: (0 : Int) :: (0 : Int) :: (0 : Int) :: (0 : Int) :: (0 : Int) :: (0 : Int) :: (0 : Int) :: (0 : Int) :: (0 : Int) :: (0 : Int) :: (0 : Int) :: (0 : Int) :: (0 : Int) :: (0 : Int) :: (0 : Int) :: (0 : Int) :: (0 : Int) :: (0 : Int) :: (0 : Int) :: (0 : Int) :: (0 : Int) :: (0 : Int) :: (0 : Int) :: (0 : Int) :: (0 : Int) :: (0 : Int) :: (0 : Int) :: (0 : Int) :: (0 : Int) :: (0 : Int) :: (0 : Int) :: (0 : Int) :: (0 : Int) :: (0 : Int) :: (0 : Int) :: (0 : Int) :: (0 : Int) :: (0 : Int) :: (0 : Int) :: (0 : Int) :: (0 : Int) :: (0 : Int) :: (0 : Int) :: (0 : Int) :: (0 : Int) :: (0 : Int) :: (0 : Int) :: (0 : Int) :: (0 : Int) :: (0 : Int) :: (0 : Int) :: (0 : Int) :: (0 : Int) :: (0 : Int) :: ([] : List Int)), rfl, h⟩)
        simp only [F83_S1]
        (try simp -implicitDefEqProofs (maxSteps := 4000000) (disch := first | omega | decide | (simp only [go_sem]; omega)) only [go_sem, ↓reduceIte])
        first | exact leS_refl _ | (refine leS_le ?_ ?_ <;> first | exact leL_refl _ | exact leOs_refl _ | (simp only [List.append_assoc, List.cons_append, List.nil_append]; exact leOs_refl _) | (repeat (first | exact leL_refl _ | refine leL_cons (by first | exact leT_refl _ | exact leT_virt | exact leT_junk _ | exact leT_sl | exact leT_sln | exact leT_nil | (refine leT_agg (by repeat (first | exact leL_refl _ | refine leL_cons (by first | exact leT_refl _ | exact leT_sl | exact leT_sln | exact leT_nil) ?_)))) ?_)))
      · refine runX_condF rfl c8 ?_
        refine runX_skip ?_
        refine endX_q (meetQ_normal ⟨F83_S1 a0 a1 (a0.1.getD 0 default) (a0.1.getD 1 default) (a0.1.getD 2 default) (a0.1.getD 3 default) a0.2 (List.set ((a1.take (if (63 : Int) < (a1.length : Int) then (63 : Int) else (a1.length : Int)).toNat) ++ ((0 : Int) :: (0 : Int) :: (0 : Int) :: (0 : Int) :: (0 : Int) :: (0 : Int) :: (0 : Int) :: (0 : Int) :: (0 : Int) :: (0 : Int) :: (0 : Int) :: (0 : Int) :: (0 : Int) :: (0 : Int) :: (0 : Int) :: (0 : Int) :: (0 : Int) :: (0 : Int) :: (0 : Int) :: (0 : Int) :: (0 : Int) :: (0 : Int) :: (0 : Int) :: (0 : Int) :: (0 : Int) :: (0 : Int) :: (0 : Int) :: (0 : Int) :: (0 : Int) :: (0 : Int) :: (0 : Int) :: (0 : Int) :: (0 : Int) :: (0 : Int) :: (0 : Int) :: (0 : Int) :: (0 : Int) :: (0 : Int) :: (0 : Int) :: (0 : Int) :: (0 : Int) :: (0 : Int) :: (0 : Int) :: (0 : Int) :: (0 : Int) :: (0 : Int) :: (0 : Int) :: (0 : Int) :: (0 : Int) :: (0 : Int) :: (0 : Int) :: (0 : Int) :: (0 : Int) :: (0 : Int) :: (0 : Int) :: (0 : Int) :: (0 : Int) :: (0 : Int) :: (0 : Int) :: (0 : Int) :: (0 : Int) :: (0 : Int) :: (0 : Int) :: (0 : Int) :: ([] : List Int)).drop ((a1.take (if (63 : Int) < (a1.length : Int) then (63 : Int) else (a1.length : Int)).toNat).length)) (((a1.take (if (63 : Int) < (a1.length : Int) then (63 : Int) else (a1.length : Int)).toNat).length : Int).toNat) (128 : Int)), ?_, (a0.1.getD 0 default), (a0.1.getD 1 default), (a0.1.getD 2 default), (a0.1.getD 3 default), a0.2, (List.set ((a1.take (if (63 : Int) < (a1.length : Int) then (63 : Int) else (a1.length : Int)).toNat) ++ ((0 : Int) :: (0 : Int) :: (0 : Int) :: (0 : Int) :: (0 : Int) :: (0 : Int) :: (0 : Int) :: (0 : Int) :: (0 : Int) :: (0 : Int) :: (0 : Int) :: (0 : Int) :: (0 : Int) :: (0 : Int) :: (0 : Int) :: (0 : Int) :: (0 : Int) :: (0 : Int) :: (0 : Int) :: (0 : Int) :: (0 : Int) :: (0 : Int) :: (0 : Int) :: (0 : Int) :: (0 : Int) :: (0 : Int) :: (0 : Int) :: (0 : Int) :: (0 : Int) :: (0 : Int) :: (0 : Int) :: (0 : Int) :: (0 : Int) :: (0 : Int) :: (0 : Int) :: (0 : Int) :: (0 : Int) :: (0 : Int) :: (0 : Int) :: (0 : Int) :: (0 : Int) :: (0 : Int) :: (0 : Int) :: (0 : Int) :: (0 : Int) :: (0 : Int) :: (0 : Int) :: (0 : Int) :: (0 : Int) :: (0 : Int) :: (0 : Int) :: (0 : Int) :: (0 : Int) :: (0 : Int) :: (0 : Int) :: (0 : Int) :: (0 : Int) :: (0 : Int) :: (0 : Int) :: (0 : Int) :: (0 : Int) :: (0 : Int) :: (0 : Int) :: (0 : Int) :: ([] : List Int)).drop ((a1.take (if (63 : Int) < (a1.length : Int) then (63 : Int) else (a1.length : Int)).toNat).length)) (((a1.take (if (63 : Int) < (a1.length : Int) then (63 : Int) else (a1.length : Int)).toNat).length : Int).toNat) (128 : Int)), rfl, h⟩)
        simp only [F83_S1]
        (try simp -implicitDefEqProofs (maxSteps := 4000000) (disch := first | omega | decide | (simp only [go_sem]; omega)) only [go_sem, ↓reduceIte])
        first | exact leS_refl _ | (refine leS_le ?_ ?_ <;> first | exact leL_refl _ | exact leOs_refl _ | (simp only [List.append_assoc, List.cons_append, List.nil_append]; exact leOs_refl _) | (repeat (first | exact leL_refl _ | refine leL_cons (by first | exact leT_refl _ | exact leT_virt | exact leT_junk _ | exact leT_sl | exact leT_sln | exact leT_nil | (refine leT_agg (by repeat (first | exact leL_refl _ | refine leL_cons (by first | exact leT_refl _ | exact leT_sl | exact leT_sln | exact leT_nil) ?_)))) ?_)))
    · clear h
      rintro S ⟨x14, x15, x16, x17, x18, x19, rfl, h⟩
      rw [F83_J1] at h
      simp only [F83_S1]
      refine runX_seq ?_
      refine runX_seq ?_
      refine runX_regionC fun C hC => ?_
      try simp -implicitDefEqProofs (maxSteps := 4000000) (disch := first | omega | decide | (simp only [go_sem]; omega)) only [go_sem, ↓reduceIte]
      repeat (with_reducible refine And.intro (by first | assumption | omega | (simp; done) | (simp; omega)) ?_)
      refine toEnd hC ?_
      refine endX_seq ?_
      refine runX_block ?_
      refine runX_unroll 8 ?_
      refine runX_seq ?_
      refine runX_regionC fun C hC => ?_
      try simp -implicitDefEqProofs (maxSteps := 4000000) (disch := first | omega | decide | (simp only [go_sem]; omega)) only [go_sem, ↓reduceIte]
      repeat (with_reducible refine And.intro (by first | assumption | omega | (simp; done) | (simp; omega)) ?_)
      refine toEnd hC ?_
      refine endX_seq ?_
      refine runX_seq ?_
      refine runX_condT rfl rfl ?_
      refine runX_skip ?_
      refine endX_seq ?_
      refine runX_seq ?_
      refine runX_block ?_
      refine runX_seq ?_
      refine runX_regionC fun C hC => ?_
      try simp -implicitDefEqProofs (maxSteps := 4000000) (disch := first | omega | decide | (simp only [go_sem]; omega)) only [go_sem, ↓reduceIte]
      repeat (with_reducible refine And.intro (by first | assumption | omega | (simp; done) | (simp; omega)) ?_)
      refine toEnd hC ?_
      refine endX_seq ?_
      refine runX_regionC fun C hC => ?_
      obtain ⟨g20, h⟩ := grd_some h
      have e21 : patchT (List.map byteT x19) 56 [.imm (.int .u8 (IntKind.wrap .u8 ((bShr .u64 (IntKind.wrap .u64 ((8 : Int) * (IntKind.wrap .u64 (a0.2 + (IntKind.wrap .u64 (((a1.take (if (63 : Int) < (a1.length : Int) then (63 : Int) else (a1.length : Int)).toNat).length : Int))))))) 0))))] = List.map byteT (List.set x19 56 (IntKind.wrap .u8 ((bShr .u64 (IntKind.wrap .u64 ((8 : Int) * (IntKind.wrap .u64 (a0.2 + (IntKind.wrap .u64 (((a1.take (if (63 : Int) < (a1.length : Int) then (63 : Int) else (a1.length : Int)).toNat).length : Int))))))) 0)))) := patch_map byteT (l := x19) (i := 56) (v := (IntKind.wrap .u8 ((bShr .u64 (IntKind.wrap .u64 ((8 : Int) * (IntKind.wrap .u64 (a0.2 + (IntKind.wrap .u64 (((a1.take (if (63 : Int) < (a1.length : Int) then (63 : Int) else (a1.length : Int)).toNat).length : Int))))))) 0)))) (by first | assumption | omega | (simp only [List.length_set] at *; omega))
      try simp -implicitDefEqProofs (maxSteps := 4000000) (disch := first | omega | decide | (simp only [go_sem]; omega)) only [go_sem, ↓reduceIte, e21]
      repeat (with_reducible refine And.intro (by first | assumption | omega | (simp; done) | (simp; omega)) ?_)
      refine toEnd hC ?_
      refine endX_blk ?_
      refine endX_seq ?_
      refine runX_regionC fun C hC => ?_
      try simp -implicitDefEqProofs (maxSteps := 4000000) (disch := first | omega | decide | (simp only [go_sem]; omega)) only [go_sem, ↓reduceIte]
      repeat (with_reducible refine And.intro (by first | assumption | omega | (simp; done) | (simp; omega)) ?_)
      refine toEnd hC ?_
      refine endX_lp ?_
      refine runX_seq ?_
      refine runX_regionC fun C hC => ?_
      try simp -implicitDefEqProofs (maxSteps := 4000000) (disch := first | omega | decide | (simp only [go_sem]; omega)) only [go_sem, ↓reduceIte]
      repeat (with_reducible refine And.intro (by first | assumption | omega | (simp; done) | (simp; omega)) ?_)
      refine toEnd hC ?_
      refine endX_seq ?_
      refine runX_seq ?_
      refine runX_condT rfl rfl ?_
      refine runX_skip ?_
      refine endX_seq ?_
      refine runX_seq ?_
      refine runX_block ?_
      refine runX_seq ?_
      refine runX_regionC fun C hC => ?_
      try simp -implicitDefEqProofs (maxSteps := 4000000) (disch := first | omega | decide | (simp only [go_sem]; omega)) only [go_sem, ↓reduceIte]
      repeat (with_reducible refine And.intro (by first | assumption | omega | (simp; done) | (simp; omega)) ?_)
      refine toEnd hC ?_
      refine endX_seq ?_
      refine runX_regionC fun C hC => ?_
      obtain ⟨g22, h⟩ := grd_some h
      have e23 : patchT (List.map byteT (List.set x19 56 (IntKind.wrap .u8 ((bShr .u64 (IntKind.wrap .u64 ((8 : Int) * (IntKind.wrap .u64 (a0.2 + (IntKind.wrap .u64 (((a1.take (if (63 : Int) < (a1.length : Int) then (63 : Int) else (a1.length : Int)).toNat).length : Int))))))) 0))))) 57 [.imm (.int .u8 (IntKind.wrap .u8 ((bShr .u64 (IntKind.wrap .u64 ((8 : Int) * (IntKind.wrap .u64 (a0.2 + (IntKind.wrap .u64 (((a1.take (if (63 : Int) < (a1.length : Int) then (63 : Int) else (a1.length : Int)).toNat).length : Int))))))) 8))))] = List.map byteT (List.set (List.set x19 56 (IntKind.wrap .u8 ((bShr .u64 (IntKind.wrap .u64 ((8 : Int) * (IntKind.wrap .u64 (a0.2 + (IntKind.wrap .u64 (((a1.take (if (63 : Int) < (a1.length : Int) then (63 : Int) else (a1.length : Int)).toNat).length : Int))))))) 0)))) 57 (IntKind.wrap .u8 ((bShr .u64 (IntKind.wrap .u64 ((8 : Int) * (IntKind.wrap .u64 (a0.2 + (IntKind.wrap .u64 (((a1.take (if (63 : Int) < (a1.length : Int) then (63 : Int) else (a1.length : Int)).toNat).length : Int))))))) 8)))) := patch_map byteT (l := (List.set x19 56 (IntKind.wrap .u8 ((bShr .u64 (IntKind.wrap .u64 ((8 : Int) * (IntKind.wrap .u64 (a0.2 + (IntKind.wrap .u64 (((a1.take (if (63 : Int) < (a1.length : Int) then (63 : Int) else (a1.length : Int)).toNat).length : Int))))))) 0))))) (i := 57) (v := (IntKind.wrap .u8 ((bShr .u64 (IntKind.wrap .u64 ((8 : Int) * (IntKind.wrap .u64 (a0.2 + (IntKind.wrap .u64 (((a1.take (if (63 : Int) < (a1.length : Int) then (63 : Int) else (a1.length : Int)).toNat).length : Int))))))) 8)))) (by first | assumption | omega | (simp only [List.length_set] at *; omega))
      try simp -implicitDefEqProofs (maxSteps := 4000000) (disch := first | omega | decide | (simp only [go_sem]; omega)) only [go_sem, ↓reduceIte, e23]
      repeat (with_reducible refine And.intro (by first | assumption | omega | (simp; done) | (simp; omega)) ?_)
      refine toEnd hC ?_
      refine endX_blk ?_
      refine endX_seq ?_
      refine runX_regionC fun C hC => ?_
      try simp -implicitDefEqProofs (maxSteps := 4000000) (disch := first | omega | decide | (simp only [go_sem]; omega)) only [go_sem, ↓reduceIte]
      repeat (with_reducible refine And.intro (by first | assumption | omega | (simp; done) | (simp; omega)) ?_)
      refine toEnd hC ?_
      refine endX_lp ?_
      refine runX_seq ?_
      refine runX_regionC fun C hC => ?_
      try simp -implicitDefEqProofs (maxSteps := 4000000) (disch := first | omega | decide | (simp only [go_sem]; omega)) only [go_sem, ↓reduceIte]
      repeat (with_reducible refine And.intro (by first | assumption | omega | (simp; done) | (simp; omega)) ?_)
      refine toEnd hC ?_
      refine endX_seq ?_
      refine runX_seq ?_
      refine runX_condT rfl rfl ?_
      refine runX_skip ?_
      refine endX_seq ?_
      refine runX_seq ?_
      refine runX_block ?_
      refine runX_seq ?_
      refine runX_regionC fun C hC => ?_
      try simp -implicitDefEqProofs (maxSteps := 4000000) (disch := first | omega | decide | (simp only [go_sem]; omega)) only [go_sem, ↓reduceIte]
      repeat (with_reducible refine And.intro (by first | assumption | omega | (simp; done) | (simp; omega)) ?_)
      refine toEnd hC ?_
      refine endX_seq ?_
      refine runX_regionC fun C hC => ?_
      obtain ⟨g24, h⟩ := grd_some h
      have e25 : patchT (List.map byteT (List.set (List.set x19 56 (IntKind.wrap .u8 ((bShr .u64 (IntKind.wrap .u64 ((8 : Int) * (IntKind.wrap .u64 (a0.2 + (IntKind.wrap .u64 (((a1.take (if (63 : Int) < (a1.length : Int) then (63 : Int) else (a1.length : Int)).toNat).length : Int))))))) 0)))) 57 (IntKind.wrap .u8 ((bShr .u64 (IntKind.wrap .u64 ((8 : Int) * (IntKind.wrap .u64 (a0.2 + (IntKind.wrap .u64 (((a1.take (if (63 : Int) < (a1.length : Int) then (63 : Int) else (a1.length : Int)).toNat).length : Int))))))) 8))))) 58 [.imm (.int .u8 (IntKind.wrap .u8 ((bShr .u64 (IntKind.wrap .u64 ((8 : Int) * (IntKind.wrap .u64 (a0.2 + (IntKind.wrap .u64 (((a1.take (if (63 : Int) < (a1.length : Int) then (63 : Int) else (a1.length : Int)).toNat).length : Int))))))) 16))))] = List.map byteT (List.set (List.set (List.set x19 56 (IntKind.wrap .u8 ((bShr .u64 (IntKind.wrap .u64 ((8 : Int) * (IntKind.wrap .u64 (a0.2 + (IntKind.wrap .u64 (((a1.take (if (63 : Int) < (a1.length : Int) then (63 : Int) else (a1.length : Int)).toNat).length : Int))))))) 0)))) 57 (IntKind.wrap .u8 ((bShr .u64 (IntKind.wrap .u64 ((8 : Int) * (IntKind.wrap .u64 (a0.2 + (IntKind.wrap .u64 (((a1.take (if (63 : Int) < (a1.length : Int) then (63 : Int) else (a1.length : Int)).toNat).length : Int))))))) 8)))) 58 (IntKind.wrap .u8 ((bShr .u64 (IntKind.wrap .u64 ((8 : Int) * (IntKind.wrap .u64 (a0.2 + (IntKind.wrap .u64 (((a1.take (if (63 : Int) < (a1.length : Int) then (63 : Int) else (a1.length : Int)).toNat).length : Int))))))) 16)))) := patch_map byteT (l := (List.set (List.set x19 56 (IntKind.wrap .u8 ((bShr .u64 (IntKind.wrap .u64 ((8 : Int) * (IntKind.wrap .u64 (a0.2 + (IntKind.wrap .u64 (((a1.take (if (63 : Int) < (a1.length : Int) then (63 : Int) else (a1.length : Int)).toNat).length : Int))))))) 0)))) 57 (IntKind.wrap .u8 ((bShr .u64 (IntKind.wrap .u64 ((8 : Int) * (IntKind.wrap .u64 (a0.2 + (IntKind.wrap .u64 (((a1.take (if (63 : Int) < (a1.length : Int) then (63 : Int) else (a1.length : Int)).toNat).length : Int))))))) 8))))) (i := 58) (v := (IntKind.wrap .u8 ((bShr .u64 (IntKind.wrap .u64 ((8 : Int) * (IntKind.wrap .u64 (a0.2 + (IntKind.wrap .u64 (((a1.take (if (63 : Int) < (a1.length : Int) then (63 : Int) else (a1.length : Int)).toNat).length : Int))))))) 16)))) (by first | assumption | omega | (simp only [List.length_set] at *; omega))
      try simp -implicitDefEqProofs (maxSteps := 4000000) (disch := first | omega | decide | (simp only [go_sem]; omega)) only [go_sem, ↓reduceIte, e25]
      repeat (with_reducible refine And.intro (by first | assumption | omega | (simp; done) | (simp; omega)) ?_)
      refine toEnd hC ?_
      refine endX_blk ?_
      refine endX_seq ?_
      refine runX_regionC fun C hC => ?_
      try simp -implicitDefEqProofs (maxSteps := 4000000) (disch := first | omega | decide | (simp only [go_sem]; omega)) only [go_sem, ↓reduceIte]
      repeat (with_reducible refine And.intro (by first | assumption | omega | (simp; done) | (simp; omega)) ?_)
      refine toEnd hC ?_
      refine endX_lp ?_
      refine runX_seq ?_
      refine runX_regionC fun C hC => ?_
      try simp -implicitDefEqProofs (maxSteps := 4000000) (disch := first | omega | decide | (simp only [go_sem]; omega)) only [go_sem, ↓reduceIte]
      repeat (with_reducible refine And.intro (by first | assumption | omega | (simp; done) | (simp; omega)) ?_)
      refine toEnd hC ?_
      refine endX_seq ?_
      refine runX_seq ?_
      refine runX_condT rfl rfl ?_
      refine runX_skip ?_
      refine endX_seq ?_
      refine runX_seq ?_
      refine runX_block ?_
      refine runX_seq ?_
      refine runX_regionC fun C hC => ?_
      try simp -implicitDefEqProofs (maxSteps := 4000000) (disch := first | omega | decide | (simp only [go_sem]; omega)) only [go_sem, ↓reduceIte]
      repeat (with_reducible refine And.intro (by first | assumption | omega | (simp; done) | (simp; omega)) ?_)
      refine toEnd hC ?_
      refine endX_seq ?_
      refine runX_regionC fun C hC => ?_
      obtain ⟨g26, h⟩ := grd_some h
      have e27 : patchT (List.map byteT (List.set (List.set (List.set x19 56 (IntKind.wrap .u8 ((bShr .u64 (IntKind.wrap .u64 ((8 : Int) * (IntKind.wrap .u64 (a0.2 + (IntKind.wrap .u64 (((a1.take (if (63 : Int) < (a1.length : Int) then (63 : Int) else (a1.length : Int)).toNat).length : Int))))))) 0)))) 57 (IntKind.wrap .u8 ((bShr .u64 (IntKind.wrap .u64 ((8 : Int) * (IntKind.wrap .u64 (a0.2 + (IntKind.wrap .u64 (((a1.take (if (63 : Int) < (a1.length : Int) then (63 : Int) else (a1.length : Int)).toNat).length : Int))))))) 8)))) 58 (IntKind.wrap .u8 ((bShr .u64 (IntKind.wrap .u64 ((8 : Int) * (IntKind.wrap .u64 (a0.2 + (IntKind.wrap .u64 (((a1.take (if (63 : Int) < (a1.length : Int) then (63 : Int) else (a1.length : Int)).toNat).length : Int))))))) 16))))) 59 [.imm (.int .u8 (IntKind.wrap .u8 ((bShr .u64 (IntKind.wrap .u64 ((8 : Int) * (IntKind.wrap .u64 (a0.2 + (IntKind.wrap .u64 (((a1.take (if (63 : Int) < (a1.length : Int) then (63 : Int) else (a1.length : Int)).toNat).length : Int))))))) 24))))] = List.map byteT (List.set (List.set (List.set (List.set x19 56 (IntKind.wrap .u8 ((bShr .u64 (IntKind.wrap .u64 ((8 : Int) * (IntKind.wrap .u64 (a0.2 + (IntKind.wrap .u64 (((a1.take (if (63 : Int) < (a1.length : Int) then (63 : Int) else (a1.length : Int)).toNat).length : Int))))))) 0)))) 57 (IntKind.wrap .u8 ((bShr .u64 (IntKind.wrap .u64 ((8 : Int) * (IntKind.wrap .u64 (a0.2 + (IntKind.wrap .u64 (((a1.take (if (63 : Int) < (a1.length : Int) then (63 : Int) else (a1.length : Int)).toNat).length : Int))))))) 8)))) 58 (IntKind.wrap .u8 ((bShr .u64 (IntKind.wrap .u64 ((8 : Int) * (IntKind.wrap .u64 (a0.2 + (IntKind.wrap .u64 (((a1.take (if (63 : Int) < (a1.length : Int) then (63 : Int) else (a1.length : Int)).toNat).length : Int))))))) 16)))) 59 (IntKind.wrap .u8 ((bShr .u64 (IntKind.wrap .u64 ((8 : Int) * (IntKind.wrap .u64 (a0.2 + (IntKind.wrap .u64 (((a1.take (if (63 : Int) < (a1.length : Int) then (63 : Int) else (a1.length : Int)).toNat).length : Int))))))) 24)))) := patch_map byteT (l := (List.set (List.set (List.set x19 56 (IntKind.wrap .u8 ((bShr .u64 (IntKind.wrap .u64 ((8 : Int) * (IntKind.wrap .u64 (a0.2 + (IntKind.wrap .u64 (((a1.take (if (63 : Int) < (a1.length : Int) then (63 : Int) else (a1.length : Int)).toNat).length : Int))))))) 0)))) 57 (IntKind.wrap .u8 ((bShr .u64 (IntKind.wrap .u64 ((8 : Int) * (IntKind.wrap .u64 (a0.2 + (IntKind.wrap .u64 (((a1.take (if (63 : Int) < (a1.length : Int) then (63 : Int) else (a1.length : Int)).toNat).length : Int))))))) 8)))) 58 (IntKind.wrap .u8 ((bShr .u64 (IntKind.wrap .u64 ((8 : Int) * (IntKind.wrap .u64 (a0.2 + (IntKind.wrap .u64 (((a1.take (if (63 : Int) < (a1.length : Int) then (63 : Int) else (a1.length : Int)).toNat).length : Int))))))) 16))))) (i := 59) (v := (IntKind.wrap .u8 ((bShr .u64 (IntKind.wrap .u64 ((8 : Int) * (IntKind.wrap .u64 (a0.2 + (IntKind.wrap .u64 (((a1.take (if (63 : Int) < (a1.length : Int) then (63 : Int) else (a1.length : Int)).toNat).length : Int))))))) 24)))) (by first | assumption | omega | (simp only [List.length_set] at *; omega))
      try simp -implicitDefEqProofs (maxSteps := 4000000) (disch := first | omega | decide | (simp only [go_sem]; omega)) only [go_sem, ↓reduceIte, e27]
      repeat (with_reducible refine And.intro (by first | assumption | omega | (simp; done) | (simp; omega)) ?_)
      refine toEnd hC ?_
      refine endX_blk ?_
      refine endX_seq ?_
      refine runX_regionC fun C hC => ?_
      try simp -implicitDefEqProofs (maxSteps := 4000000) (disch := first | omega | decide | (simp only [go_sem]; omega)) only [go_sem, ↓reduceIte]
      repeat (with_reducible refine And.intro (by first | assumption | omega | (simp; done) | (simp; omega)) ?_)
      refine toEnd hC ?_
      refine endX_lp ?_
      refine runX_seq ?_
      refine runX_regionC fun C hC => ?_
      try simp -implicitDefEqProofs (maxSteps := 4000000) (disch := first | omega | decide | (simp only [go_sem]; omega)) only [go_sem, ↓reduceIte]
      repeat (with_reducible refine And.intro (by first | assumption | omega | (simp; done) | (simp; omega)) ?_)
      refine toEnd hC ?_
      refine endX_seq ?_
      refine runX_seq ?_
      refine runX_condT rfl rfl ?_
      refine runX_skip ?_
      refine endX_seq ?_
      refine runX_seq ?_
      refine runX_block ?_
      refine runX_seq ?_
      refine runX_regionC fun C hC => ?_
      try simp -implicitDefEqProofs (maxSteps := 4000000) (disch := first | omega | decide | (simp only [go_sem]; omega)) only [go_sem, ↓reduceIte]
      repeat (with_reducible refine And.intro (by first | assumption | omega | (simp; done) | (simp; omega)) ?_)
      refine toEnd hC ?_
      refine endX_seq ?_
      refine runX_regionC fun C hC => ?_
      obtain ⟨g28, h⟩ := grd_some h
      have e29 : patchT (List.map byteT (List.set (List.set (List.set (List.set x19 56 (IntKind.wrap .u8 ((bShr .u64 (IntKind.wrap .u64 ((8 : Int) * (IntKind.wrap .u64 (a0.2 + (IntKind.wrap .u64 (((a1.take (if (63 : Int) < (a1.length : Int) then (63 : Int) else (a1.length : Int)).toNat).length : Int))))))) 0)))) 57 (IntKind.wrap .u8 ((bShr .u64 (IntKind.wrap .u64 ((8 : Int) * (IntKind.wrap .u64 (a0.2 + (IntKind.wrap .u64 (((a1.take (if (63 : Int) < (a1.length : Int) then (63 : Int) else (a1.length : Int)).toNat).length : Int))))))) 8)))) 58 (IntKind.wrap .u8 ((bShr .u64 (IntKind.wrap .u64 ((8 : Int) * (IntKind.wrap .u64 (a0.2 + (IntKind.wrap .u64 (((a1.take (if (63 : Int) < (a1.length : Int) then (63 : Int) else (a1.length : Int)).toNat).length : Int))))))) 16)))) 59 (IntKind.wrap .u8 ((bShr .u64 (IntKind.wrap .u64 ((8 : Int) * (IntKind.wrap .u64 (a0.2 + (IntKind.wrap .u64 (((a1.take (if (63 : Int) < (a1.length : Int) then (63 : Int) else (a1.length : Int)).toNat).length : Int))))))) 24))))) 60 [.imm (.int .u8 (IntKind.wrap .u8 ((bShr .u64 (IntKind.wrap .u64 ((8 : Int) * (IntKind.wrap .u64 (a0.2 + (IntKind.wrap .u64 (((a1.take (if (63 : Int) < (a1.length : Int) then (63 : Int) else (a1.length : Int)).toNat).length : Int))))))) 32))))] = List.map byteT (List.set (List.set (List.set (List.set (List.set x19 56 (IntKind.wrap .u8 ((bShr .u64 (IntKind.wrap .u64 ((8 : Int) * (IntKind.wrap .u64 (a0.2 + (IntKind.wrap .u64 (((a1.take (if (63 : Int) < (a1.length : Int) then (63 : Int) else (a1.length : Int)).toNat).length : Int))))))) 0)))) 57 (IntKind.wrap .u8 ((bShr .u64 (IntKind.wrap .u64 ((8 : Int) * (IntKind.wrap .u64 (a0.2 + (IntKind.wrap .u64 (((a1.take (if (63 : Int) < (a1.length : Int) then (63 : Int) else (a1.length : Int)).toNat).length : Int))))))) 8)))) 58 (IntKind.wrap .u8 ((bShr .u64 (IntKind.wrap .u64 ((8 : Int) * (IntKind.wrap .u64 (a0.2 + (IntKind.wrap .u64 (((a1.take (if (63 : Int) < (a1.length : Int) then (63 : Int) else (a1.length : Int)).toNat).length : Int))))))) 16)))) 59 (IntKind.wrap .u8 ((bShr .u64 (IntKind.wrap .u64 ((8 : Int) * (IntKind.wrap .u64 (a0.2 + (IntKind.wrap .u64 (((a1.take (if (63 : Int) < (a1.length : Int) then (63 : Int) else (a1.length : Int)).toNat).length : Int))))))) 24)))) 60 (IntKind.wrap .u8 ((bShr .u64 (IntKind.wrap .u64 ((8 : Int) * (IntKind.wrap .u64 (a0.2 + (IntKind.wrap .u64 (((a1.take (if (63 : Int) < (a1.length : Int) then (63 : Int) else (a1.length : Int)).toNat).length : Int))))))) 32)))) := patch_map byteT (l := (List.set (List.set (List.set (List.set x19 56 (IntKind.wrap .u8 ((bShr .u64 (IntKind.wrap .u64 ((8 : Int) * (IntKind.wrap .u64 (a0.2 + (IntKind.wrap .u64 (((a1.take (if (63 : Int) < (a1.length : Int) then (63 : Int) else (a1.length : Int)).toNat).length : Int))))))) 0)))) 57 (IntKind.wrap .u8 ((bShr .u64 (IntKind.wrap .u64 ((8 : Int) * (IntKind.wrap .u64 (a0.2 + (IntKind.wrap .u64 (((a1.take (if (63 : Int) < (a1.length : Int) then (63 : Int) else (a1.length : Int)).toNat).length : Int))))))) 8)))) 58 (IntKind.wrap .u8 ((bShr .u64 (IntKind.wrap .u64 ((8 : Int) * (IntKind.wrap .u64 (a0.2 + (IntKind.wrap .u64 (((a1.take (if (63 : Int) < (a1.length : Int) then (63 : Int) else (a1.length : Int)).toNat).length : Int))))))) 16)))) 59 (IntKind.wrap .u8 ((bShr .u64 (IntKind.wrap .u64 ((8 : Int) * (IntKind.wrap .u64 (a0.2 + (IntKind.wrap .u64 (((a1.take (if (63 : Int) < (a1.length : Int) then (63 : Int) else (a1.length : Int)).toNat).length : Int))))))) 24))))) (i := 60) (v := (IntKind.wrap .u8 ((bShr .u64 (IntKind.wrap .u64 ((8 : Int) * (IntKind.wrap .u64 (a0.2 + (IntKind.wrap .u64 (((a1.take (if (63 : Int) < (a1.length : Int) then (63 : Int) else (a1.length : Int)).toNat).length : Int))))))) 32)))) (by first | assumption | omega | (simp only [List.length_set] at *; omega))
      try simp -implicitDefEqProofs (maxSteps := 4000000) (disch := first | omega | decide | (simp only [go_sem]; omega)) only [go_sem, ↓reduceIte, e29]
      repeat (with_reducible refine And.intro (by first | assumption | omega | (simp; done) | (simp; omega)) ?_)
      refine toEnd hC ?_
      refine endX_blk ?_
      refine endX_seq ?_
      refine runX_regionC fun C hC => ?_
      try simp -implicitDefEqProofs (maxSteps := 4000000) (disch := first | omega | decide | (simp only [go_sem]; omega)) only [go_sem, ↓reduceIte]
      repeat (with_reducible refine And.intro (by first | assumption | omega | (simp; done) | (simp; omega)) ?_)
      refine toEnd hC ?_
      refine endX_lp ?_
      refine runX_seq ?_
      refine runX_regionC fun C hC => ?_
      try simp -implicitDefEqProofs (maxSteps := 4000000) (disch := first | omega | decide | (simp only [go_sem]; omega)) only [go_sem, ↓reduceIte]
      repeat (with_reducible refine And.intro (by first | assumption | omega | (simp; done) | (simp; omega)) ?_)
      refine toEnd hC ?_
      refine endX_seq ?_
      refine runX_seq ?_
      refine runX_condT rfl rfl ?_
      refine runX_skip ?_
      refine endX_seq ?_
      refine runX_seq ?_
      refine runX_block ?_
      refine runX_seq ?_
      refine runX_regionC fun C hC => ?_
      try simp -implicitDefEqProofs (maxSteps := 4000000) (disch := first | omega | decide | (simp only [go_sem]; omega)) only [go_sem, ↓reduceIte]
      repeat (with_reducible refine And.intro (by first | assumption | omega | (simp; done) | (simp; omega)) ?_)
      refine toEnd hC ?_
      refine endX_seq ?_
      refine runX_regionC fun C hC => ?_
      obtain ⟨g30, h⟩ := grd_some h
      have e31 : patchT (List.map byteT (List.set (List.set (List.set (List.set (List.set x19 56 (IntKind.wrap .u8 ((bShr .u64 (IntKind.wrap .u64 ((8 : Int) * (IntKind.wrap .u64 (a0.2 + (IntKind.wrap .u64 (((a1.take (if (63 : Int) < (a1.length : Int) then (63 : Int) else (a1.length : Int)).toNat).length : Int))))))) 0)))) 57 (IntKind.wrap .u8 ((bShr .u64 (IntKind.wrap .u64 ((8 : Int) * (IntKind.wrap .u64 (a0.2 + (IntKind.wrap .u64 (((a1.take (if (63 : Int) < (a1.length : Int) then (63 : Int) else (a1.length : Int)).toNat).length : Int))))))) 8)))) 58 (IntKind.wrap .u8 ((bShr .u64 (IntKind.wrap .u64 ((8 : Int) * (IntKind.wrap .u64 (a0.2 + (IntKind.wrap .u64 (((a1.take (if (63 : Int) < (a1.length : Int) then (63 : Int) else (a1.length : Int)).toNat).length : Int))))))) 16)))) 59 (IntKind.wrap .u8 ((bShr .u64 (IntKind.wrap .u64 ((8 : Int) * (IntKind.wrap .u64 (a0.2 + (IntKind.wrap .u64 (((a1.take (if (63 : Int) < (a1.length : Int) then (63 : Int) else (a1.length : Int)).toNat).length : Int))))))) 24)))) 60 (IntKind.wrap .u8 ((bShr .u64 (IntKind.wrap .u64 ((8 : Int) * (IntKind.wrap .u64 (a0.2 + (IntKind.wrap .u64 (((a1.take (if (63 : Int) < (a1.length : Int) then (63 : Int) else (a1.length : Int)).toNat).length : Int))))))) 32))))) 61 [.imm (.int .u8 (IntKind.wrap .u8 ((bShr .u64 (IntKind.wrap .u64 ((8 : Int) * (IntKind.wrap .u64 (a0.2 + (IntKind.wrap .u64 (((a1.take (if (63 : Int) < (a1.length : Int) then (63 : Int) else (a1.length : Int)).toNat).length : Int))))))) 40))))] = List.map byteT (List.set (List.set (List.set (List.set (List.set (List.set x19 56 (IntKind.wrap .u8 ((bShr .u64 (IntKind.wrap .u64 ((8 : Int) * (IntKind.wrap .u64 (a0.2 + (IntKind.wrap .u64 (((a1.take (if (63 : Int) < (a1.length : Int) then (63 : Int) else (a1.length : Int)).toNat).length : Int))))))) 0)))) 57 (IntKind.wrap .u8 ((bShr .u64 (IntKind.wrap .u64 ((8 : Int) * (IntKind.wrap .u64 (a0.2 + (IntKind.wrap .u64 (((a1.take (if (63 : Int) < (a1.length : Int) then (63 : Int) else (a1.length : Int)).toNat).length : Int))))))) 8)))) 58 (IntKind.wrap .u8 ((bShr .u64 (IntKind.wrap .u64 ((8 : Int) * (IntKind.wrap .u64 (a0.2 + (IntKind.wrap .u64 (((a1.take (if (63 : Int) < (a1.length : Int) then (63 : Int) else (a1.length : Int)).toNat).length : Int))))))) 16)))) 59 (IntKind.wrap .u8 ((bShr .u64 (IntKind.wrap .u64 ((8 : Int) * (IntKind.wrap .u64 (a0.2 + (IntKind.wrap .u64 (((a1.take (if (63 : Int) < (a1.length : Int) then (63 : Int) else (a1.length : Int)).toNat).length : Int))))))) 24)))) 60 (IntKind.wrap .u8 ((bShr .u64 (IntKind.wrap .u64 ((8 : Int) * (IntKind.wrap .u64 (a0.2 + (IntKind.wrap .u64 (((a1.take (if (63 : Int) < (a1.length : Int) then (63 : Int) else (a1.length : Int)).toNat).length : Int))))))) 32)))) 61 (IntKind.wrap .u8 ((bShr .u64 (IntKind.wrap .u64 ((8 : Int) * (IntKind.wrap .u64 (a0.2 + (IntKind.wrap .u64 (((a1.take (if (63 : Int) < (a1.length : Int) then (63 : Int) else (a1.length : Int)).toNat).length : Int))))))) 40)))) := patch_map byteT (l := (List.set (List.set (List.set (List.set (List.set x19 56 (IntKind.wrap .u8 ((bShr .u64 (IntKind.wrap .u64 ((8 : Int) * (IntKind.wrap .u64 (a0.2 + (IntKind.wrap .u64 (((a1.take (if (63 : Int) < (a1.length : Int) then (63 : Int) else (a1.length : Int)).toNat).length : Int))))))) 0)))) 57 (IntKind.wrap .u8 ((bShr .u64 (IntKind.wrap .u64 ((8 : Int) * (IntKind.wrap .u64 (a0.2 + (IntKind.wrap .u64 (((a1.take (if (63 : Int) < (a1.length : Int) then (63 : Int) else (a1.length : Int)).toNat).length : Int))))))) 8)))) 58 (IntKind.wrap .u8 ((bShr .u64 (IntKind.wrap .u64 ((8 : Int) * (IntKind.wrap .u64 (a0.2 + (IntKind.wrap .u64 (((a1.take (if (63 : Int) < (a1.length : Int) then (63 : Int) else (a1.length : Int)).toNat).length : Int))))))) 16)))) 59 (IntKind.wrap .u8 ((bShr .u64 (IntKind.wrap .u64 ((8 : Int) * (IntKind.wrap .u64 (a0.2 + (IntKind.wrap .u64 (((a1.take (if (63 : Int) < (a1.length : Int) then (63 : Int) else (a1.length : Int)).toNat).length : Int))))))) 24)))) 60 (IntKind.wrap .u8 ((bShr .u64 (IntKind.wrap .u64 ((8 : Int) * (IntKind.wrap .u64 (a0.2 + (IntKind.wrap .u64 (((a1.take (if (63 : Int) < (a1.length : Int) then (63 : Int) else (a1.length : Int)).toNat).length : Int))))))) 32))))) (i := 61) (v := (IntKind.wrap .u8 ((bShr .u64 (IntKind.wrap .u64 ((8 : Int) * (IntKind.wrap .u64 (a0.2 + (IntKind.wrap .u64 (((a1.take (if (63 : Int) < (a1.length : Int) then (63 : Int) else (a1.length : Int)).toNat).length : Int))))))) 40)))) (by first | assumption | omega | (simp only [List.length_set] at *; omega))
      try simp -implicitDefEqProofs (maxSteps := 4000000) (disch := first | omega | decide | (simp only [go_sem]; omega)) only [go_sem, ↓reduceIte, e31]
      repeat (with_reducible refine And.intro (by first | assumption | omega | (simp; done) | (simp; omega)) ?_)
      refine toEnd hC ?_
      refine endX_blk ?_
      refine endX_seq ?_
      refine runX_regionC fun C hC => ?_
      try simp -implicitDefEqProofs (maxSteps := 4000000) (disch := first | omega | decide | (simp only [go_sem]; omega)) only [go_sem, ↓reduceIte]
      repeat (with_reducible refine And.intro (by first | assumption | omega | (simp; done) | (simp; omega)) ?_)
      refine toEnd hC ?_
      refine endX_lp ?_
      refine runX_seq ?_
      refine runX_regionC fun C hC => ?_
      try simp -implicitDefEqProofs (maxSteps := 4000000) (disch := first | omega | decide | (simp only [go_sem]; omega)) only [go_sem, ↓reduceIte]
      repeat (with_reducible refine And.intro (by first | assumption | omega | (simp; done) | (simp; omega)) ?_)
      refine toEnd hC ?_
      refine endX_seq ?_
      refine runX_seq ?_
      refine runX_condT rfl rfl ?_
      refine runX_skip ?_
      refine endX_seq ?_
      refine runX_seq ?_
      refine runX_block ?_
      refine runX_seq ?_
      refine runX_regionC fun C hC => ?_
      try simp -implicitDefEqProofs (maxSteps := 4000000) (disch := first | omega | decide | (simp only [go_sem]; omega)) only [go_sem, ↓reduceIte]
      repeat (with_reducible refine And.intro (by first | assumption | omega | (simp; done) | (simp; omega)) ?_)
      refine toEnd hC ?_
      refine endX_seq ?_
      refine runX_regionC fun C hC => ?_
      obtain ⟨g32, h⟩ := grd_some h
      have e33 : patchT (List.map byteT (List.set (List.set (List.set (List.set (List.set (List.set x19 56 (IntKind.wrap .u8 ((bShr .u64 (IntKind.wrap .u64 ((8 : Int) * (IntKind.wrap .u64 (a0.2 + (IntKind.wrap .u64 (((a1.take (if (63 : Int) < (a1.length : Int) then (63 : Int) else (a1.length : Int)).toNat).length : Int))))))) 0)))) 57 (IntKind.wrap .u8 ((bShr .u64 (IntKind.wrap .u64 ((8 : Int) * (IntKind.wrap .u64 (a0.2 + (IntKind.wrap .u64 (((a1.take (if (63 : Int) < (a1.length : Int) then (63 : Int) else (a1.length : Int)).toNat).length : Int))))))) 8)))) 58 (IntKind.wrap .u8 ((bShr .u64 (IntKind.wrap .u64 ((8 : Int) * (IntKind.wrap .u64 (a0.2 + (IntKind.wrap .u64 (((a1.take (if (63 : Int) < (a1.length : Int) then (63 : Int) else (a1.length : Int)).toNat).length : Int))))))) 16)))) 59 (IntKind.wrap .u8 ((bShr .u64 (IntKind.wrap .u64 ((8 : Int) * (IntKind.wrap .u64 (a0.2 + (IntKind.wrap .u64 (((a1.take (if (63 : Int) < (a1.length : Int) then (63 : Int) else (a1.length : Int)).toNat).length : Int))))))) 24)))) 60 (IntKind.wrap .u8 ((bShr .u64 (IntKind.wrap .u64 ((8 : Int) * (IntKind.wrap .u64 (a0.2 + (IntKind.wrap .u64 (((a1.take (if (63 : Int) < (a1.length : Int) then (63 : Int) else (a1.length : Int)).toNat).length : Int))))))) 32)))) 61 (IntKind.wrap .u8 ((bShr .u64 (IntKind.wrap .u64 ((8 : Int) * (IntKind.wrap .u64 (a0.2 + (IntKind.wrap .u64 (((a1.take (if (63 : Int) < (a1.length : Int) then (63 : Int) else (a1.length : Int)).toNat).length : Int))))))) 40))))) 62 [.imm (.int .u8 (IntKind.wrap .u8 ((bShr .u64 (IntKind.wrap .u64 ((8 : Int) * (IntKind.wrap .u64 (a0.2 + (IntKind.wrap .u64 (((a1.take (if (63 : Int) < (a1.length : Int) then (63 : Int) else (a1.length : Int)).toNat).length : Int))))))) 48))))] = List.map byteT (List.set (List.set (List.set (List.set (List.set (List.set (List.set x19 56 (IntKind.wrap .u8 ((bShr .u64 (IntKind.wrap .u64 ((8 : Int) * (IntKind.wrap .u64 (a0.2 + (IntKind.wrap .u64 (((a1.take (if (63 : Int) < (a1.length : Int) then (63 : Int) else (a1.length : Int)).toNat).length : Int))))))) 0)))) 57 (IntKind.wrap .u8 ((bShr .u64 (IntKind.wrap .u64 ((8 : Int) * (IntKind.wrap .u64 (a0.2 + (IntKind.wrap .u64 (((a1.take (if (63 : Int) < (a1.length : Int) then (63 : Int) else (a1.length : Int)).toNat).length : Int))))))) 8)))) 58 (IntKind.wrap .u8 ((bShr .u64 (IntKind.wrap .u64 ((8 : Int) * (IntKind.wrap .u64 (a0.2 + (IntKind.wrap .u64 (((a1.take (if (63 : Int) < (a1.length : Int) then (63 : Int) else (a1.length : Int)).toNat).length : Int))))))) 16)))) 59 (IntKind.wrap .u8 ((bShr .u64 (IntKind.wrap .u64 ((8 : Int) * (IntKind.wrap .u64 (a0.2 + (IntKind.wrap .u64 (((a1.take (if (63 : Int) < (a1.length : Int) then (63 : Int) else (a1.length : Int)).toNat).length : Int))))))) 24)))) 60 (IntKind.wrap .u8 ((bShr .u64 (IntKind.wrap .u64 ((8 : Int) * (IntKind.wrap .u64 (a0.2 + (IntKind.wrap .u64 (((a1.take (if (63 : Int) < (a1.length : Int) then (63 : Int) else (a1.length : Int)).toNat).length : Int))))))) 32)))) 61 (IntKind.wrap .u8 ((bShr .u64 (IntKind.wrap .u64 ((8 : Int) * (IntKind.wrap .u64 (a0.2 + (IntKind.wrap .u64 (((a1.take (if (63 : Int) < (a1.length : Int) then (63 : Int) else (a1.length : Int)).toNat).length : Int))))))) 40)))) 62 (IntKind.wrap .u8 ((bShr .u64 (IntKind.wrap .u64 ((8 : Int) * (IntKind.wrap .u64 (a0.2 + (IntKind.wrap .u64 (((a1.take (if (63 : Int) < (a1.length : Int) then (63 : Int) else (a1.length : Int)).toNat).length : Int))))))) 48)))) := patch_map byteT (l := (List.set (List.set (List.set (List.set (List.set (List.set x19 56 (IntKind.wrap .u8 ((bShr .u64 (IntKind.wrap .u64 ((8 : Int) * (IntKind.wrap .u64 (a0.2 + (IntKind.wrap .u64 (((a1.take (if (63 : Int) < (a1.length : Int) then (63 : Int) else (a1.length : Int)).toNat).length : Int))))))) 0)))) 57 (IntKind.wrap .u8 ((bShr .u64 (IntKind.wrap .u64 ((8 : Int) * (IntKind.wrap .u64 (a0.2 + (IntKind.wrap .u64 (((a1.take (if (63 : Int) < (a1.length : Int) then (63 : Int) else (a1.length : Int)).toNat).length : Int))))))) 8)))) 58 (IntKind.wrap .u8 ((bShr .u64 (IntKind.wrap .u64 ((8 : Int) * (IntKind.wrap .u64 (a0.2 + (IntKind.wrap .u64 (((a1.take (if (63 : Int) < (a1.length : Int) then (63 : Int) else (a1.length : Int)).toNat).length : Int))))))) 16)))) 59 (IntKind.wrap .u8 ((bShr .u64 (IntKind.wrap .u64 ((8 : Int) * (IntKind.wrap .u64 (a0.2 + (IntKind.wrap .u64 (((a1.take (if (63 : Int) < (a1.length : Int) then (63 : Int) else (a1.length : Int)).toNat).length : Int))))))) 24)))) 60 (IntKind.wrap .u8 ((bShr .u64 (IntKind.wrap .u64 ((8 : Int) * (IntKind.wrap .u64 (a0.2 + (IntKind.wrap .u64 (((a1.take (if (63 : Int) < (a1.length : Int) then (63 : Int) else (a1.length : Int)).toNat).length : Int))))))) 32)))) 61 (IntKind.wrap .u8 ((bShr .u64 (IntKind.wrap .u64 ((8 : Int) * (IntKind.wrap .u64 (a0.2 + (IntKind.wrap .u64 (((a1.take (if (63 : Int) < (a1.length : Int) then (63 : Int) else (a1.length : Int)).toNat).length : Int))))))) 40))))) (i := 62) (v := (IntKind.wrap .u8 ((bShr .u64 (IntKind.wrap .u64 ((8 : Int) * (IntKind.wrap .u64 (a0.2 + (IntKind.wrap .u64 (((a1.take (if (63 : Int) < (a1.length : Int) then (63 : Int) else (a1.length : Int)).toNat).length : Int))))))) 48)))) (by first | assumption | omega | (simp only [List.length_set] at *; omega))
      try simp -implicitDefEqProofs (maxSteps := 4000000) (disch := first | omega | decide | (simp only [go_sem]; omega)) only [go_sem, ↓reduceIte, e33]
      repeat (with_reducible refine And.intro (by first | assumption | omega | (simp; done) | (simp; omega)) ?_)
      refine toEnd hC ?_
      refine endX_blk ?_
      refine endX_seq ?_
      refine runX_regionC fun C hC => ?_
      try simp -implicitDefEqProofs (maxSteps := 4000000) (disch := first | omega | decide | (simp only [go_sem]; omega)) only [go_sem, ↓reduceIte]
      repeat (with_reducible refine And.intro (by first | assumption | omega | (simp; done) | (simp; omega)) ?_)
      refine toEnd hC ?_
      refine endX_lp ?_
      refine runX_seq ?_
      refine runX_regionC fun C hC => ?_
      try simp -implicitDefEqProofs (maxSteps := 4000000) (disch := first | omega | decide | (simp only [go_sem]; omega)) only [go_sem, ↓reduceIte]
      repeat (with_reducible refine And.intro (by first | assumption | omega | (simp; done) | (simp; omega)) ?_)
      refine toEnd hC ?_
      refine endX_seq ?_
      refine runX_seq ?_
      refine runX_condT rfl rfl ?_
      refine runX_skip ?_
      refine endX_seq ?_
      refine runX_seq ?_
      refine runX_block ?_
      refine runX_seq ?_
      refine runX_regionC fun C hC => ?_
      try simp -implicitDefEqProofs (maxSteps := 4000000) (disch := first | omega | decide | (simp only [go_sem]; omega)) only [go_sem, ↓reduceIte]
      repeat (with_reducible refine And.intro (by first | assumption | omega | (simp; done) | (simp; omega)) ?_)
      refine toEnd hC ?_
      refine endX_seq ?_
      refine runX_regionC fun C hC => ?_
      obtain ⟨g34, h⟩ := grd_some h
      have e35 : patchT (List.map byteT (List.set (List.set (List.set (List.set (List.set (List.set (List.set x19 56 (IntKind.wrap .u8 ((bShr .u64 (IntKind.wrap .u64 ((8 : Int) * (IntKind.wrap .u64 (a0.2 + (IntKind.wrap .u64 (((a1.take (if (63 : Int) < (a1.length : Int) then (63 : Int) else (a1.length : Int)).toNat).length : Int))))))) 0)))) 57 (IntKind.wrap .u8 ((bShr .u64 (IntKind.wrap .u64 ((8 : Int) * (IntKind.wrap .u64 (a0.2 + (IntKind.wrap .u64 (((a1.take (if (63 : Int) < (a1.length : Int) then (63 : Int) else (a1.length : Int)).toNat).length : Int))))))) 8)))) 58 (IntKind.wrap .u8 ((bShr .u64 (IntKind.wrap .u64 ((8 : Int) * (IntKind.wrap .u64 (a0.2 + (IntKind.wrap .u64 (((a1.take (if (63 : Int) < (a1.length : Int) then (63 : Int) else (a1.length : Int)).toNat).length : Int))))))) 16)))) 59 (IntKind.wrap .u8 ((bShr .u64 (IntKind.wrap .u64 ((8 : Int) * (IntKind.wrap .u64 (a0.2 + (IntKind.wrap .u64 (((a1.take (if (63 : Int) < (a1.length : Int) then (63 : Int) else (a1.length : Int)).toNat).length : Int))))))) 24)))) 60 (IntKind.wrap .u8 ((bShr .u64 (IntKind.wrap .u64 ((8 : Int) * (IntKind.wrap .u64 (a0.2 + (IntKind.wrap .u64 (((a1.take (if (63 : Int) < (a1.length : Int) then (63 : Int) else (a1.length : Int)).toNat).length : Int))))))) 32)))) 61 (IntKind.wrap .u8 ((bShr .u64 (IntKind.wrap .u64 ((8 : Int) * (IntKind.wrap .u64 (a0.2 + (IntKind.wrap .u64 (((a1.take (if (63 : Int) < (a1.length : Int) then (63 : Int) else (a1.length : Int)).toNat).length : Int))))))) 40)))) 62 (IntKind.wrap .u8 ((bShr .u64 (IntKind.wrap .u64 ((8 : Int) * (IntKind.wrap .u64 (a0.2 + (IntKind.wrap .u64 (((a1.take (if (63 : Int) < (a1.length : Int) then (63 : Int) else (a1.length : Int)).toNat).length : Int))))))) 48))))) 63 [.imm (.int .u8 (IntKind.wrap .u8 ((bShr .u64 (IntKind.wrap .u64 ((8 : Int) * (IntKind.wrap .u64 (a0.2 + (IntKind.wrap .u64 (((a1.take (if (63 : Int) < (a1.length : Int) then (63 : Int) else (a1.length : Int)).toNat).length : Int))))))) 56))))] = List.map byteT (List.set (List.set (List.set (List.set (List.set (List.set (List.set (List.set x19 56 (IntKind.wrap .u8 ((bShr .u64 (IntKind.wrap .u64 ((8 : Int) * (IntKind.wrap .u64 (a0.2 + (IntKind.wrap .u64 (((a1.take (if (63 : Int) < (a1.length : Int) then (63 : Int) else (a1.length : Int)).toNat).length : Int))))))) 0)))) 57 (IntKind.wrap .u8 ((bShr .u64 (IntKind.wrap .u64 ((8 : Int) * (IntKind.wrap .u64 (a0.2 + (IntKind.wrap .u64 (((a1.take (if (63 : Int) < (a1.length : Int) then (63 : Int) else (a1.length : Int)).toNat).length : Int))))))) 8)))) 58 (IntKind.wrap .u8 ((bShr .u64 (IntKind.wrap .u64 ((8 : Int) * (IntKind.wrap .u64 (a0.2 + (IntKind.wrap .u64 (((a1.take (if (63 : Int) < (a1.length : Int) then (63 : Int) else (a1.length : Int)).toNat).length : Int))))))) 16)))) 59 (IntKind.wrap .u8 ((bShr .u64 (IntKind.wrap .u64 ((8 : Int) * (IntKind.wrap .u64 (a0.2 + (IntKind.wrap .u64 (((a1.take (if (63 : Int) < (a1.length : Int) then (63 : Int) else (a1.length : Int)).toNat).length : Int))))))) 24)))) 60 (IntKind.wrap .u8 ((bShr .u64 (IntKind.wrap .u64 ((8 : Int) * (IntKind.wrap .u64 (a0.2 + (IntKind.wrap .u64 (((a1.take (if (63 : Int) < (a1.length : Int) then (63 : Int) else (a1.length : Int)).toNat).length : Int))))))) 32)))) 61 (IntKind.wrap .u8 ((bShr .u64 (IntKind.wrap .u64 ((8 : Int) * (IntKind.wrap .u64 (a0.2 + (IntKind.wrap .u64 (((a1.take (if (63 : Int) < (a1.length : Int) then (63 : Int) else (a1.length : Int)).toNat).length : Int))))))) 40)))) 62 (IntKind.wrap .u8 ((bShr .u64 (IntKind.wrap .u64 ((8 : Int) * (IntKind.wrap .u64 (a0.2 + (IntKind.wrap .u64 (((a1.take (if (63 : Int) < (a1.length : Int) then (63 : Int) else (a1.length : Int)).toNat).length : Int))))))) 48)))) 63 (IntKind.wrap .u8 ((bShr .u64 (IntKind.wrap .u64 ((8 : Int) * (IntKind.wrap .u64 (a0.2 + (IntKind.wrap .u64 (((a1.take (if (63 : Int) < (a1.length : Int) then (63 : Int) else (a1.length : Int)).toNat).length : Int))))))) 56)))) := patch_map byteT (l := (List.set (List.set (List.set (List.set (List.set (List.set (List.set x19 56 (IntKind.wrap .u8 ((bShr .u64 (IntKind.wrap .u64 ((8 : Int) * (IntKind.wrap .u64 (a0.2 + (IntKind.wrap .u64 (((a1.take (if (63 : Int) < (a1.length : Int) then (63 : Int) else (a1.length : Int)).toNat).length : Int))))))) 0)))) 57 (IntKind.wrap .u8 ((bShr .u64 (IntKind.wrap .u64 ((8 : Int) * (IntKind.wrap .u64 (a0.2 + (IntKind.wrap .u64 (((a1.take (if (63 : Int) < (a1.length : Int) then (63 : Int) else (a1.length : Int)).toNat).length : Int))))))) 8)))) 58 (IntKind.wrap .u8 ((bShr .u64 (IntKind.wrap .u64 ((8 : Int) * (IntKind.wrap .u64 (a0.2 + (IntKind.wrap .u64 (((a1.take (if (63 : Int) < (a1.length : Int) then (63 : Int) else (a1.length : Int)).toNat).length : Int))))))) 16)))) 59 (IntKind.wrap .u8 ((bShr .u64 (IntKind.wrap .u64 ((8 : Int) * (IntKind.wrap .u64 (a0.2 + (IntKind.wrap .u64 (((a1.take (if (63 : Int) < (a1.length : Int) then (63 : Int) else (a1.length : Int)).toNat).length : Int))))))) 24)))) 60 (IntKind.wrap .u8 ((bShr .u64 (IntKind.wrap .u64 ((8 : Int) * (IntKind.wrap .u64 (a0.2 + (IntKind.wrap .u64 (((a1.take (if (63 : Int) < (a1.length : Int) then (63 : Int) else (a1.length : Int)).toNat).length : Int))))))) 32)))) 61 (IntKind.wrap .u8 ((bShr .u64 (IntKind.wrap .u64 ((8 : Int) * (IntKind.wrap .u64 (a0.2 + (IntKind.wrap .u64 (((a1.take (if (63 : Int) < (a1.length : Int) then (63 : Int) else (a1.length : Int)).toNat).length : Int))))))) 40)))) 62 (IntKind.wrap .u8 ((bShr .u64 (IntKind.wrap .u64 ((8 : Int) * (IntKind.wrap .u64 (a0.2 + (IntKind.wrap .u64 (((a1.take (if (63 : Int) < (a1.length : Int) then (63 : Int) else (a1.length : Int)).toNat).length : Int))))))) 48))))) (i := 63) (v := (IntKind.wrap .u8 ((bShr .u64 (IntKind.wrap .u64 ((8 : Int) * (IntKind.wrap .u64 (a0.2 + (IntKind.wrap .u64 (((a1.take (if (63 : Int) < (a1.length : Int) then (63 : Int) else (a1.length : Int)).toNat).length : Int))))))) 56)))) (by first | assumption | omega | (simp only [List.length_set] at *; omega))
      try simp -implicitDefEqProofs (maxSteps := 4000000) (disch := first | omega | decide | (simp only [go_sem]; omega)) only [go_sem, ↓reduceIte, e35]
      repeat (with_reducible refine And.intro (by first | assumption | omega | (simp; done) | (simp; omega)) ?_)
      refine toEnd hC ?_
      refine endX_blk ?_
      refine endX_seq ?_
      refine runX_regionC fun C hC => ?_
      try simp -implicitDefEqProofs (maxSteps := 4000000) (disch := first | omega | decide | (simp only [go_sem]; omega)) only [go_sem, ↓reduceIte]
      repeat (with_reducible refine And.intro (by first | assumption | omega | (simp; done) | (simp; omega)) ?_)
      refine toEnd hC ?_
      refine endX_lp ?_
      refine runX_seq ?_
      refine runX_regionC fun C hC => ?_
      try simp -implicitDefEqProofs (maxSteps := 4000000) (disch := first | omega | decide | (simp only [go_sem]; omega)) only [go_sem, ↓reduceIte]
      repeat (with_reducible refine And.intro (by first | assumption | omega | (simp; done) | (simp; omega)) ?_)
      refine toEnd hC ?_
      refine endX_seq ?_
      refine runX_seq ?_
      refine runX_condF rfl rfl ?_
      refine runX_exit ?_
      refine endX_seqE ?_
      refine endX_lpE ?_
      refine endX_blkE ?_
      refine endX_seq ?_
      refine runX_seq ?_
      refine runX_regionC fun C hC => ?_
      obtain ⟨g36, h⟩ := grd_some h
      obtain ⟨v37, h37, h⟩ := bnd_some h
      try simp -implicitDefEqProofs (maxSteps := 4000000) (disch := first | omega | decide | (simp only [go_sem]; omega)) only [go_sem, ↓reduceIte]
      repeat (with_reducible refine And.intro (by first | assumption | omega | (simp; done) | (simp; omega)) ?_)
      refine callG_X (by first | rfl | (simp only [go_sem]; done) | (simp only [closedL, closedT, Bool.and_true]; exact closedL_map _ (fun _ => by first | rfl | (simp only [go_sem]; done)) _)) (F82_ok n ([x14, x15, x16, x17], x18) ((List.set (List.set (List.set (List.set (List.set (List.set (List.set (List.set x19 56 (IntKind.wrap .u8 ((bShr .u64 (IntKind.wrap .u64 ((8 : Int) * (IntKind.wrap .u64 (a0.2 + (IntKind.wrap .u64 (((a1.take (if (63 : Int) < (a1.length : Int) then (63 : Int) else (a1.length : Int)).toNat).length : Int))))))) 0)))) 57 (IntKind.wrap .u8 ((bShr .u64 (IntKind.wrap .u64 ((8 : Int) * (IntKind.wrap .u64 (a0.2 + (IntKind.wrap .u64 (((a1.take (if (63 : Int) < (a1.length : Int) then (63 : Int) else (a1.length : Int)).toNat).length : Int))))))) 8)))) 58 (IntKind.wrap .u8 ((bShr .u64 (IntKind.wrap .u64 ((8 : Int) * (IntKind.wrap .u64 (a0.2 + (IntKind.wrap .u64 (((a1.take (if (63 : Int) < (a1.length : Int) then (63 : Int) else (a1.length : Int)).toNat).length : Int))))))) 16)))) 59 (IntKind.wrap .u8 ((bShr .u64 (IntKind.wrap .u64 ((8 : Int) * (IntKind.wrap .u64 (a0.2 + (IntKind.wrap .u64 (((a1.take (if (63 : Int) < (a1.length : Int) then (63 : Int) else (a1.length : Int)).toNat).length : Int))))))) 24)))) 60 (IntKind.wrap .u8 ((bShr .u64 (IntKind.wrap .u64 ((8 : Int) * (IntKind.wrap .u64 (a0.2 + (IntKind.wrap .u64 (((a1.take (if (63 : Int) < (a1.length : Int) then (63 : Int) else (a1.length : Int)).toNat).length : Int))))))) 32)))) 61 (IntKind.wrap .u8 ((bShr .u64 (IntKind.wrap .u64 ((8 : Int) * (IntKind.wrap .u64 (a0.2 + (IntKind.wrap .u64 (((a1.take (if (63 : Int) < (a1.length : Int) then (63 : Int) else (a1.length : Int)).toNat).length : Int))))))) 40)))) 62 (IntKind.wrap .u8 ((bShr .u64 (IntKind.wrap .u64 ((8 : Int) * (IntKind.wrap .u64 (a0.2 + (IntKind.wrap .u64 (((a1.take (if (63 : Int) < (a1.length : Int) then (63 : Int) else (a1.length : Int)).toNat).length : Int))))))) 48)))) 63 (IntKind.wrap .u8 ((bShr .u64 (IntKind.wrap .u64 ((8 : Int) * (IntKind.wrap .u64 (a0.2 + (IntKind.wrap .u64 (((a1.take (if (63 : Int) < (a1.length : Int) then (63 : Int) else (a1.length : Int)).toNat).length : Int))))))) 56)))).take 64) _ h37) (by repeat (first | exact leL_refl _ | refine leL_cons (by first | exact leT_refl _ | exact leT_virt | exact leT_junk _ | exact leT_sl | exact leT_sln | exact leT_nil | (refine leT_agg (by repeat (first | exact leL_refl _ | refine leL_cons (by first | exact leT_refl _ | exact leT_sl | exact leT_sln | exact leT_nil) ?_)))) ?_)) ?_
      try simp -implicitDefEqProofs (maxSteps := 4000000) (disch := first | omega | decide | (simp only [go_sem]; omega)) only [go_sem, ↓reduceIte]
      repeat (with_reducible refine And.intro (by first | assumption | omega | (simp; done) | (simp; omega)) ?_)
      refine toEnd hC ?_
      refine endX_seq ?_
      refine runX_seq ?_
      refine runX_regionC fun C hC => ?_
      try simp -implicitDefEqProofs (maxSteps := 4000000) (disch := first | omega | decide | (simp only [go_sem]; omega)) only [go_sem, ↓reduceIte]
      repeat (with_reducible refine And.intro (by first | assumption | omega | (simp; done) | (simp; omega)) ?_)
      refine toEnd hC ?_
      refine endX_seq ?_
      refine runX_seq ?_
      refine runX_seq ?_
      refine runX_regionC fun C hC => ?_
      try simp -implicitDefEqProofs (maxSteps := 4000000) (disch := first | omega | decide | (simp only [go_sem]; omega)) only [go_sem, ↓reduceIte]
      repeat (with_reducible refine And.intro (by first | assumption | omega | (simp; done) | (simp; omega)) ?_)
      refine toEnd hC ?_
      refine endX_seq ?_
      refine runX_block ?_
      refine runX_unroll 16 ?_
      refine runX_seq ?_
      refine runX_regionC fun C hC => ?_
      try simp -implicitDefEqProofs (maxSteps := 4000000) (disch := first | omega | decide | (simp only [go_sem]; omega)) only [go_sem, ↓reduceIte]
      repeat (with_reducible refine And.intro (by first | assumption | omega | (simp; done) | (simp; omega)) ?_)
      refine toEnd hC ?_
      refine endX_seq ?_
      refine runX_seq ?_
      refine runX_condT rfl rfl ?_
      refine runX_skip ?_
      refine endX_seq ?_
      refine runX_seq ?_
      refine runX_block ?_
      refine runX_seq ?_
      refine runX_regionC fun C hC => ?_
      try simp -implicitDefEqProofs (maxSteps := 4000000) (disch := first | omega | decide | (simp only [go_sem]; omega)) only [go_sem, ↓reduceIte]
      repeat (with_reducible refine And.intro (by first | assumption | omega | (simp; done) | (simp; omega)) ?_)
      refine toEnd hC ?_
      refine endX_seq ?_
      refine runX_regionC fun C hC => ?_
      try simp -implicitDefEqProofs (maxSteps := 4000000) (disch := first | omega | decide | (simp only [go_sem]; omega)) only [go_sem, ↓reduceIte]
      repeat (with_reducible refine And.intro (by first | assumption | omega | (simp; done) | (simp; omega)) ?_)
      refine toEnd hC ?_
      refine endX_blk ?_
      refine endX_seq ?_
      refine runX_regionC fun C hC => ?_
      try simp -implicitDefEqProofs (maxSteps := 4000000) (disch := first | omega | decide | (simp only [go_sem]; omega)) only [go_sem, ↓reduceIte]
      repeat (with_reducible refine And.intro (by first | assumption | omega | (simp; done) | (simp; omega)) ?_)
      refine toEnd hC ?_
      refine endX_lp ?_
      refine runX_seq ?_
      refine runX_regionC fun C hC => ?_
      try simp -implicitDefEqProofs (maxSteps := 4000000) (disch := first | omega | decide | (simp only [go_sem]; omega)) only [go_sem, ↓reduceIte]
      repeat (with_reducible refine And.intro (by first | assumption | omega | (simp; done) | (simp; omega)) ?_)
      refine toEnd hC ?_
      refine endX_seq ?_
      refine runX_seq ?_
      refine runX_condT rfl rfl ?_
      refine runX_skip ?_
      refine endX_seq ?_
      refine runX_seq ?_
      refine runX_block ?_
      refine runX_seq ?_
      refine runX_regionC fun C hC => ?_
      try simp -implicitDefEqProofs (maxSteps := 4000000) (disch := first | omega | decide | (simp only [go_sem]; omega)) only [go_sem, ↓reduceIte]
      repeat (with_reducible refine And.intro (by first | assumption | omega | (simp; done) | (simp; omega)) ?_)
      refine toEnd hC ?_
      refine endX_seq ?_
      refine runX_regionC fun C hC => ?_
      try simp -implicitDefEqProofs (maxSteps := 4000000) (disch := first | omega | decide | (simp only [go_sem]; omega)) only [go_sem, ↓reduceIte]
      repeat (with_reducible refine And.intro (by first | assumption | omega | (simp; done) | (simp; omega)) ?_)
      refine toEnd hC ?_
      refine endX_blk ?_
      refine endX_seq ?_
      refine runX_regionC fun C hC => ?_
      try simp -implicitDefEqProofs (maxSteps := 4000000) (disch := first | omega | decide | (simp only [go_sem]; omega)) only [go_sem, ↓reduceIte]
      repeat (with_reducible refine And.intro (by first | assumption | omega | (simp; done) | (simp; omega)) ?_)
      refine toEnd hC ?_
      refine endX_lp ?_
      refine runX_seq ?_
      refine runX_regionC fun C hC => ?_
      try simp -implicitDefEqProofs (maxSteps := 4000000) (disch := first | omega | decide | (simp only [go_sem]; omega)) only [go_sem, ↓reduceIte]
      repeat (with_reducible refine And.intro (by first | assumption | omega | (simp; done) | (simp; omega)) ?_)
      refine toEnd hC ?_
      refine endX_seq ?_
      refine runX_seq ?_
      refine runX_condT rfl rfl ?_
      refine runX_skip ?_
      refine endX_seq ?_
      refine runX_seq ?_
      refine runX_block ?_
      refine runX_seq ?_
      refine runX_regionC fun C hC => ?_
      try simp -implicitDefEqProofs (maxSteps := 4000000) (disch := first | omega | decide | (simp only [go_sem]; omega)) only [go_sem, ↓reduceIte]
      repeat (with_reducible refine And.intro (by first | assumption | omega | (simp; done) | (simp; omega)) ?_)
      refine toEnd hC ?_
      refine endX_seq ?_
      refine runX_regionC fun C hC => ?_
      try simp -implicitDefEqProofs (maxSteps := 4000000) (disch := first | omega | decide | (simp only [go_sem]; omega)) only [go_sem, ↓reduceIte]
      repeat (with_reducible refine And.intro (by first | assumption | omega | (simp; done) | (simp; omega)) ?_)
      refine toEnd hC ?_
      refine endX_blk ?_
      refine endX_seq ?_
      refine runX_regionC fun C hC => ?_
      try simp -implicitDefEqProofs (maxSteps := 4000000) (disch := first | omega | decide | (simp only [go_sem]; omega)) only [go_sem, ↓reduceIte]
      repeat (with_reducible refine And.intro (by first | assumption | omega | (simp; done) | (simp; omega)) ?_)
      refine toEnd hC ?_
      refine endX_lp ?_
      refine runX_seq ?_
      refine runX_regionC fun C hC => ?_
      try simp -implicitDefEqProofs (maxSteps := 4000000) (disch := first | omega | decide | (simp only [go_sem]; omega)) only [go_sem, ↓reduceIte]
      repeat (with_reducible refine And.intro (by first | assumption | omega | (simp; done) | (simp; omega)) ?_)
      refine toEnd hC ?_
      refine endX_seq ?_
      refine runX_seq ?_
      refine runX_condT rfl rfl ?_
      refine runX_skip ?_
      refine endX_seq ?_
      refine runX_seq ?_
      refine runX_block ?_
      refine runX_seq ?_
      refine runX_regionC fun C hC => ?_
      try simp -implicitDefEqProofs (maxSteps := 4000000) (disch := first | omega | decide | (simp only [go_sem]; omega)) only [go_sem, ↓reduceIte]
      repeat (with_reducible refine And.intro (by first | assumption | omega | (simp; done) | (simp; omega)) ?_)
      refine toEnd hC ?_
      refine endX_seq ?_
      refine runX_regionC fun C hC => ?_
      try simp -implicitDefEqProofs (maxSteps := 4000000) (disch := first | omega | decide | (simp only [go_sem]; omega)) only [go_sem, ↓reduceIte]
      repeat (with_reducible refine And.intro (by first | assumption | omega | (simp; done) | (simp; omega)) ?_)
      refine toEnd hC ?_
      refine endX_blk ?_
      refine endX_seq ?_
      refine runX_regionC fun C hC => ?_
      try simp -implicitDefEqProofs (maxSteps := 4000000) (disch := first | omega | decide | (simp only [go_sem]; omega)) only [go_sem, ↓reduceIte]
      repeat (with_reducible refine And.intro (by first | assumption | omega | (simp; done) | (simp; omega)) ?_)
      refine toEnd hC ?_
      refine endX_lp ?_
      refine runX_seq ?_
      refine runX_regionC fun C hC => ?_
      try simp -implicitDefEqProofs (maxSteps := 4000000) (disch := first | omega | decide | (simp only [go_sem]; omega)) only [go_sem, ↓reduceIte]
      repeat (with_reducible refine And.intro (by first | assumption | omega | (simp; done) | (simp; omega)) ?_)
      refine toEnd hC ?_
      refine endX_seq ?_
      refine runX_seq ?_
      refine runX_condT rfl rfl ?_
      refine runX_skip ?_
      refine endX_seq ?_
      refine runX_seq ?_
      refine runX_block ?_
      refine runX_seq ?_
      refine runX_regionC fun C hC => ?_
      try simp -implicitDefEqProofs (maxSteps := 4000000) (disch := first | omega | decide | (simp only [go_sem]; omega)) only [go_sem, ↓reduceIte]
      repeat (with_reducible refine And.intro (by first | assumption | omega | (simp; done) | (simp; omega)) ?_)
      refine toEnd hC ?_
      refine endX_seq ?_
      refine runX_regionC fun C hC => ?_
      try simp -implicitDefEqProofs (maxSteps := 4000000) (disch := first | omega | decide | (simp only [go_sem]; omega)) only [go_sem, ↓reduceIte]
      repeat (with_reducible refine And.intro (by first | assumption | omega | (simp; done) | (simp; omega)) ?_)
      refine toEnd hC ?_
      refine endX_blk ?_
      refine endX_seq ?_
      refine runX_regionC fun C hC => ?_
      try simp -implicitDefEqProofs (maxSteps := 4000000) (disch := first | omega | decide | (simp only [go_sem]; omega)) only [go_sem, ↓reduceIte]
      repeat (with_reducible refine And.intro (by first | assumption | omega | (simp; done) | (simp; omega)) ?_)
      refine toEnd hC ?_
      refine endX_lp ?_
      refine runX_seq ?_
      refine runX_regionC fun C hC => ?_
      try simp -implicitDefEqProofs (maxSteps := 4000000) (disch := first | omega | decide | (simp only [go_sem]; omega)) only [go_sem, ↓reduceIte]
      repeat (with_reducible refine And.intro (by first | assumption | omega | (simp; done) | (simp; omega)) ?_)
      refine toEnd hC ?_
      refine endX_seq ?_
      refine runX_seq ?_
      refine runX_condT rfl rfl ?_
      refine runX_skip ?_
      refine endX_seq ?_
      refine runX_seq ?_
      refine runX_block ?_
      refine runX_seq ?_
      refine runX_regionC fun C hC => ?_
      try simp -implicitDefEqProofs (maxSteps := 4000000) (disch := first | omega | decide | (simp only [go_sem]; omega)) only [go_sem, ↓reduceIte]
      repeat (with_reducible refine And.intro (by first | assumption | omega | (simp; done) | (simp; omega)) ?_)
      refine toEnd hC ?_
      refine endX_seq ?_
      refine runX_regionC fun C hC => ?_
      try simp -implicitDefEqProofs (maxSteps := 4000000) (disch := first | omega | decide | (simp only [go_sem]; omega)) only [go_sem, ↓reduceIte]
      repeat (with_reducible refine And.intro (by first | assumption | omega | (simp; done) | (simp; omega)) ?_)
      refine toEnd hC ?_
      refine endX_blk ?_
      refine endX_seq ?_
      refine runX_regionC fun C hC => ?_
      try simp -implicitDefEqProofs (maxSteps := 4000000) (disch := first | omega | decide | (simp only [go_sem]; omega)) only [go_sem, ↓reduceIte]
      repeat (with_reducible refine And.intro (by first | assumption | omega | (simp; done) | (simp; omega)) ?_)
      refine toEnd hC ?_
      refine endX_lp ?_
      refine runX_seq ?_
      refine runX_regionC fun C hC => ?_
      try simp -implicitDefEqProofs (maxSteps := 4000000) (disch := first | omega | decide | (simp only [go_sem]; omega)) only [go_sem, ↓reduceIte]
      repeat (with_reducible refine And.intro (by first | assumption | omega | (simp; done) | (simp; omega)) ?_)
      refine toEnd hC ?_
      refine endX_seq ?_
      refine runX_seq ?_
      refine runX_condT rfl rfl ?_
      refine runX_skip ?_
      refine endX_seq ?_
      refine runX_seq ?_
      refine runX_block ?_
      refine runX_seq ?_
      refine runX_regionC fun C hC => ?_
      try simp -implicitDefEqProofs (maxSteps := 4000000) (disch := first | omega | decide | (simp only [go_sem]; omega)) only [go_sem, ↓reduceIte]
      repeat (with_reducible refine And.intro (by first | assumption | omega | (simp; done) | (simp; omega)) ?_)
      refine toEnd hC ?_
      refine endX_seq ?_
      refine runX_regionC fun C hC => ?_
      try simp -implicitDefEqProofs (maxSteps := 4000000) (disch := first | omega | decide | (simp only [go_sem]; omega)) only [go_sem, ↓reduceIte]
      repeat (with_reducible refine And.intro (by first | assumption | omega | (simp; done) | (simp; omega)) ?_)
      refine toEnd hC ?_
      refine endX_blk ?_
      refine endX_seq ?_
      refine runX_regionC fun C hC => ?_
      try simp -implicitDefEqProofs (maxSteps := 4000000) (disch := first | omega | decide | (simp only [go_sem]; omega)) only [go_sem, ↓reduceIte]
      repeat (with_reducible refine And.intro (by first | assumption | omega | (simp; done) | (simp; omega)) ?_)
      refine toEnd hC ?_
      refine endX_lp ?_
      refine runX_seq ?_
      refine runX_regionC fun C hC => ?_
      try simp -implicitDefEqProofs (maxSteps := 4000000) (disch := first | omega | decide | (simp only [go_sem]; omega)) only [go_sem, ↓reduceIte]
      repeat (with_reducible refine And.intro (by first | assumption | omega | (simp; done) | (simp; omega)) ?_)
      refine toEnd hC ?_
      refine endX_seq ?_
      refine runX_seq ?_
      refine runX_condT rfl rfl ?_
      refine runX_skip ?_
      refine endX_seq ?_
      refine runX_seq ?_
      refine runX_block ?_
      refine runX_seq ?_
      refine runX_regionC fun C hC => ?_
      try simp -implicitDefEqProofs (maxSteps := 4000000) (disch := first | omega | decide | (simp only [go_sem]; omega)) only [go_sem, ↓reduceIte]
      repeat (with_reducible refine And.intro (by first | assumption | omega | (simp; done) | (simp; omega)) ?_)
      refine toEnd hC ?_
      refine endX_seq ?_
      refine runX_regionC fun C hC => ?_
      try simp -implicitDefEqProofs (maxSteps := 4000000) (disch := first | omega | decide | (simp only [go_sem]; omega)) only [go_sem, ↓reduceIte]
      repeat (with_reducible refine And.intro (by first | assumption | omega | (simp; done) | (simp; omega)) ?_)
      refine toEnd hC ?_
      refine endX_blk ?_
      refine endX_seq ?_
      refine runX_regionC fun C hC => ?_
      try simp -implicitDefEqProofs (maxSteps := 4000000) (disch := first | omega | decide | (simp only [go_sem]; omega)) only [go_sem, ↓reduceIte]
      repeat (with_reducible refine And.intro (by first | assumption | omega | (simp; done) | (simp; omega)) ?_)
      refine toEnd hC ?_
      refine endX_lp ?_
      refine runX_seq ?_
      refine runX_regionC fun C hC => ?_
      try simp -implicitDefEqProofs (maxSteps := 4000000) (disch := first | omega | decide | (simp only [go_sem]; omega)) only [go_sem, ↓reduceIte]
      repeat (with_reducible refine And.intro (by first | assumption | omega | (simp; done) | (simp; omega)) ?_)
      refine toEnd hC ?_
      refine endX_seq ?_
      refine runX_seq ?_
      refine runX_condT rfl rfl ?_
      refine runX_skip ?_
      refine endX_seq ?_
      refine runX_seq ?_
      refine runX_block ?_
      refine runX_seq ?_
      refine runX_regionC fun C hC => ?_
      try simp -implicitDefEqProofs (maxSteps := 4000000) (disch := first | omega | decide | (simp only [go_sem]; omega)) only [go_sem, ↓reduceIte]
      repeat (with_reducible refine And.intro (by first | assumption | omega | (simp; done) | (simp; omega)) ?_)
      refine toEnd hC ?_
      refine endX_seq ?_
      refine runX_regionC fun C hC => ?_
      try simp -implicitDefEqProofs (maxSteps := 4000000) (disch := first | omega | decide | (simp only [go_sem]; omega)) only [go_sem, ↓reduceIte]
      repeat (with_reducible refine And.intro (by first | assumption | omega | (simp; done) | (simp; omega)) ?_)
      refine toEnd hC ?_
      refine endX_blk ?_
      refine endX_seq ?_
      refine runX_regionC fun C hC => ?_
      try simp -implicitDefEqProofs (maxSteps := 4000000) (disch := first | omega | decide | (simp only [go_sem]; omega)) only [go_sem, ↓reduceIte]
      repeat (with_reducible refine And.intro (by first | assumption | omega | (simp; done) | (simp; omega)) ?_)
      refine toEnd hC ?_
      refine endX_lp ?_
      refine runX_seq ?_
      refine runX_regionC fun C hC => ?_
      try simp -implicitDefEqProofs (maxSteps := 4000000) (disch := first | omega | decide | (simp only [go_sem]; omega)) only [go_sem, ↓reduceIte]
      repeat (with_reducible refine And.intro (by first | assumption | omega | (simp; done) | (simp; omega)) ?_)
      refine toEnd hC ?_
      refine endX_seq ?_
      refine runX_seq ?_
      refine runX_condT rfl rfl ?_
      refine runX_skip ?_
      refine endX_seq ?_
      refine runX_seq ?_
      refine runX_block ?_
      refine runX_seq ?_
      refine runX_regionC fun C hC => ?_
      try simp -implicitDefEqProofs (maxSteps := 4000000) (disch := first | omega | decide | (simp only [go_sem]; omega)) only [go_sem, ↓reduceIte]
      repeat (with_reducible refine And.intro (by first | assumption | omega | (simp; done) | (simp; omega)) ?_)
      refine toEnd hC ?_
      refine endX_seq ?_
      refine runX_regionC fun C hC => ?_
      try simp -implicitDefEqProofs (maxSteps := 4000000) (disch := first | omega | decide | (simp only [go_sem]; omega)) only [go_sem, ↓reduceIte]
      repeat (with_reducible refine And.intro (by first | assumption | omega | (simp; done) | (simp; omega)) ?_)
      refine toEnd hC ?_
      refine endX_blk ?_
      refine endX_seq ?_
      refine runX_regionC fun C hC => ?_
      try simp -implicitDefEqProofs (maxSteps := 4000000) (disch := first | omega | decide | (simp only [go_sem]; omega)) only [go_sem, ↓reduceIte]
      repeat (with_reducible refine And.intro (by first | assumption | omega | (simp; done) | (simp; omega)) ?_)
      refine toEnd hC ?_
      refine endX_lp ?_
      refine runX_seq ?_
      refine runX_regionC fun C hC => ?_
      try simp -implicitDefEqProofs (maxSteps := 4000000) (disch := first | omega | decide | (simp only [go_sem]; omega)) only [go_sem, ↓reduceIte]
      repeat (with_reducible refine And.intro (by first | assumption | omega | (simp; done) | (simp; omega)) ?_)
      refine toEnd hC ?_
      refine endX_seq ?_
      refine runX_seq ?_
      refine runX_condT rfl rfl ?_
      refine runX_skip ?_
      refine endX_seq ?_
      refine runX_seq ?_
      refine runX_block ?_
      refine runX_seq ?_
      refine runX_regionC fun C hC => ?_
      try simp -implicitDefEqProofs (maxSteps := 4000000) (disch := first | omega | decide | (simp only [go_sem]; omega)) only [go_sem, ↓reduceIte]
      repeat (with_reducible refine And.intro (by first | assumption | omega | (simp; done) | (simp; omega)) ?_)
      refine toEnd hC ?_
      refine endX_seq ?_
      refine runX_regionC fun C hC => ?_
      try simp -implicitDefEqProofs (maxSteps := 4000000) (disch := first | omega | decide | (simp only [go_sem]; omega)) only [go_sem, ↓reduceIte]
      repeat (with_reducible refine And.intro (by first | assumption | omega | (simp; done) | (simp; omega)) ?_)
      refine toEnd hC ?_
      refine endX_blk ?_
      refine endX_seq ?_
      refine runX_regionC fun C hC => ?_
      try simp -implicitDefEqProofs (maxSteps := 4000000) (disch := first | omega | decide | (simp only [go_sem]; omega)) only [go_sem, ↓reduceIte]
      repeat (with_reducible refine And.intro (by first | assumption | omega | (simp; done) | (simp; omega)) ?_)
      refine toEnd hC ?_
      refine endX_lp ?_
      refine runX_seq ?_
      refine runX_regionC fun C hC => ?_
      try simp -implicitDefEqProofs (maxSteps := 4000000) (disch := first | omega | decide | (simp only [go_sem]; omega)) only [go_sem, ↓reduceIte]
      repeat (with_reducible refine And.intro (by first | assumption | omega | (simp; done) | (simp; omega)) ?_)
      refine toEnd hC ?_
      refine endX_seq ?_
      refine runX_seq ?_
      refine runX_condT rfl rfl ?_
      refine runX_skip ?_
      refine endX_seq ?_
      refine runX_seq ?_
      refine runX_block ?_
      refine runX_seq ?_
      refine runX_regionC fun C hC => ?_
      try simp -implicitDefEqProofs (maxSteps := 4000000) (disch := first | omega | decide | (simp only [go_sem]; omega)) only [go_sem, ↓reduceIte]
      repeat (with_reducible refine And.intro (by first | assumption | omega | (simp; done) | (simp; omega)) ?_)
      refine toEnd hC ?_
      refine endX_seq ?_
      refine runX_regionC fun C hC => ?_
      try simp -implicitDefEqProofs (maxSteps := 4000000) (disch := first | omega | decide | (simp only [go_sem]; omega)) only [go_sem, ↓reduceIte]
      repeat (with_reducible refine And.intro (by first | assumption | omega | (simp; done) | (simp; omega)) ?_)
      refine toEnd hC ?_
      refine endX_blk ?_
      refine endX_seq ?_
      refine runX_regionC fun C hC => ?_
      try simp -implicitDefEqProofs (maxSteps := 4000000) (disch := first | omega | decide | (simp only [go_sem]; omega)) only [go_sem, ↓reduceIte]
      repeat (with_reducible refine And.intro (by first | assumption | omega | (simp; done) | (simp; omega)) ?_)
      refine toEnd hC ?_
      refine endX_lp ?_
      refine runX_seq ?_
      refine runX_regionC fun C hC => ?_
      try simp -implicitDefEqProofs (maxSteps := 4000000) (disch := first | omega | decide | (simp only [go_sem]; omega)) only [go_sem, ↓reduceIte]
      repeat (with_reducible refine And.intro (by first | assumption | omega | (simp; done) | (simp; omega)) ?_)
      refine toEnd hC ?_
      refine endX_seq ?_
      refine runX_seq ?_
      refine runX_condT rfl rfl ?_
      refine runX_skip ?_
      refine endX_seq ?_
      refine runX_seq ?_
      refine runX_block ?_
      refine runX_seq ?_
      refine runX_regionC fun C hC => ?_
      try simp -implicitDefEqProofs (maxSteps := 4000000) (disch := first | omega | decide | (simp only [go_sem]; omega)) only [go_sem, ↓reduceIte]
      repeat (with_reducible refine And.intro (by first | assumption | omega | (simp; done) | (simp; omega)) ?_)
      refine toEnd hC ?_
      refine endX_seq ?_
      refine runX_regionC fun C hC => ?_
      try simp -implicitDefEqProofs (maxSteps := 4000000) (disch := first | omega | decide | (simp only [go_sem]; omega)) only [go_sem, ↓reduceIte]
      repeat (with_reducible refine And.intro (by first | assumption | omega | (simp; done) | (simp; omega)) ?_)
      refine toEnd hC ?_
      refine endX_blk ?_
      refine endX_seq ?_
      refine runX_regionC fun C hC => ?_
      try simp -implicitDefEqProofs (maxSteps := 4000000) (disch := first | omega | decide | (simp only [go_sem]; omega)) only [go_sem, ↓reduceIte]
      repeat (with_reducible refine And.intro (by first | assumption | omega | (simp; done) | (simp; omega)) ?_)
      refine toEnd hC ?_
      refine endX_lp ?_
      refine runX_seq ?_
      refine runX_regionC fun C hC => ?_
      try simp -implicitDefEqProofs (maxSteps := 4000000) (disch := first | omega | decide | (simp only [go_sem]; omega)) only [go_sem, ↓reduceIte]
      repeat (with_reducible refine And.intro (by first | assumption | omega | (simp; done) | (simp; omega)) ?_)
      refine toEnd hC ?_
      refine endX_seq ?_
      refine runX_seq ?_
      refine runX_condT rfl rfl ?_
      refine runX_skip ?_
      refine endX_seq ?_
      refine runX_seq ?_
      refine runX_block ?_
      refine runX_seq ?_
      refine runX_regionC fun C hC => ?_
      try simp -implicitDefEqProofs (maxSteps := 4000000) (disch := first | omega | decide | (simp only [go_sem]; omega)) only [go_sem, ↓reduceIte]
      repeat (with_reducible refine And.intro (by first | assumption | omega | (simp; done) | (simp; omega)) ?_)
      refine toEnd hC ?_
      refine endX_seq ?_
      refine runX_regionC fun C hC => ?_
      try simp -implicitDefEqProofs (maxSteps := 4000000) (disch := first | omega | decide | (simp only [go_sem]; omega)) only [go_sem, ↓reduceIte]
      repeat (with_reducible refine And.intro (by first | assumption | omega | (simp; done) | (simp; omega)) ?_)
      refine toEnd hC ?_
      refine endX_blk ?_
      refine endX_seq ?_
      refine runX_regionC fun C hC => ?_
      try simp -implicitDefEqProofs (maxSteps := 4000000) (disch := first | omega | decide | (simp only [go_sem]; omega)) only [go_sem, ↓reduceIte]
      repeat (with_reducible refine And.intro (by first | assumption | omega | (simp; done) | (simp; omega)) ?_)
      refine toEnd hC ?_
      refine endX_lp ?_
      refine runX_seq ?_
      refine runX_regionC fun C hC => ?_
      try simp -implicitDefEqProofs (maxSteps := 4000000) (disch := first | omega | decide | (simp only [go_sem]; omega)) only [go_sem, ↓reduceIte]
      repeat (with_reducible refine And.intro (by first | assumption | omega | (simp; done) | (simp; omega)) ?_)
      refine toEnd hC ?_
      refine endX_seq ?_
      refine runX_seq ?_
      refine runX_condT rfl rfl ?_
      refine runX_skip ?_
      refine endX_seq ?_
      refine runX_seq ?_
      refine runX_block ?_
      refine runX_seq ?_
      refine runX_regionC fun C hC => ?_
      try simp -implicitDefEqProofs (maxSteps := 4000000) (disch := first | omega | decide | (simp only [go_sem]; omega)) only [go_sem, ↓reduceIte]
      repeat (with_reducible refine And.intro (by first | assumption | omega | (simp; done) | (simp; omega)) ?_)
      refine toEnd hC ?_
      refine endX_seq ?_
      refine runX_regionC fun C hC => ?_
      try simp -implicitDefEqProofs (maxSteps := 4000000) (disch := first | omega | decide | (simp only [go_sem]; omega)) only [go_sem, ↓reduceIte]
      repeat (with_reducible refine And.intro (by first | assumption | omega | (simp; done) | (simp; omega)) ?_)
      refine toEnd hC ?_
      refine endX_blk ?_
      refine endX_seq ?_
      refine runX_regionC fun C hC => ?_
      try simp -implicitDefEqProofs (maxSteps := 4000000) (disch := first | omega | decide | (simp only [go_sem]; omega)) only [go_sem, ↓reduceIte]
      repeat (with_reducible refine And.intro (by first | assumption | omega | (simp; done) | (simp; omega)) ?_)
      refine toEnd hC ?_
      refine endX_lp ?_
      refine runX_seq ?_
      refine runX_regionC fun C hC => ?_
      try simp -implicitDefEqProofs (maxSteps := 4000000) (disch := first | omega | decide | (simp only [go_sem]; omega)) only [go_sem, ↓reduceIte]
      repeat (with_reducible refine And.intro (by first | assumption | omega | (simp; done) | (simp; omega)) ?_)
      refine toEnd hC ?_
      refine endX_seq ?_
      refine runX_seq ?_
      refine runX_condT rfl rfl ?_
      refine runX_skip ?_
      refine endX_seq ?_
      refine runX_seq ?_
      refine runX_block ?_
      refine runX_seq ?_
      refine runX_regionC fun C hC => ?_
      try simp -implicitDefEqProofs (maxSteps := 4000000) (disch := first | omega | decide | (simp only [go_sem]; omega)) only [go_sem, ↓reduceIte]
      repeat (with_reducible refine And.intro (by first | assumption | omega | (simp; done) | (simp; omega)) ?_)
      refine toEnd hC ?_
      refine endX_seq ?_
      refine runX_regionC fun C hC => ?_
      try simp -implicitDefEqProofs (maxSteps := 4000000) (disch := first | omega | decide | (simp only [go_sem]; omega)) only [go_sem, ↓reduceIte]
      repeat (with_reducible refine And.intro (by first | assumption | omega | (simp; done) | (simp; omega)) ?_)
      refine toEnd hC ?_
      refine endX_blk ?_
      refine endX_seq ?_
      refine runX_regionC fun C hC => ?_
      try simp -implicitDefEqProofs (maxSteps := 4000000) (disch := first | omega | decide | (simp only [go_sem]; omega)) only [go_sem, ↓reduceIte]
      repeat (with_reducible refine And.intro (by first | assumption | omega | (simp; done) | (simp; omega)) ?_)
      refine toEnd hC ?_
      refine endX_lp ?_
      refine runX_seq ?_
      refine runX_regionC fun C hC => ?_
      try simp -implicitDefEqProofs (maxSteps := 4000000) (disch := first | omega | decide | (simp only [go_sem]; omega)) only [go_sem, ↓reduceIte]
      repeat (with_reducible refine And.intro (by first | assumption | omega | (simp; done) | (simp; omega)) ?_)
      refine toEnd hC ?_
      refine endX_seq ?_
      refine runX_seq ?_
      refine runX_condF rfl rfl ?_
      refine runX_exit ?_
      refine endX_seqE ?_
      refine endX_lpE ?_
      refine endX_blkE ?_
      refine endX_seq ?_
      refine runX_seq ?_
      refine runX_regionC fun C hC => ?_
      try simp -implicitDefEqProofs (maxSteps := 4000000) (disch := first | omega | decide | (simp only [go_sem]; omega)) only [go_sem, ↓reduceIte]
      repeat (with_reducible refine And.intro (by first | assumption | omega | (simp; done) | (simp; omega)) ?_)
      refine toEnd hC ?_
      refine endX_seq ?_
      refine runX_ret ?_
      refine endX_q ?_
      obtain rfl := Option.some.inj h
      show RetW _ _ _ _ _
      simp only [RetW]
      (try simp -implicitDefEqProofs (maxSteps := 4000000) (disch := first | omega | decide | (simp only [go_sem]; omega)) only [go_sem, ↓reduceIte])
      (try simp (disch := omega) only [if_pos, Nat.sub_zero])
      exact leT_refl _
end Go.Proofs.YtaiapalhdejngaaX

set_option linter.unusedVariables false
set_option linter.unusedSimpArgs false
namespace Go.Proofs.YtaiapalhdejngaaX
open Go Go.RowKit Go.Proofs
set_option maxRecDepth 100000
attribute [local go_sem ↓] stepsK_build stepsK_build0 stepsK_bs stepsK_bs0 appendS
attribute [local go_sem] String.reduceEq String.reduceNe reduceCtorEq Int.reduceEq Nat.reduceAdd Nat.reduceSub Nat.reduceMul Nat.reduceLT Nat.reduceLeDiff Nat.reduceEqDiff Nat.reduceBEq Int.reduceToNat Int.reduceLT Int.reduceLE Int.reduceGT Int.reduceGE Int.reduceAdd Int.reduceSub Int.reduceMul Int.reduceNeg Int.reduceBEq Int.reduceBNe Int.reducePow Int.reduceDiv Int.reduceMod Int.reduceTDiv Int.reduceTMod Int.reduceNatCast
/-! ### md5.Sum -/
def F45_S1 (x2 : List (Int)) (x3 : Int) (x4 : Int) (x5 : Int) (x6 : Int) (x7 : Int) : St := ⟨[.sl 1 false (List.map byteT x2), .junk, .ref 0 0 0 0, .ref 1 0 0 0, .junk, .junk, .junk, .junk, .junk, .junk, .junk, .junk, .junk, .junk, .junk, .junk, .junk, .junk], [some (.box 70 (.agg [.imm (.int .u8 (0 : Int)), .imm (.int .u8 (0 : Int)), .imm (.int .u8 (0 : Int)), .imm (.int .u8 (0 : Int)), .imm (.int .u8 (0 : Int)), .imm (.int .u8 (0 : Int)), .imm (.int .u8 (0 : Int)), .imm (.int .u8 (0 : Int)), .imm (.int .u8 (0 : Int)), .imm (.int .u8 (0 : Int)), .imm (.int .u8 (0 : Int)), .imm (.int .u8 (0 : Int)), .imm (.int .u8 (0 : Int)), .imm (.int .u8 (0 : Int)), .imm (.int .u8 (0 : Int)), .imm (.int .u8 (0 : Int))]) false), some (.box 113 (.agg [.imm (.int .u32 x3), .imm (.int .u32 x4), .imm (.int .u32 x5), .imm (.int .u32 x6), .imm (.int .u64 x7)]) false)]⟩
def F45_L1 : Nat → (List (Int)) → (Int) → (Int) → (Int) → (Int) → (Int) → Option (List (Int))
  | 0, _, _, _, _, _, _ => none
  | m1 + 1, x2, x3, x4, x5, x6, x7 => iteB (decide ((64 : Int) ≤ (x2.length : Int))) (grd (64 ≤ x2.length) (grd (64 ≤ (x2.take 64).length) ((F82 m1 ([x3, x4, x5, x6], x7) ((x2.take 64).take 64)).bind fun v11 => grd ((64 : Int) ≤ (x2.length : Int)) (F45_L1 m1 (x2.drop 64) (v11.1.getD 0 default) (v11.1.getD 1 default) (v11.1.getD 2 default) (v11.1.getD 3 default) v11.2)))) ((F83 m1 ([x3, x4, x5, x6], x7) x2).bind fun v13 => grd (v13.length = 16) (grd (16 ≤ v13.length) (some (v13.take 16))))
def F45 (n : Nat) (a0 : List (Int)) : Option (List (Int)) := (F81 n ).bind fun v1 => F45_L1 n a0 (v1.1.getD 0 default) (v1.1.getD 1 default) (v1.1.getD 2 default) (v1.1.getD 3 default) v1.2
set_option maxHeartbeats 4000000 in
theorem F45_ok : ∀ (n : Nat) (a0 : List (Int)) (r : List (Int)), F45 n a0 = some r → FnC Try.prog 45 [.sl 1 false (List.map byteT a0)] (.agg (List.map byteT r))
  | n, a0, r, h => by
    unfold F45 at h
    refine FnC.goX mixed Try.func45 (by kernel_rfl) rfl ?_
    simp only [Try.ntmps45, List.length_cons, List.length_nil, List.replicate, List.cons_append, List.nil_append, Nat.reduceAdd, Nat.reduceSub]
    refine runX_seq ?_
    refine runX_regionC fun C hC => ?_
    try simp -implicitDefEqProofs (maxSteps := 4000000) (disch := first | omega | decide | (simp only [go_sem]; omega)) only [go_sem, ↓reduceIte]
    repeat (with_reducible refine And.intro (by first | assumption | omega | (simp; done) | (simp; omega)) ?_)
    refine toEnd hC ?_
    refine endX_seq ?_
    refine runX_seq ?_
    refine runX_regionC fun C hC => ?_
    simp only [runK_region, runK_draw, liteL, liteL2, dstsL, gL, List.getD_cons_zero, List.getD_cons_succ]
    obtain ⟨v1, h1, h⟩ := bnd_some h
    try simp -implicitDefEqProofs (maxSteps := 4000000) (disch := first | omega | decide | (simp only [go_sem]; omega)) only [go_sem, ↓reduceIte]
    repeat (with_reducible refine And.intro (by first | assumption | omega | (simp; done) | (simp; omega)) ?_)
    refine callG_X (by first | rfl | (simp only [go_sem]; done) | (simp only [closedL, closedT, Bool.and_true]; exact closedL_map _ (fun _ => by first | rfl | (simp only [go_sem]; done)) _)) (F81_ok n  _ h1) (by repeat (first | exact leL_refl _ | refine leL_cons (by first | exact leT_refl _ | exact leT_virt | exact leT_junk _ | exact leT_sl | exact leT_sln | exact leT_nil | (refine leT_agg (by repeat (first | exact leL_refl _ | refine leL_cons (by first | exact leT_refl _ | exact leT_sl | exact leT_sln | exact leT_nil) ?_)))) ?_)) ?_
    try simp -implicitDefEqProofs (maxSteps := 4000000) (disch := first | omega | decide | (simp only [go_sem]; omega)) only [go_sem, ↓reduceIte]
    repeat (with_reducible refine And.intro (by first | assumption | omega | (simp; done) | (simp; omega)) ?_)
    refine toEnd hC ?_
    refine endX_seq ?_
    refine runX_seq ?_
    refine runX_block ?_
    refine runX_loop [0, 2, 3] (fun m S => ∃ (x2 : List (Int)) (x3 : Int) (x4 : Int) (x5 : Int) (x6 : Int) (x7 : Int), S = F45_S1 x2 x3 x4 x5 x6 x7 ∧ m ≤ n ∧ F45_L1 m x2 x3 x4 x5 x6 x7 = some r) n ⟨F45_S1 a0 (v1.1.getD 0 default) (v1.1.getD 1 default) (v1.1.getD 2 default) (v1.1.getD 3 default) v1.2, ?_, a0, (v1.1.getD 0 default), (v1.1.getD 1 default), (v1.1.getD 2 default), (v1.1.getD 3 default), v1.2, rfl, Nat.le_refl _, h⟩ ?_
    · simp only [F45_S1]
      (try simp -implicitDefEqProofs (maxSteps := 4000000) (disch := first | omega | decide | (simp only [go_sem]; omega)) only [go_sem, ↓reduceIte])
      first | exact leS_refl _ | (refine leS_le ?_ ?_ <;> first | exact leL_refl _ | exact leOs_refl _ | (simp only [List.append_assoc, List.cons_append, List.nil_append]; exact leOs_refl _) | (repeat (first | exact leL_refl _ | refine leL_cons (by first | exact leT_refl _ | exact leT_virt | exact leT_junk _ | exact leT_sl | exact leT_sln | exact leT_nil | (refine leT_agg (by repeat (first | exact leL_refl _ | refine leL_cons (by first | exact leT_refl _ | exact leT_sl | exact leT_sln | exact leT_nil) ?_)))) ?_)))
    · clear h
      rintro m1 S ⟨x2, x3, x4, x5, x6, x7, rfl, hm1, h⟩
      cases m1 with
      | zero => first | cases (show (none : Option _) = some _ from h) | (rw [F45_L1] at h; cases h)
      | succ m1 =>
        rw [F45_L1] at h
        simp only [F45_S1]
        refine runX_seq ?_
        refine runX_seq ?_
        refine runX_regionC fun C hC => ?_
        try simp -implicitDefEqProofs (maxSteps := 4000000) (disch := first | omega | decide | (simp only [go_sem]; omega)) only [go_sem, ↓reduceIte]
        repeat (with_reducible refine And.intro (by first | assumption | omega | (simp; done) | (simp; omega)) ?_)
        refine toEnd hC ?_
        refine endX_seq ?_
        rcases iteB_some h with ⟨c8, h⟩ | ⟨c8, h⟩
        · refine runX_condT rfl c8 ?_
          refine runX_skip ?_
          refine endX_seq ?_
          refine runX_seq ?_
          refine runX_block ?_
          refine runX_drawC mixed (by kernel_rfl) fun C hC => ?_
          obtain ⟨g9, h⟩ := grd_some h
          obtain ⟨g10, h⟩ := grd_some h
          obtain ⟨v11, h11, h⟩ := bnd_some h
          try simp -implicitDefEqProofs (maxSteps := 4000000) (disch := first | omega | decide | (simp only [go_sem]; omega)) only [go_sem, ↓reduceIte]
          repeat (with_reducible refine And.intro (by first | assumption | omega | (simp; done) | (simp; omega)) ?_)
          refine callD_X (F82_ok m1 ([x3, x4, x5, x6], x7) ((x2.take 64).take 64) _ h11) (by repeat (first | exact leL_refl _ | refine leL_cons (by first | exact leT_refl _ | exact leT_virt | exact leT_junk _ | exact leT_sl | exact leT_sln | exact leT_nil | (refine leT_agg (by repeat (first | exact leL_refl _ | refine leL_cons (by first | exact leT_refl _ | exact leT_sl | exact leT_sln | exact leT_nil) ?_)))) ?_)) ?_
          try simp -implicitDefEqProofs (maxSteps := 4000000) (disch := first | omega | decide | (simp only [go_sem]; omega)) only [go_sem, ↓reduceIte]
          repeat (with_reducible refine And.intro (by first | assumption | omega | (simp; done) | (simp; omega)) ?_)
          refine toEnd hC ?_
          refine endX_blk ?_
          refine endX_seq ?_
          refine runX_regionC fun C hC => ?_
          obtain ⟨g12, h⟩ := grd_some h
          try simp -implicitDefEqProofs (maxSteps := 4000000) (disch := first | omega | decide | (simp only [go_sem]; omega)) only [go_sem, ↓reduceIte]
          repeat (with_reducible refine And.intro (by first | assumption | omega | (simp; done) | (simp; omega)) ?_)
          refine toEnd hC ?_
          refine endX_q (roundQ_normal ⟨m1, by omega, F45_S1 (x2.drop 64) (v11.1.getD 0 default) (v11.1.getD 1 default) (v11.1.getD 2 default) (v11.1.getD 3 default) v11.2, ?_, (x2.drop 64), (v11.1.getD 0 default), (v11.1.getD 1 default), (v11.1.getD 2 default), (v11.1.getD 3 default), v11.2, rfl, by omega, h⟩)
          simp only [F45_S1]
          (try simp -implicitDefEqProofs (maxSteps := 4000000) (disch := first | omega | decide | (simp only [go_sem]; omega)) only [go_sem, ↓reduceIte])
          first | exact leS_refl _ | (refine leS_le ?_ ?_ <;> first | exact leL_refl _ | exact leOs_refl _ | (simp only [List.append_assoc, List.cons_append, List.nil_append]; exact leOs_refl _) | (repeat (first | exact leL_refl _ | refine leL_cons (by first | exact leT_refl _ | exact leT_virt | exact leT_junk _ | exact leT_sl | exact leT_sln | exact leT_nil | (refine leT_agg (by repeat (first | exact leL_refl _ | refine leL_cons (by first | exact leT_refl _ | exact leT_sl | exact leT_sln | exact leT_nil) ?_)))) ?_)))
        · refine runX_condF rfl c8 ?_
          refine runX_exit ?_
          refine endX_seqE ?_
          refine endX_q (roundQ_exit ?_)
          refine endX_blkE ?_
          refine endX_seq ?_
          refine runX_seq ?_
          refine runX_regionC fun C hC => ?_
          obtain ⟨v13, h13, h⟩ := bnd_some h
          try simp -implicitDefEqProofs (maxSteps := 4000000) (disch := first | omega | decide | (simp only [go_sem]; omega)) only [go_sem, ↓reduceIte]
          repeat (with_reducible refine And.intro (by first | assumption | omega | (simp; done) | (simp; omega)) ?_)
          refine callG_X (by first | rfl | (simp only [go_sem]; done) | (simp only [closedL, closedT, Bool.and_true]; exact closedL_map _ (fun _ => by first | rfl | (simp only [go_sem]; done)) _)) (F83_ok m1 ([x3, x4, x5, x6], x7) x2 _ h13) (by repeat (first | exact leL_refl _ | refine leL_cons (by first | exact leT_refl _ | exact leT_virt | exact leT_junk _ | exact leT_sl | exact leT_sln | exact leT_nil | (refine leT_agg (by repeat (first | exact leL_refl _ | refine leL_cons (by first | exact leT_refl _ | exact leT_sl | exact leT_sln | exact leT_nil) ?_)))) ?_)) ?_
          obtain ⟨g14, h⟩ := grd_some h
          have e15 : List.drop v13.length ([.imm (.int .u8 (0 : Int)), .imm (.int .u8 (0 : Int)), .imm (.int .u8 (0 : Int)), .imm (.int .u8 (0 : Int)), .imm (.int .u8 (0 : Int)), .imm (.int .u8 (0 : Int)), .imm (.int .u8 (0 : Int)), .imm (.int .u8 (0 : Int)), .imm (.int .u8 (0 : Int)), .imm (.int .u8 (0 : Int)), .imm (.int .u8 (0 : Int)), .imm (.int .u8 (0 : Int)), .imm (.int .u8 (0 : Int)), .imm (.int .u8 (0 : Int)), .imm (.int .u8 (0 : Int)), .imm (.int .u8 (0 : Int))] : List T) = [] := drop_all (by first | (simp only [List.length_cons, List.length_nil]; omega) | (simp; omega))
          try simp -implicitDefEqProofs (maxSteps := 4000000) (disch := first | omega | decide | (simp only [go_sem]; omega)) only [go_sem, ↓reduceIte, e15]
          repeat (with_reducible refine And.intro (by first | assumption | omega | (simp; done) | (simp; omega)) ?_)
          refine toEnd hC ?_
          refine endX_seq ?_
          refine runX_ret ?_
          refine endX_q ?_
          obtain ⟨g16, h⟩ := grd_some h
          obtain rfl := Option.some.inj h
          show RetW _ _ _ _ _
          simp only [RetW]
          (try simp -implicitDefEqProofs (maxSteps := 4000000) (disch := first | omega | decide | (simp only [go_sem]; omega)) only [go_sem, ↓reduceIte])
          repeat (with_reducible refine And.intro (by first | assumption | omega | (simp; done) | (simp; omega)) ?_)
          (try simp (disch := omega) only [if_pos, Nat.sub_zero])
          exact leT_refl _
end Go.Proofs.YtaiapalhdejngaaX

set_option linter.unusedVariables false
set_option linter.unusedSimpArgs false
namespace Go.Proofs.YtaiapalhdejngaaX
open Go Go.RowKit Go.Proofs
set_option maxRecDepth 100000
attribute [local go_sem ↓] stepsK_build stepsK_build0 stepsK_bs stepsK_bs0 appendS
attribute [local go_sem] String.reduceEq String.reduceNe reduceCtorEq Int.reduceEq Nat.reduceAdd Nat.reduceSub Nat.reduceMul Nat.reduceLT Nat.reduceLeDiff Nat.reduceEqDiff Nat.reduceBEq Int.reduceToNat Int.reduceLT Int.reduceLE Int.reduceGT Int.reduceGE Int.reduceAdd Int.reduceSub Int.reduceMul Int.reduceNeg Int.reduceBEq Int.reduceBNe Int.reducePow Int.reduceDiv Int.reduceMod Int.reduceTDiv Int.reduceTMod Int.reduceNatCast
/-! ### md5.Text -/
def F54_S1 (v1 : List (Int)) (x2 : Int) (x3 : List (Int)) : St := ⟨[.junk, .junk, .junk, .rsl 0 1 0 x3.length, .junk, .junk, .junk, .agg (List.map byteT v1), .imm (.int .i64 x2), .junk, .junk, .junk, .junk, .junk, .junk, .junk, .junk, .junk, .junk, .junk, .junk, .junk, .junk], [some (.buf 5 1 (List.map byteT x3) 0)]⟩
def F54_L1 : Nat → (List (Int)) → (Int) → (List (Int)) → Option (List UInt8)
  | 0, _, _, _ => none
  | m1 + 1, v1, x2, x3 => iteB (decide (x2 < (16 : Int))) (grd (0 ≤ x2 ∧ x2 < (16 : Int) ∧ x2.toNat < v1.length) (grd (0 ≤ (bShr .u8 (v1.getD x2.toNat default) 4) ∧ (bShr .u8 (v1.getD x2.toNat default) 4) < (16 : Int)) (grd (0 ≤ (IntKind.wrap .u8 (bAnd .u8 (v1.getD x2.toNat default) (15 : Int))) ∧ (IntKind.wrap .u8 (bAnd .u8 (v1.getD x2.toNat default) (15 : Int))) < (16 : Int)) (grd ((x3.length + 2) ≤ 549755813888) (F54_L1 m1 v1 (IntKind.wrap .i64 (x2 + (1 : Int))) (x3 ++ ([((([48, 49, 50, 51, 52, 53, 54, 55, 56, 57, 97, 98, 99, 100, 101, 102] : List UInt8).getD (bShr .u8 (v1.getD x2.toNat default) 4).toNat 0).toNat : Int), ((([48, 49, 50, 51, 52, 53, 54, 55, 56, 57, 97, 98, 99, 100, 101, 102] : List UInt8).getD (IntKind.wrap .u8 (bAnd .u8 (v1.getD x2.toNat default) (15 : Int))).toNat 0).toNat : Int)]))))))) (some (x3.map toB))
def F54 (n : Nat) (a0 : List (Int)) : Option (List UInt8) := (F45 n a0).bind fun v1 => F54_L1 n v1 (0 : Int) []
set_option maxHeartbeats 4000000 in
theorem F54_ok : ∀ (n : Nat) (a0 : List (Int)) (r : List UInt8), F54 n a0 = some r → FnC Try.prog 54 [.sl 1 false (List.map byteT a0)] (.imm (.string (bs r)))
  | n, a0, r, h => by
    unfold F54 at h
    refine FnC.goX mixed Try.func54 (by kernel_rfl) rfl ?_
    simp only [Try.ntmps54, List.length_cons, List.length_nil, List.replicate, List.cons_append, List.nil_append, Nat.reduceAdd, Nat.reduceSub]
    refine runX_seq ?_
    refine runX_regionC fun C hC => ?_
    try simp -implicitDefEqProofs (maxSteps := 4000000) (disch := first | omega | decide | (simp only [go_sem]; omega)) only [go_sem, ↓reduceIte]
    repeat (with_reducible refine And.intro (by first | assumption | omega | (simp; done) | (simp; omega)) ?_)
    refine toEnd hC ?_
    refine endX_seq ?_
    refine runX_seq ?_
    refine runX_regionC fun C hC => ?_
    try simp -implicitDefEqProofs (maxSteps := 4000000) (disch := first | omega | decide | (simp only [go_sem]; omega)) only [go_sem, ↓reduceIte]
    repeat (with_reducible refine And.intro (by first | assumption | omega | (simp; done) | (simp; omega)) ?_)
    refine toEnd hC ?_
    refine endX_seq ?_
    refine runX_seq ?_
    refine runX_seq ?_
    refine runX_regionC fun C hC => ?_
    obtain ⟨v1, h1, h⟩ := bnd_some h
    try simp -implicitDefEqProofs (maxSteps := 4000000) (disch := first | omega | decide | (simp only [go_sem]; omega)) only [go_sem, ↓reduceIte]
    repeat (with_reducible refine And.intro (by first | assumption | omega | (simp; done) | (simp; omega)) ?_)
    refine callG_X (by first | rfl | (simp only [go_sem]; done) | (simp only [closedL, closedT, Bool.and_true]; exact closedL_map _ (fun _ => by first | rfl | (simp only [go_sem]; done)) _)) (F45_ok n a0 _ h1) (by repeat (first | exact leL_refl _ | refine leL_cons (by first | exact leT_refl _ | exact leT_virt | exact leT_junk _ | exact leT_sl | exact leT_sln | exact leT_nil | (refine leT_agg (by repeat (first | exact leL_refl _ | refine leL_cons (by first | exact leT_refl _ | exact leT_sl | exact leT_sln | exact leT_nil) ?_)))) ?_)) ?_
    try simp -implicitDefEqProofs (maxSteps := 4000000) (disch := first | omega | decide | (simp only [go_sem]; omega)) only [go_sem, ↓reduceIte]
    repeat (with_reducible refine And.intro (by first | assumption | omega | (simp; done) | (simp; omega)) ?_)
    refine toEnd hC ?_
    refine endX_seq ?_
    refine runX_block ?_
    refine runX_loop [3, 7, 8] (fun m S => ∃ (x2 : Int) (x3 : List (Int)), S = F54_S1 v1 x2 x3 ∧ m ≤ n ∧ F54_L1 m v1 x2 x3 = some r) n ⟨F54_S1 v1 (0 : Int) [], ?_, (0 : Int), [], rfl, Nat.le_refl _, h⟩ ?_
    · (try simp -implicitDefEqProofs (maxSteps := 4000000) (disch := first | omega | decide | (simp only [go_sem]; omega)) only [go_sem, ↓reduceIte])
      simp only [F54_S1]
      refine leS_trans (leS_pad _ _ 1) ?_
      simp only [List.replicate, List.cons_append, List.nil_append]
      refine leS_virt 0 5 1 rfl ?_ ?_ rfl
      · repeat (first | exact leL_refl _ | refine leL_cons (by first | exact leT_refl _ | exact leT_virt | exact leT_junk _ | exact leT_sl | exact leT_sln | exact leT_nil | (refine leT_agg (by repeat (first | exact leL_refl _ | refine leL_cons (by first | exact leT_refl _ | exact leT_sl | exact leT_sln | exact leT_nil) ?_)))) ?_)
      · repeat (first | exact leOs_refl _ | refine leOs.cons (by first | exact leO.same _ | (refine leO.box (leT_agg (by repeat (first | exact leL_refl _ | refine leL_cons (by first | exact leT_refl _ | exact leT_virt | exact leT_junk _ | exact leT_sl | exact leT_sln | exact leT_nil | (refine leT_agg (by repeat (first | exact leL_refl _ | refine leL_cons (by first | exact leT_refl _ | exact leT_sl | exact leT_sln | exact leT_nil) ?_)))) ?_))) rfl) | (refine leO.box (by first | exact leT_virt | exact leT_sl | exact leT_sln) rfl)) ?_)
    · clear h
      rintro m1 S ⟨x2, x3, rfl, hm1, h⟩
      cases m1 with
      | zero => first | cases (show (none : Option _) = some _ from h) | (rw [F54_L1] at h; cases h)
      | succ m1 =>
        rw [F54_L1] at h
        simp only [F54_S1]
        refine runX_seq ?_
        refine runX_regionC fun C hC => ?_
        try simp -implicitDefEqProofs (maxSteps := 4000000) (disch := first | omega | decide | (simp only [go_sem]; omega)) only [go_sem, ↓reduceIte]
        repeat (with_reducible refine And.intro (by first | assumption | omega | (simp; done) | (simp; omega)) ?_)
        refine toEnd hC ?_
        refine endX_seq ?_
        refine runX_seq ?_
        rcases iteB_some h with ⟨c4, h⟩ | ⟨c4, h⟩
        · refine runX_condT rfl c4 ?_
          refine runX_skip ?_
          refine endX_seq ?_
          refine runX_seq ?_
          refine runX_block ?_
          refine runX_seq ?_
          refine runX_regionC fun C hC => ?_
          obtain ⟨g5, h⟩ := grd_some h
          try simp -implicitDefEqProofs (maxSteps := 4000000) (disch := first | omega | decide | (simp only [go_sem]; omega)) only [go_sem, ↓reduceIte]
          repeat (with_reducible refine And.intro (by first | assumption | omega | (simp; done) | (simp; omega)) ?_)
          refine toEnd hC ?_
          refine endX_seq ?_
          refine runX_drawC mixed (by kernel_rfl) fun C hC => ?_
          obtain ⟨g6, h⟩ := grd_some h
          obtain ⟨g7, h⟩ := grd_some h
          try simp -implicitDefEqProofs (maxSteps := 4000000) (disch := first | omega | decide | (simp only [go_sem]; omega)) only [go_sem, ↓reduceIte]
          repeat (with_reducible refine And.intro (by first | assumption | omega | (simp; done) | (simp; omega)) ?_)
          refine buildX_val ?_
          obtain ⟨g8, h⟩ := grd_some h
          try simp -implicitDefEqProofs (maxSteps := 4000000) (disch := first | omega | decide | (simp only [go_sem]; omega)) only [go_sem, ↓reduceIte]
          repeat (with_reducible refine And.intro (by first | assumption | omega | (simp; done) | (simp; omega)) ?_)
          refine toEnd hC ?_
          refine endX_blk ?_
          refine endX_seq ?_
          refine runX_regionC fun C hC => ?_
          try simp -implicitDefEqProofs (maxSteps := 4000000) (disch := first | omega | decide | (simp only [go_sem]; omega)) only [go_sem, ↓reduceIte]
          repeat (with_reducible refine And.intro (by first | assumption | omega | (simp; done) | (simp; omega)) ?_)
          refine toEnd hC ?_
          refine endX_q (roundQ_normal ⟨m1, by omega, F54_S1 v1 (IntKind.wrap .i64 (x2 + (1 : Int))) (x3 ++ ([((([48, 49, 50, 51, 52, 53, 54, 55, 56, 57, 97, 98, 99, 100, 101, 102] : List UInt8).getD (bShr .u8 (v1.getD x2.toNat default) 4).toNat 0).toNat : Int), ((([48, 49, 50, 51, 52, 53, 54, 55, 56, 57, 97, 98, 99, 100, 101, 102] : List UInt8).getD (IntKind.wrap .u8 (bAnd .u8 (v1.getD x2.toNat default) (15 : Int))).toNat 0).toNat : Int)])), ?_, (IntKind.wrap .i64 (x2 + (1 : Int))), (x3 ++ ([((([48, 49, 50, 51, 52, 53, 54, 55, 56, 57, 97, 98, 99, 100, 101, 102] : List UInt8).getD (bShr .u8 (v1.getD x2.toNat default) 4).toNat 0).toNat : Int), ((([48, 49, 50, 51, 52, 53, 54, 55, 56, 57, 97, 98, 99, 100, 101, 102] : List UInt8).getD (IntKind.wrap .u8 (bAnd .u8 (v1.getD x2.toNat default) (15 : Int))).toNat 0).toNat : Int)])), rfl, by omega, h⟩)
          simp only [F54_S1]
          (try simp -implicitDefEqProofs (maxSteps := 4000000) (disch := first | omega | decide | (simp only [go_sem]; omega)) only [go_sem, ↓reduceIte])
          first | exact leS_refl _ | (refine leS_le ?_ ?_ <;> first | exact leL_refl _ | exact leOs_refl _ | (simp only [List.append_assoc, List.cons_append, List.nil_append]; exact leOs_refl _) | (repeat (first | exact leL_refl _ | refine leL_cons (by first | exact leT_refl _ | exact leT_virt | exact leT_junk _ | exact leT_sl | exact leT_sln | exact leT_nil | (refine leT_agg (by repeat (first | exact leL_refl _ | refine leL_cons (by first | exact leT_refl _ | exact leT_sl | exact leT_sln | exact leT_nil) ?_)))) ?_)))
        · refine runX_condF rfl c4 ?_
          refine runX_exit ?_
          refine endX_seqE ?_
          refine endX_q (roundQ_exit ?_)
          refine endX_blkE ?_
          refine endX_seq ?_
          refine runX_seq ?_
          refine runX_regionC fun C hC => ?_
          try simp -implicitDefEqProofs (maxSteps := 4000000) (disch := first | omega | decide | (simp only [go_sem]; omega)) only [go_sem, ↓reduceIte]
          repeat (with_reducible refine And.intro (by first | assumption | omega | (simp; done) | (simp; omega)) ?_)
          refine toEnd hC ?_
          refine endX_seq ?_
          refine runX_ret ?_
          refine endX_q ?_
          obtain rfl := Option.some.inj h
          show RetW _ _ _ _ _
          simp only [RetW]
          (try simp -implicitDefEqProofs (maxSteps := 4000000) (disch := first | omega | decide | (simp only [go_sem]; omega)) only [go_sem, ↓reduceIte])
          (try simp (disch := omega) only [if_pos, Nat.sub_zero])
          exact leT_refl _
end Go.Proofs.YtaiapalhdejngaaX

set_option linter.unusedVariables false
set_option linter.unusedSimpArgs false
namespace Go.Proofs.YtaiapalhdejngaaX
open Go Go.RowKit Go.Proofs
set_option maxRecDepth 100000
attribute [local go_sem ↓] stepsK_build stepsK_build0 stepsK_bs stepsK_bs0 appendS
attribute [local go_sem] String.reduceEq String.reduceNe reduceCtorEq Int.reduceEq Nat.reduceAdd Nat.reduceSub Nat.reduceMul Nat.reduceLT Nat.reduceLeDiff Nat.reduceEqDiff Nat.reduceBEq Int.reduceToNat Int.reduceLT Int.reduceLE Int.reduceGT Int.reduceGE Int.reduceAdd Int.reduceSub Int.reduceMul Int.reduceNeg Int.reduceBEq Int.reduceBNe Int.reducePow Int.reduceDiv Int.reduceMod Int.reduceTDiv Int.reduceTMod Int.reduceNatCast
/-! ### hex.Decimal -/
def F55_S4 (x11 : Int) (x12 : Int) (x13 : List (Int)) : St := ⟨[.junk, .junk, .junk, .junk, .rsl 0 1 0 x13.length, .imm (.int .i64 x11), .imm (.int .i64 x12), .junk, .junk, .junk, .junk, .junk, .junk, .junk, .junk, .junk, .junk, .junk, .junk, .junk, .junk, .junk, .junk, .junk, .junk, .junk, .junk, .junk, .junk, .junk, .junk, .junk, .junk, .junk, .junk, .junk, .junk, .junk, .junk, .junk, .junk, .junk, .junk, .junk, .junk, .junk, .junk, .junk, .junk, .junk, .junk, .junk, .junk, .junk], [some (.buf 5 1 (List.map byteT x13) 0)]⟩
def F55_S3 (x10 : List (Int)) : St := ⟨[.junk, .junk, .junk, .junk, .rsl 0 1 0 x10.length, .junk, .junk, .junk, .junk, .junk, .junk, .junk, .junk, .junk, .junk, .junk, .junk, .junk, .junk, .junk, .junk, .junk, .junk, .junk, .junk, .junk, .junk, .junk, .junk, .junk, .junk, .junk, .junk, .junk, .junk, .junk, .junk, .junk, .junk, .junk, .junk, .junk, .junk, .junk, .junk, .junk, .junk, .junk, .junk, .junk, .junk, .junk, .junk, .junk], [some (.buf 5 1 (List.map byteT x10) 0)]⟩
def F55_S2 (a0 : Int) (x3 : Int) (x4 : List (Int)) : St := ⟨[.imm (.int .i64 a0), .junk, .junk, .imm (.int .u64 x3), .rsl 0 1 0 x4.length, .junk, .junk, .junk, .junk, .junk, .junk, .junk, .junk, .junk, .junk, .junk, .junk, .junk, .junk, .junk, .junk, .junk, .junk, .junk, .junk, .junk, .junk, .junk, .junk, .junk, .junk, .junk, .junk, .junk, .junk, .junk, .junk, .junk, .junk, .junk, .junk, .junk, .junk, .junk, .junk, .junk, .junk, .junk, .junk, .junk, .junk, .junk, .junk, .junk], [some (.buf 5 1 (List.map byteT x4) 0)]⟩
def F55_S1 (a0 : Int) (x2 : Int) : St := ⟨[.imm (.int .i64 a0), .junk, .junk, .imm (.int .u64 x2), .junk, .junk, .junk, .junk, .junk, .junk, .junk, .junk, .junk, .junk, .junk, .junk, .junk, .junk, .junk, .junk, .junk, .junk, .junk, .junk, .junk, .junk, .junk, .junk, .junk, .junk, .junk, .junk, .junk, .junk, .junk, .junk, .junk, .junk, .junk, .junk, .junk, .junk, .junk, .junk, .junk, .junk, .junk, .junk, .junk, .junk, .junk, .junk, .junk, .junk], []⟩
mutual
def F55_L4 : Nat → (Int) → (Int) → (List (Int)) → Option (List UInt8)
  | 0, _, _, _ => none
  | m4 + 1, x11, x12, x13 => iteB (decide (x11 < x12)) (grd (0 ≤ x12 ∧ x12 < (x13.length : Int)) (grd (x12.toNat < x13.length) (grd (0 ≤ x11 ∧ x11 < (x13.length : Int)) (grd (x11.toNat < x13.length) (grd (0 ≤ x11 ∧ x11 < (x13.length : Int)) (grd (x11.toNat < x13.length) (grd (0 ≤ x12 ∧ x12 < (x13.length : Int)) (grd (x12.toNat < x13.length) (F55_L4 m4 (IntKind.wrap .i64 (x11 + (1 : Int))) (IntKind.wrap .i64 (x12 - (1 : Int))) (List.set (List.set x13 x11.toNat (x13.getD x12.toNat default)) x12.toNat (x13.getD x11.toNat default))))))))))) (some (x13.map toB))
def F55_J3 (m2 : Nat) (x10 : List (Int)) : Option (List UInt8) := F55_L4 m2 (0 : Int) (IntKind.wrap .i64 ((x10.length : Int) - (1 : Int))) x10
def F55_L2 : Nat → (Int) → (Int) → (List (Int)) → Option (List UInt8)
  | 0, _, _, _ => none
  | m2 + 1, a0, x3, x4 => grd (0 ≤ (x3.tmod (10 : Int)) ∧ (x3.tmod (10 : Int)) < (16 : Int)) (grd ((x4.length + 1) ≤ 549755813888) (iteB ((IntKind.wrap .u64 (x3.tdiv (10 : Int))) == (0 : Int)) (iteB (decide (a0 < (0 : Int))) (grd ((x4.length + 2) ≤ 549755813888) (F55_J3 m2 ((x4 ++ ([((([48, 49, 50, 51, 52, 53, 54, 55, 56, 57, 97, 98, 99, 100, 101, 102] : List UInt8).getD (x3.tmod (10 : Int)).toNat 0).toNat : Int)])) ++ [(45 : Int)]))) (F55_J3 m2 (x4 ++ ([((([48, 49, 50, 51, 52, 53, 54, 55, 56, 57, 97, 98, 99, 100, 101, 102] : List UInt8).getD (x3.tmod (10 : Int)).toNat 0).toNat : Int)])))) (F55_L2 m2 a0 (IntKind.wrap .u64 (x3.tdiv (10 : Int))) (x4 ++ ([((([48, 49, 50, 51, 52, 53, 54, 55, 56, 57, 97, 98, 99, 100, 101, 102] : List UInt8).getD (x3.tmod (10 : Int)).toNat 0).toNat : Int)])))))
def F55_J1 (n : Nat) (a0 : Int) (x2 : Int) : Option (List UInt8) := F55_L2 n a0 x2 []
end
def F55 (n : Nat) (a0 : Int) : Option (List UInt8) := iteB (decide (a0 < (0 : Int))) (F55_J1 n a0 (IntKind.wrap .u64 ((0 : Int) - (IntKind.wrap .u64 (a0))))) (F55_J1 n a0 (IntKind.wrap .u64 (a0)))
set_option maxHeartbeats 4000000 in
theorem F55_ok : ∀ (n : Nat) (a0 : Int) (r : List UInt8), F55 n a0 = some r → FnC Try.prog 55 [.imm (.int .i64 a0)] (.imm (.string (bs r)))
  | n, a0, r, h => by
    unfold F55 at h
    refine FnC.goX mixed Try.func55 (by kernel_rfl) rfl ?_
    simp only [Try.ntmps55, List.length_cons, List.length_nil, List.replicate, List.cons_append, List.nil_append, Nat.reduceAdd, Nat.reduceSub]
    refine runX_seq ?_
    refine runX_regionC fun C hC => ?_
    try simp -implicitDefEqProofs (maxSteps := 4000000) (disch := first | omega | decide | (simp only [go_sem]; omega)) only [go_sem, ↓reduceIte]
    repeat (with_reducible refine And.intro (by first | assumption | omega | (simp; done) | (simp; omega)) ?_)
    refine toEnd hC ?_
    refine endX_seq ?_
    refine runX_seq ?_
    refine runX_regionC fun C hC => ?_
    try simp -implicitDefEqProofs (maxSteps := 4000000) (disch := first | omega | decide | (simp only [go_sem]; omega)) only [go_sem, ↓reduceIte]
    repeat (with_reducible refine And.intro (by first | assumption | omega | (simp; done) | (simp; omega)) ?_)
    refine toEnd hC ?_
    refine endX_seq ?_
    refine runX_meet [0, 3] (fun S => ∃ (x2 : Int), S = F55_S1 a0 x2 ∧ F55_J1 n a0 x2 = some r) ?_ ?_
    · refine runX_seq ?_
      refine runX_regionC fun C hC => ?_
      try simp -implicitDefEqProofs (maxSteps := 4000000) (disch := first | omega | decide | (simp only [go_sem]; omega)) only [go_sem, ↓reduceIte]
      repeat (with_reducible refine And.intro (by first | assumption | omega | (simp; done) | (simp; omega)) ?_)
      refine toEnd hC ?_
      refine endX_seq ?_
      rcases iteB_some h with ⟨c1, h⟩ | ⟨c1, h⟩
      · refine runX_condT rfl c1 ?_
        refine runX_regionC fun C hC => ?_
        try simp -implicitDefEqProofs (maxSteps := 4000000) (disch := first | omega | decide | (simp only [go_sem]; omega)) only [go_sem, ↓reduceIte]
        repeat (with_reducible refine And.intro (by first | assumption | omega | (simp; done) | (simp; omega)) ?_)
        refine toEnd hC ?_
        refine endX_q (meetQ_normal ⟨F55_S1 a0 (IntKind.wrap .u64 ((0 : Int) - (IntKind.wrap .u64 (a0)))), ?_, (IntKind.wrap .u64 ((0 : Int) - (IntKind.wrap .u64 (a0)))), rfl, h⟩)
        simp only [F55_S1]
        (try simp -implicitDefEqProofs (maxSteps := 4000000) (disch := first | omega | decide | (simp only [go_sem]; omega)) only [go_sem, ↓reduceIte])
        first | exact leS_refl _ | (refine leS_le ?_ ?_ <;> first | exact leL_refl _ | exact leOs_refl _ | (simp only [List.append_assoc, List.cons_append, List.nil_append]; exact leOs_refl _) | (repeat (first | exact leL_refl _ | refine leL_cons (by first | exact leT_refl _ | exact leT_virt | exact leT_junk _ | exact leT_sl | exact leT_sln | exact leT_nil | (refine leT_agg (by repeat (first | exact leL_refl _ | refine leL_cons (by first | exact leT_refl _ | exact leT_sl | exact leT_sln | exact leT_nil) ?_)))) ?_)))
      · refine runX_condF rfl c1 ?_
        refine runX_skip ?_
        refine endX_q (meetQ_normal ⟨F55_S1 a0 (IntKind.wrap .u64 (a0)), ?_, (IntKind.wrap .u64 (a0)), rfl, h⟩)
        simp only [F55_S1]
        (try simp -implicitDefEqProofs (maxSteps := 4000000) (disch := first | omega | decide | (simp only [go_sem]; omega)) only [go_sem, ↓reduceIte])
        first | exact leS_refl _ | (refine leS_le ?_ ?_ <;> first | exact leL_refl _ | exact leOs_refl _ | (simp only [List.append_assoc, List.cons_append, List.nil_append]; exact leOs_refl _) | (repeat (first | exact leL_refl _ | refine leL_cons (by first | exact leT_refl _ | exact leT_virt | exact leT_junk _ | exact leT_sl | exact leT_sln | exact leT_nil | (refine leT_agg (by repeat (first | exact leL_refl _ | refine leL_cons (by first | exact leT_refl _ | exact leT_sl | exact leT_sln | exact leT_nil) ?_)))) ?_)))
    · clear h
      rintro S ⟨x2, rfl, h⟩
      rw [F55_J1] at h
      simp only [F55_S1]
      refine runX_seq ?_
      refine runX_regionC fun C hC => ?_
      try simp -implicitDefEqProofs (maxSteps := 4000000) (disch := first | omega | decide | (simp only [go_sem]; omega)) only [go_sem, ↓reduceIte]
      repeat (with_reducible refine And.intro (by first | assumption | omega | (simp; done) | (simp; omega)) ?_)
      refine toEnd hC ?_
      refine endX_seq ?_
      refine runX_seq ?_
      refine runX_block ?_
      refine runX_loop [0, 3, 4] (fun m S => ∃ (x3 : Int) (x4 : List (Int)), S = F55_S2 a0 x3 x4 ∧ m ≤ n ∧ F55_L2 m a0 x3 x4 = some r) n ⟨F55_S2 a0 x2 [], ?_, x2, [], rfl, Nat.le_refl _, h⟩ ?_
      · (try simp -implicitDefEqProofs (maxSteps := 4000000) (disch := first | omega | decide | (simp only [go_sem]; omega)) only [go_sem, ↓reduceIte])
        simp only [F55_S2]
        refine leS_trans (leS_pad _ _ 1) ?_
        simp only [List.replicate, List.cons_append, List.nil_append]
        refine leS_virt 0 5 1 rfl ?_ ?_ rfl
        · repeat (first | exact leL_refl _ | refine leL_cons (by first | exact leT_refl _ | exact leT_virt | exact leT_junk _ | exact leT_sl | exact leT_sln | exact leT_nil | (refine leT_agg (by repeat (first | exact leL_refl _ | refine leL_cons (by first | exact leT_refl _ | exact leT_sl | exact leT_sln | exact leT_nil) ?_)))) ?_)
        · repeat (first | exact leOs_refl _ | refine leOs.cons (by first | exact leO.same _ | (refine leO.box (leT_agg (by repeat (first | exact leL_refl _ | refine leL_cons (by first | exact leT_refl _ | exact leT_virt | exact leT_junk _ | exact leT_sl | exact leT_sln | exact leT_nil | (refine leT_agg (by repeat (first | exact leL_refl _ | refine leL_cons (by first | exact leT_refl _ | exact leT_sl | exact leT_sln | exact leT_nil) ?_)))) ?_))) rfl) | (refine leO.box (by first | exact leT_virt | exact leT_sl | exact leT_sln) rfl)) ?_)
      · clear h
        rintro m2 S ⟨x3, x4, rfl, hm2, h⟩
        cases m2 with
        | zero => first | cases (show (none : Option _) = some _ from h) | (rw [F55_L2] at h; cases h)
        | succ m2 =>
          rw [F55_L2] at h
          simp only [F55_S2]
          refine runX_block ?_
          refine runX_seq ?_
          refine runX_regionC fun C hC => ?_
          obtain ⟨g5, h⟩ := grd_some h
          try simp -implicitDefEqProofs (maxSteps := 4000000) (disch := first | omega | decide | (simp only [go_sem]; omega)) only [go_sem, ↓reduceIte]
          repeat (with_reducible refine And.intro (by first | assumption | omega | (simp; done) | (simp; omega)) ?_)
          refine bs_go <| buildX_val ?_
          obtain ⟨g6, h⟩ := grd_some h
          try simp -implicitDefEqProofs (maxSteps := 4000000) (disch := first | omega | decide | (simp only [go_sem]; omega)) only [go_sem, ↓reduceIte]
          repeat (with_reducible refine And.intro (by first | assumption | omega | (simp; done) | (simp; omega)) ?_)
          refine toEnd hC ?_
          refine endX_seq ?_
          refine runX_seq ?_
          refine runX_regionC fun C hC => ?_
          try simp -implicitDefEqProofs (maxSteps := 4000000) (disch := first | omega | decide | (simp only [go_sem]; omega)) only [go_sem, ↓reduceIte]
          repeat (with_reducible refine And.intro (by first | assumption | omega | (simp; done) | (simp; omega)) ?_)
          refine toEnd hC ?_
          refine endX_seq ?_
          refine runX_seq ?_
          refine runX_regionC fun C hC => ?_
          try simp -implicitDefEqProofs (maxSteps := 4000000) (disch := first | omega | decide | (simp only [go_sem]; omega)) only [go_sem, ↓reduceIte]
          repeat (with_reducible refine And.intro (by first | assumption | omega | (simp; done) | (simp; omega)) ?_)
          refine toEnd hC ?_
          refine endX_seq ?_
          rcases iteB_some h with ⟨c7, h⟩ | ⟨c7, h⟩
          · refine runX_condT rfl c7 ?_
            refine runX_exit ?_
            refine endX_blkO (by decide) ?_
            refine endX_q (roundQ_exit ?_)
            refine endX_blkE ?_
            refine endX_seq ?_
            refine runX_meet [4] (fun S => ∃ (x10 : List (Int)), S = F55_S3 x10 ∧ F55_J3 m2 x10 = some r) ?_ ?_
            · refine runX_seq ?_
              refine runX_regionC fun C hC => ?_
              try simp -implicitDefEqProofs (maxSteps := 4000000) (disch := first | omega | decide | (simp only [go_sem]; omega)) only [go_sem, ↓reduceIte]
              repeat (with_reducible refine And.intro (by first | assumption | omega | (simp; done) | (simp; omega)) ?_)
              refine toEnd hC ?_
              refine endX_seq ?_
              rcases iteB_some h with ⟨c8, h⟩ | ⟨c8, h⟩
              · refine runX_condT rfl c8 ?_
                refine runX_regionC fun C hC => ?_
                try simp -implicitDefEqProofs (maxSteps := 4000000) (disch := first | omega | decide | (simp only [go_sem]; omega)) only [go_sem, ↓reduceIte]
                repeat (with_reducible refine And.intro (by first | assumption | omega | (simp; done) | (simp; omega)) ?_)
                refine bs_go <| buildX_val ?_
                obtain ⟨g9, h⟩ := grd_some h
                try simp -implicitDefEqProofs (maxSteps := 4000000) (disch := first | omega | decide | (simp only [go_sem]; omega)) only [go_sem, ↓reduceIte]
                repeat (with_reducible refine And.intro (by first | assumption | omega | (simp; done) | (simp; omega)) ?_)
                refine toEnd hC ?_
                refine endX_q (meetQ_normal ⟨F55_S3 ((x4 ++ ([((([48, 49, 50, 51, 52, 53, 54, 55, 56, 57, 97, 98, 99, 100, 101, 102] : List UInt8).getD (x3.tmod (10 : Int)).toNat 0).toNat : Int)])) ++ [(45 : Int)]), ?_, ((x4 ++ ([((([48, 49, 50, 51, 52, 53, 54, 55, 56, 57, 97, 98, 99, 100, 101, 102] : List UInt8).getD (x3.tmod (10 : Int)).toNat 0).toNat : Int)])) ++ [(45 : Int)]), rfl, h⟩)
                simp only [F55_S3]
                (try simp -implicitDefEqProofs (maxSteps := 4000000) (disch := first | omega | decide | (simp only [go_sem]; omega)) only [go_sem, ↓reduceIte])
                first | exact leS_refl _ | (refine leS_le ?_ ?_ <;> first | exact leL_refl _ | exact leOs_refl _ | (simp only [List.append_assoc, List.cons_append, List.nil_append]; exact leOs_refl _) | (repeat (first | exact leL_refl _ | refine leL_cons (by first | exact leT_refl _ | exact leT_virt | exact leT_junk _ | exact leT_sl | exact leT_sln | exact leT_nil | (refine leT_agg (by repeat (first | exact leL_refl _ | refine leL_cons (by first | exact leT_refl _ | exact leT_sl | exact leT_sln | exact leT_nil) ?_)))) ?_)))
              · refine runX_condF rfl c8 ?_
                refine runX_skip ?_
                refine endX_q (meetQ_normal ⟨F55_S3 (x4 ++ ([((([48, 49, 50, 51, 52, 53, 54, 55, 56, 57, 97, 98, 99, 100, 101, 102] : List UInt8).getD (x3.tmod (10 : Int)).toNat 0).toNat : Int)])), ?_, (x4 ++ ([((([48, 49, 50, 51, 52, 53, 54, 55, 56, 57, 97, 98, 99, 100, 101, 102] : List UInt8).getD (x3.tmod (10 : Int)).toNat 0).toNat : Int)])), rfl, h⟩)
                simp only [F55_S3]
                (try simp -implicitDefEqProofs (maxSteps := 4000000) (disch := first | omega | decide | (simp only [go_sem]; omega)) only [go_sem, ↓reduceIte])
                first | exact leS_refl _ | (refine leS_le ?_ ?_ <;> first | exact leL_refl _ | exact leOs_refl _ | (simp only [List.append_assoc, List.cons_append, List.nil_append]; exact leOs_refl _) | (repeat (first | exact leL_refl _ | refine leL_cons (by first | exact leT_refl _ | exact leT_virt | exact leT_junk _ | exact leT_sl | exact leT_sln | exact leT_nil | (refine leT_agg (by repeat (first | exact leL_refl _ | refine leL_cons (by first | exact leT_refl _ | exact leT_sl | exact leT_sln | exact leT_nil) ?_)))) ?_)))
            · clear h
              rintro S ⟨x10, rfl, h⟩
              rw [F55_J3] at h
              simp only [F55_S3]
              refine runX_seq ?_
              refine runX_seq ?_
              refine runX_regionC fun C hC => ?_
              try simp -implicitDefEqProofs (maxSteps := 4000000) (disch := first | omega | decide | (simp only [go_sem]; omega)) only [go_sem, ↓reduceIte]
              repeat (with_reducible refine And.intro (by first | assumption | omega | (simp; done) | (simp; omega)) ?_)
              refine toEnd hC ?_
              refine endX_seq ?_
              refine runX_block ?_
              refine runX_loop [4, 5, 6] (fun m S => ∃ (x11 : Int) (x12 : Int) (x13 : List (Int)), S = F55_S4 x11 x12 x13 ∧ m ≤ m2 ∧ F55_L4 m x11 x12 x13 = some r) m2 ⟨F55_S4 (0 : Int) (IntKind.wrap .i64 ((x10.length : Int) - (1 : Int))) x10, ?_, (0 : Int), (IntKind.wrap .i64 ((x10.length : Int) - (1 : Int))), x10, rfl, Nat.le_refl _, h⟩ ?_
              · simp only [F55_S4]
                (try simp -implicitDefEqProofs (maxSteps := 4000000) (disch := first | omega | decide | (simp only [go_sem]; omega)) only [go_sem, ↓reduceIte])
                first | exact leS_refl _ | (refine leS_le ?_ ?_ <;> first | exact leL_refl _ | exact leOs_refl _ | (simp only [List.append_assoc, List.cons_append, List.nil_append]; exact leOs_refl _) | (repeat (first | exact leL_refl _ | refine leL_cons (by first | exact leT_refl _ | exact leT_virt | exact leT_junk _ | exact leT_sl | exact leT_sln | exact leT_nil | (refine leT_agg (by repeat (first | exact leL_refl _ | refine leL_cons (by first | exact leT_refl _ | exact leT_sl | exact leT_sln | exact leT_nil) ?_)))) ?_)))
              · clear h
                rintro m4 S ⟨x11, x12, x13, rfl, hm4, h⟩
                cases m4 with
                | zero => first | cases (show (none : Option _) = some _ from h) | (rw [F55_L4] at h; cases h)
                | succ m4 =>
                  rw [F55_L4] at h
                  simp only [F55_S4]
                  refine runX_seq ?_
                  refine runX_seq ?_
                  refine runX_regionC fun C hC => ?_
                  try simp -implicitDefEqProofs (maxSteps := 4000000) (disch := first | omega | decide | (simp only [go_sem]; omega)) only [go_sem, ↓reduceIte]
                  repeat (with_reducible refine And.intro (by first | assumption | omega | (simp; done) | (simp; omega)) ?_)
                  refine toEnd hC ?_
                  refine endX_seq ?_
                  rcases iteB_some h with ⟨c14, h⟩ | ⟨c14, h⟩
                  · refine runX_condT rfl c14 ?_
                    refine runX_skip ?_
                    refine endX_seq ?_
                    refine runX_seq ?_
                    refine runX_block ?_
                    refine runX_draw2C mixed [2, 3] (by kernel_rfl) fun C hC => ?_
                    obtain ⟨g15, h⟩ := grd_some h
                    obtain ⟨g16, h⟩ := grd_some h
                    obtain ⟨g17, h⟩ := grd_some h
                    obtain ⟨g18, h⟩ := grd_some h
                    obtain ⟨g19, h⟩ := grd_some h
                    obtain ⟨g20, h⟩ := grd_some h
                    obtain ⟨g21, h⟩ := grd_some h
                    obtain ⟨g22, h⟩ := grd_some h
                    try simp -implicitDefEqProofs (maxSteps := 4000000) (disch := first | omega | decide | (simp only [go_sem]; omega)) only [go_sem, ↓reduceIte]
                    repeat (with_reducible refine And.intro (by first | assumption | omega | (simp; done) | (simp; omega)) ?_)
                    refine toEnd hC ?_
                    refine endX_blk ?_
                    refine endX_seq ?_
                    refine runX_regionC fun C hC => ?_
                    try simp -implicitDefEqProofs (maxSteps := 4000000) (disch := first | omega | decide | (simp only [go_sem]; omega)) only [go_sem, ↓reduceIte]
                    repeat (with_reducible refine And.intro (by first | assumption | omega | (simp; done) | (simp; omega)) ?_)
                    refine toEnd hC ?_
                    refine endX_q (roundQ_normal ⟨m4, by omega, F55_S4 (IntKind.wrap .i64 (x11 + (1 : Int))) (IntKind.wrap .i64 (x12 - (1 : Int))) (List.set (List.set x13 x11.toNat (x13.getD x12.toNat default)) x12.toNat (x13.getD x11.toNat default)), ?_, (IntKind.wrap .i64 (x11 + (1 : Int))), (IntKind.wrap .i64 (x12 - (1 : Int))), (List.set (List.set x13 x11.toNat (x13.getD x12.toNat default)) x12.toNat (x13.getD x11.toNat default)), rfl, by omega, h⟩)
                    simp only [F55_S4]
                    (try simp -implicitDefEqProofs (maxSteps := 4000000) (disch := first | omega | decide | (simp only [go_sem]; omega)) only [go_sem, ↓reduceIte])
                    first | exact leS_refl _ | (refine leS_le ?_ ?_ <;> first | exact leL_refl _ | exact leOs_refl _ | (simp only [List.append_assoc, List.cons_append, List.nil_append]; exact leOs_refl _) | (repeat (first | exact leL_refl _ | refine leL_cons (by first | exact leT_refl _ | exact leT_virt | exact leT_junk _ | exact leT_sl | exact leT_sln | exact leT_nil | (refine leT_agg (by repeat (first | exact leL_refl _ | refine leL_cons (by first | exact leT_refl _ | exact leT_sl | exact leT_sln | exact leT_nil) ?_)))) ?_)))
                  · refine runX_condF rfl c14 ?_
                    refine runX_exit ?_
                    refine endX_seqE ?_
                    refine endX_q (roundQ_exit ?_)
                    refine endX_blkE ?_
                    refine endX_seq ?_
                    refine runX_seq ?_
                    refine runX_regionC fun C hC => ?_
                    try simp -implicitDefEqProofs (maxSteps := 4000000) (disch := first | omega | decide | (simp only [go_sem]; omega)) only [go_sem, ↓reduceIte]
                    repeat (with_reducible refine And.intro (by first | assumption | omega | (simp; done) | (simp; omega)) ?_)
                    refine toEnd hC ?_
                    refine endX_seq ?_
                    refine runX_ret ?_
                    refine endX_q ?_
                    obtain rfl := Option.some.inj h
                    show RetW _ _ _ _ _
                    simp only [RetW]
                    (try simp -implicitDefEqProofs (maxSteps := 4000000) (disch := first | omega | decide | (simp only [go_sem]; omega)) only [go_sem, ↓reduceIte])
                    (try simp (disch := omega) only [if_pos, Nat.sub_zero])
                    exact leT_refl _
          · refine runX_condF rfl c7 ?_
            refine runX_skip ?_
            refine endX_blk ?_
            refine endX_q (roundQ_normal ⟨m2, by omega, F55_S2 a0 (IntKind.wrap .u64 (x3.tdiv (10 : Int))) (x4 ++ ([((([48, 49, 50, 51, 52, 53, 54, 55, 56, 57, 97, 98, 99, 100, 101, 102] : List UInt8).getD (x3.tmod (10 : Int)).toNat 0).toNat : Int)])), ?_, (IntKind.wrap .u64 (x3.tdiv (10 : Int))), (x4 ++ ([((([48, 49, 50, 51, 52, 53, 54, 55, 56, 57, 97, 98, 99, 100, 101, 102] : List UInt8).getD (x3.tmod (10 : Int)).toNat 0).toNat : Int)])), rfl, by omega, h⟩)
            simp only [F55_S2]
            (try simp -implicitDefEqProofs (maxSteps := 4000000) (disch := first | omega | decide | (simp only [go_sem]; omega)) only [go_sem, ↓reduceIte])
            first | exact leS_refl _ | (refine leS_le ?_ ?_ <;> first | exact leL_refl _ | exact leOs_refl _ | (simp only [List.append_assoc, List.cons_append, List.nil_append]; exact leOs_refl _) | (repeat (first | exact leL_refl _ | refine leL_cons (by first | exact leT_refl _ | exact leT_virt | exact leT_junk _ | exact leT_sl | exact leT_sln | exact leT_nil | (refine leT_agg (by repeat (first | exact leL_refl _ | refine leL_cons (by first | exact leT_refl _ | exact leT_sl | exact leT_sln | exact leT_nil) ?_)))) ?_)))
end Go.Proofs.YtaiapalhdejngaaX

set_option linter.unusedVariables false
set_option linter.unusedSimpArgs false
namespace Go.Proofs.YtaiapalhdejngaaX
open Go Go.RowKit Go.Proofs
set_option maxRecDepth 100000
attribute [local go_sem ↓] stepsK_build stepsK_build0 stepsK_bs stepsK_bs0 appendS
attribute [local go_sem] String.reduceEq String.reduceNe reduceCtorEq Int.reduceEq Nat.reduceAdd Nat.reduceSub Nat.reduceMul Nat.reduceLT Nat.reduceLeDiff Nat.reduceEqDiff Nat.reduceBEq Int.reduceToNat Int.reduceLT Int.reduceLE Int.reduceGT Int.reduceGE Int.reduceAdd Int.reduceSub Int.reduceMul Int.reduceNeg Int.reduceBEq Int.reduceBNe Int.reducePow Int.reduceDiv Int.reduceMod Int.reduceTDiv Int.reduceTMod Int.reduceNatCast
/-! ### etag.Parts -/
def F19_S1 (a0 : List (List UInt8)) (x3 : Int) (x4 : List (Int)) : St := ⟨[.sl 1 false (List.map eS a0), .junk, .junk, .junk, .ref 0 0 0 0, .fn 53 [.ref 0 0 0 0], .junk, .junk, .junk, .junk, .junk, .junk, .junk, .junk, .junk, .junk, .junk, .sl 1 false (List.map eS a0), .imm (.int .i64 (a0.length : Int)), .imm (.int .i64 x3), .junk, .junk, .junk, .junk, .junk, .junk, .junk, .junk, .junk, .junk, .junk, .junk, .junk, .junk, .junk], [some (.box 52 (.rsl 1 1 0 x4.length) false), some (.buf 5 1 (List.map byteT x4) 0)]⟩
def F19_L1 : Nat → (List (List UInt8)) → (Int) → (List (Int)) → Option ((List UInt8) × (Bool))
  | 0, _, _, _ => none
  | m1 + 1, a0, x3, x4 => iteB (decide (x3 < (a0.length : Int))) (grd (0 ≤ x3 ∧ x3 < (a0.length : Int)) ((F53 m1 (a0.getD x3.toNat default) x4).bind fun v7 => iteB (!v7.1) (some ([], false)) (F19_L1 m1 a0 (IntKind.wrap .i64 (x3 + (1 : Int))) v7.2))) ((F54 m1 x4).bind fun v9 => grd (v9.length + 1 ≤ 9223372036854775807) ((F55 m1 (a0.length : Int)).bind fun v11 => grd ((v9.length + 1) + v11.length ≤ 9223372036854775807) (some (((v9 ++ ([45] : List UInt8)) ++ v11), true))))
def F19 (n : Nat) (a0 : List (List UInt8)) : Option ((List UInt8) × (Bool)) := iteB ((a0.length : Int) == (0 : Int)) (some ([], false)) (iteB (decide ((10000 : Int) < (a0.length : Int))) (some ([], false)) (F19_L1 n a0 (0 : Int) []))
set_option maxHeartbeats 4000000 in
theorem F19_ok : ∀ (n : Nat) (a0 : List (List UInt8)) (r : (List UInt8) × (Bool)), F19 n a0 = some r → FnC Try.prog 19 [.sl 1 false (List.map eS a0)] (.tup [.imm (.string (bs r.1)), .imm (.bool r.2)])
  | n, a0, r, h => by
    unfold F19 at h
    refine FnC.goX mixed Try.func19 (by kernel_rfl) rfl ?_
    simp only [Try.ntmps19, List.length_cons, List.length_nil, List.replicate, List.cons_append, List.nil_append, Nat.reduceAdd, Nat.reduceSub]
    refine runX_seq ?_
    refine runX_regionC fun C hC => ?_
    try simp -implicitDefEqProofs (maxSteps := 4000000) (disch := first | omega | decide | (simp only [go_sem]; omega)) only [go_sem, ↓reduceIte]
    repeat (with_reducible refine And.intro (by first | assumption | omega | (simp; done) | (simp; omega)) ?_)
    refine toEnd hC ?_
    refine endX_seq ?_
    refine runX_seq ?_
    refine runX_seq ?_
    refine runX_regionC fun C hC => ?_
    try simp -implicitDefEqProofs (maxSteps := 4000000) (disch := first | omega | decide | (simp only [go_sem]; omega)) only [go_sem, ↓reduceIte]
    repeat (with_reducible refine And.intro (by first | assumption | omega | (simp; done) | (simp; omega)) ?_)
    rcases iteB_some h with ⟨c1, h⟩ | ⟨c1, h⟩
    · refine guardK_F c1 ?_
      try simp -implicitDefEqProofs (maxSteps := 4000000) (disch := first | omega | decide | (simp only [go_sem]; omega)) only [go_sem, ↓reduceIte]
      repeat (with_reducible refine And.intro (by first | assumption | omega | (simp; done) | (simp; omega)) ?_)
      refine toEnd hC ?_
      refine endX_seq ?_
      refine runX_condT rfl rfl ?_
      refine runX_seq ?_
      refine runX_regionC fun C hC => ?_
      try simp -implicitDefEqProofs (maxSteps := 4000000) (disch := first | omega | decide | (simp only [go_sem]; omega)) only [go_sem, ↓reduceIte]
      repeat (with_reducible refine And.intro (by first | assumption | omega | (simp; done) | (simp; omega)) ?_)
      refine toEnd hC ?_
      refine endX_seq ?_
      refine runX_ret ?_
      refine endX_seqR ?_
      refine endX_q ?_
      obtain rfl := Option.some.inj h
      show RetW _ _ _ _ _
      simp only [RetW]
      (try simp -implicitDefEqProofs (maxSteps := 4000000) (disch := first | omega | decide | (simp only [go_sem]; omega)) only [go_sem, ↓reduceIte])
      (try simp (disch := omega) only [if_pos, Nat.sub_zero])
      exact leT_refl _
    · refine guardK_T c1 ?_
      try simp -implicitDefEqProofs (maxSteps := 4000000) (disch := first | omega | decide | (simp only [go_sem]; omega)) only [go_sem, ↓reduceIte]
      repeat (with_reducible refine And.intro (by first | assumption | omega | (simp; done) | (simp; omega)) ?_)
      refine toEnd hC ?_
      refine endX_seq ?_
      rcases iteB_some h with ⟨c2, h⟩ | ⟨c2, h⟩
      · refine runX_condT rfl c2 ?_
        refine runX_seq ?_
        refine runX_regionC fun C hC => ?_
        try simp -implicitDefEqProofs (maxSteps := 4000000) (disch := first | omega | decide | (simp only [go_sem]; omega)) only [go_sem, ↓reduceIte]
        repeat (with_reducible refine And.intro (by first | assumption | omega | (simp; done) | (simp; omega)) ?_)
        refine toEnd hC ?_
        refine endX_seq ?_
        refine runX_ret ?_
        refine endX_seqR ?_
        refine endX_q ?_
        obtain rfl := Option.some.inj h
        show RetW _ _ _ _ _
        simp only [RetW]
        (try simp -implicitDefEqProofs (maxSteps := 4000000) (disch := first | omega | decide | (simp only [go_sem]; omega)) only [go_sem, ↓reduceIte])
        (try simp (disch := omega) only [if_pos, Nat.sub_zero])
        exact leT_refl _
      · refine runX_condF rfl c2 ?_
        refine runX_skip ?_
        refine endX_seq ?_
        refine runX_seq ?_
        refine runX_regionC fun C hC => ?_
        try simp -implicitDefEqProofs (maxSteps := 4000000) (disch := first | omega | decide | (simp only [go_sem]; omega)) only [go_sem, ↓reduceIte]
        repeat (with_reducible refine And.intro (by first | assumption | omega | (simp; done) | (simp; omega)) ?_)
        refine toEnd hC ?_
        refine endX_seq ?_
        refine runX_seq ?_
        refine runX_regionC fun C hC => ?_
        try simp -implicitDefEqProofs (maxSteps := 4000000) (disch := first | omega | decide | (simp only [go_sem]; omega)) only [go_sem, ↓reduceIte]
        repeat (with_reducible refine And.intro (by first | assumption | omega | (simp; done) | (simp; omega)) ?_)
        refine toEnd hC ?_
        refine endX_seq ?_
        refine runX_seq ?_
        refine runX_seq ?_
        refine runX_regionC fun C hC => ?_
        try simp -implicitDefEqProofs (maxSteps := 4000000) (disch := first | omega | decide | (simp only [go_sem]; omega)) only [go_sem, ↓reduceIte]
        repeat (with_reducible refine And.intro (by first | assumption | omega | (simp; done) | (simp; omega)) ?_)
        refine toEnd hC ?_
        refine endX_seq ?_
        refine runX_block ?_
        refine runX_loop [0, 4, 5, 17, 18, 19] (fun m S => ∃ (x3 : Int) (x4 : List (Int)), S = F19_S1 a0 x3 x4 ∧ m ≤ n ∧ F19_L1 m a0 x3 x4 = some r) n ⟨F19_S1 a0 (0 : Int) [], ?_, (0 : Int), [], rfl, Nat.le_refl _, h⟩ ?_
        · (try simp -implicitDefEqProofs (maxSteps := 4000000) (disch := first | omega | decide | (simp only [go_sem]; omega)) only [go_sem, ↓reduceIte])
          simp only [F19_S1]
          refine leS_trans (leS_pad _ _ 1) ?_
          simp only [List.replicate, List.cons_append, List.nil_append]
          refine leS_virt 1 5 1 rfl ?_ ?_ rfl
          · repeat (first | exact leL_refl _ | refine leL_cons (by first | exact leT_refl _ | exact leT_virt | exact leT_junk _ | exact leT_sl | exact leT_sln | exact leT_nil | (refine leT_agg (by repeat (first | exact leL_refl _ | refine leL_cons (by first | exact leT_refl _ | exact leT_sl | exact leT_sln | exact leT_nil) ?_)))) ?_)
          · repeat (first | exact leOs_refl _ | refine leOs.cons (by first | exact leO.same _ | (refine leO.box (leT_agg (by repeat (first | exact leL_refl _ | refine leL_cons (by first | exact leT_refl _ | exact leT_virt | exact leT_junk _ | exact leT_sl | exact leT_sln | exact leT_nil | (refine leT_agg (by repeat (first | exact leL_refl _ | refine leL_cons (by first | exact leT_refl _ | exact leT_sl | exact leT_sln | exact leT_nil) ?_)))) ?_))) rfl) | (refine leO.box (by first | exact leT_virt | exact leT_sl | exact leT_sln) rfl)) ?_)
        · clear h
          rintro m1 S ⟨x3, x4, rfl, hm1, h⟩
          cases m1 with
          | zero => first | cases (show (none : Option _) = some _ from h) | (rw [F19_L1] at h; cases h)
          | succ m1 =>
            rw [F19_L1] at h
            simp only [F19_S1]
            refine runX_seq ?_
            refine runX_regionC fun C hC => ?_
            try simp -implicitDefEqProofs (maxSteps := 4000000) (disch := first | omega | decide | (simp only [go_sem]; omega)) only [go_sem, ↓reduceIte]
            repeat (with_reducible refine And.intro (by first | assumption | omega | (simp; done) | (simp; omega)) ?_)
            refine toEnd hC ?_
            refine endX_seq ?_
            refine runX_seq ?_
            rcases iteB_some h with ⟨c5, h⟩ | ⟨c5, h⟩
            · refine runX_condT rfl c5 ?_
              refine runX_skip ?_
              refine endX_seq ?_
              refine runX_seq ?_
              refine runX_block ?_
              refine runX_seq ?_
              refine runX_regionC fun C hC => ?_
              obtain ⟨g6, h⟩ := grd_some h
              try simp -implicitDefEqProofs (maxSteps := 4000000) (disch := first | omega | decide | (simp only [go_sem]; omega)) only [go_sem, ↓reduceIte]
              repeat (with_reducible refine And.intro (by first | assumption | omega | (simp; done) | (simp; omega)) ?_)
              refine toEnd hC ?_
              refine endX_seq ?_
              refine runX_seq ?_
              refine runX_regionC fun C hC => ?_
              obtain ⟨v7, h7, h⟩ := bnd_some h
              try simp -implicitDefEqProofs (maxSteps := 4000000) (disch := first | omega | decide | (simp only [go_sem]; omega)) only [go_sem, ↓reduceIte]
              repeat (with_reducible refine And.intro (by first | assumption | omega | (simp; done) | (simp; omega)) ?_)
              refine callR_X [0, 1] (F53_ok m1 (a0.getD x3.toNat default) x4 _ h7) (by decide) (by (try simp -implicitDefEqProofs (maxSteps := 4000000) (disch := first | omega | decide | (simp only [go_sem]; omega)) only [go_sem, ↓reduceIte]); repeat (first | exact trivial | refine And.intro ?_ ?_ | exact fun _ => trivial | exact fun _ _ => trivial | exact fun _ _ h => h | rfl | decide)) (by (try simp -implicitDefEqProofs (maxSteps := 4000000) (disch := first | omega | decide | (simp only [go_sem]; omega)) only [go_sem, ↓reduceIte]); repeat (first | exact leL_refl _ | refine leL_cons (by first | exact leT_refl _ | exact leT_virt | exact leT_junk _ | exact leT_sl | exact leT_sln | exact leT_nil | (refine leT_agg (by repeat (first | exact leL_refl _ | refine leL_cons (by first | exact leT_refl _ | exact leT_sl | exact leT_sln | exact leT_nil) ?_)))) ?_)) ?_
              try simp -implicitDefEqProofs (maxSteps := 4000000) (disch := first | omega | decide | (simp only [go_sem]; omega)) only [go_sem, ↓reduceIte]
              repeat (with_reducible refine And.intro (by first | assumption | omega | (simp; done) | (simp; omega)) ?_)
              refine toEnd hC ?_
              refine endX_seq ?_
              rcases iteB_some h with ⟨c8, h⟩ | ⟨c8, h⟩
              · refine runX_condT rfl c8 ?_
                refine runX_seq ?_
                refine runX_regionC fun C hC => ?_
                try simp -implicitDefEqProofs (maxSteps := 4000000) (disch := first | omega | decide | (simp only [go_sem]; omega)) only [go_sem, ↓reduceIte]
                repeat (with_reducible refine And.intro (by first | assumption | omega | (simp; done) | (simp; omega)) ?_)
                refine toEnd hC ?_
                refine endX_seq ?_
                refine runX_ret ?_
                refine endX_blkR ?_
                refine endX_seqR ?_
                refine endX_q (roundQ_ret ?_)
                refine endX_blkR ?_
                refine endX_seqR ?_
                refine endX_q ?_
                obtain rfl := Option.some.inj h
                show RetW _ _ _ _ _
                simp only [RetW]
                (try simp -implicitDefEqProofs (maxSteps := 4000000) (disch := first | omega | decide | (simp only [go_sem]; omega)) only [go_sem, ↓reduceIte])
                (try simp (disch := omega) only [if_pos, Nat.sub_zero])
                exact leT_refl _
              · refine runX_condF rfl c8 ?_
                refine runX_skip ?_
                refine endX_blk ?_
                refine endX_seq ?_
                refine runX_regionC fun C hC => ?_
                try simp -implicitDefEqProofs (maxSteps := 4000000) (disch := first | omega | decide | (simp only [go_sem]; omega)) only [go_sem, ↓reduceIte]
                repeat (with_reducible refine And.intro (by first | assumption | omega | (simp; done) | (simp; omega)) ?_)
                refine toEnd hC ?_
                refine endX_q (roundQ_normal ⟨m1, by omega, F19_S1 a0 (IntKind.wrap .i64 (x3 + (1 : Int))) v7.2, ?_, (IntKind.wrap .i64 (x3 + (1 : Int))), v7.2, rfl, by omega, h⟩)
                simp only [F19_S1]
                (try simp -implicitDefEqProofs (maxSteps := 4000000) (disch := first | omega | decide | (simp only [go_sem]; omega)) only [go_sem, ↓reduceIte])
                first | exact leS_refl _ | (refine leS_le ?_ ?_ <;> first | exact leL_refl _ | exact leOs_refl _ | (simp only [List.append_assoc, List.cons_append, List.nil_append]; exact leOs_refl _) | (repeat (first | exact leL_refl _ | refine leL_cons (by first | exact leT_refl _ | exact leT_virt | exact leT_junk _ | exact leT_sl | exact leT_sln | exact leT_nil | (refine leT_agg (by repeat (first | exact leL_refl _ | refine leL_cons (by first | exact leT_refl _ | exact leT_sl | exact leT_sln | exact leT_nil) ?_)))) ?_)))
            · refine runX_condF rfl c5 ?_
              refine runX_exit ?_
              refine endX_seqE ?_
              refine endX_q (roundQ_exit ?_)
              refine endX_blkE ?_
              refine endX_seq ?_
              refine runX_seq ?_
              refine runX_regionC fun C hC => ?_
              obtain ⟨v9, h9, h⟩ := bnd_some h
              try simp -implicitDefEqProofs (maxSteps := 4000000) (disch := first | omega | decide | (simp only [go_sem]; omega)) only [go_sem, ↓reduceIte]
              repeat (with_reducible refine And.intro (by first | assumption | omega | (simp; done) | (simp; omega)) ?_)
              refine callG_X (by first | rfl | (simp only [go_sem]; done) | (simp only [closedL, closedT, Bool.and_true]; exact closedL_map _ (fun _ => by first | rfl | (simp only [go_sem]; done)) _)) (F54_ok m1 x4 _ h9) (by repeat (first | exact leL_refl _ | refine leL_cons (by first | exact leT_refl _ | exact leT_virt | exact leT_junk _ | exact leT_sl | exact leT_sln | exact leT_nil | (refine leT_agg (by repeat (first | exact leL_refl _ | refine leL_cons (by first | exact leT_refl _ | exact leT_sl | exact leT_sln | exact leT_nil) ?_)))) ?_)) ?_
              obtain ⟨g10, h⟩ := grd_some h
              obtain ⟨v11, h11, h⟩ := bnd_some h
              try simp -implicitDefEqProofs (maxSteps := 4000000) (disch := first | omega | decide | (simp only [go_sem]; omega)) only [go_sem, ↓reduceIte]
              repeat (with_reducible refine And.intro (by first | assumption | omega | (simp; done) | (simp; omega)) ?_)
              refine callG_X (by first | rfl | (simp only [go_sem]; done) | (simp only [closedL, closedT, Bool.and_true]; exact closedL_map _ (fun _ => by first | rfl | (simp only [go_sem]; done)) _)) (F55_ok m1 (a0.length : Int) _ h11) (by repeat (first | exact leL_refl _ | refine leL_cons (by first | exact leT_refl _ | exact leT_virt | exact leT_junk _ | exact leT_sl | exact leT_sln | exact leT_nil | (refine leT_agg (by repeat (first | exact leL_refl _ | refine leL_cons (by first | exact leT_refl _ | exact leT_sl | exact leT_sln | exact leT_nil) ?_)))) ?_)) ?_
              obtain ⟨g12, h⟩ := grd_some h
              try simp -implicitDefEqProofs (maxSteps := 4000000) (disch := first | omega | decide | (simp only [go_sem]; omega)) only [go_sem, ↓reduceIte]
              repeat (with_reducible refine And.intro (by first | assumption | omega | (simp; done) | (simp; omega)) ?_)
              refine toEnd hC ?_
              refine endX_seq ?_
              refine runX_ret ?_
              refine endX_q ?_
              obtain rfl := Option.some.inj h
              show RetW _ _ _ _ _
              simp only [RetW]
              (try simp -implicitDefEqProofs (maxSteps := 4000000) (disch := first | omega | decide | (simp only [go_sem]; omega)) only [go_sem, ↓reduceIte])
              (try simp (disch := omega) only [if_pos, Nat.sub_zero])
              exact leT_refl _
end Go.Proofs.YtaiapalhdejngaaX

set_option linter.unusedVariables false
set_option linter.unusedSimpArgs false
namespace Go.Proofs.YtaiapalhdejngaaX
open Go Go.RowKit Go.Proofs
set_option maxRecDepth 100000
attribute [local go_sem ↓] stepsK_build stepsK_build0 stepsK_bs stepsK_bs0 appendS
attribute [local go_sem] String.reduceEq String.reduceNe reduceCtorEq Int.reduceEq Nat.reduceAdd Nat.reduceSub Nat.reduceMul Nat.reduceLT Nat.reduceLeDiff Nat.reduceEqDiff Nat.reduceBEq Int.reduceToNat Int.reduceLT Int.reduceLE Int.reduceGT Int.reduceGE Int.reduceAdd Int.reduceSub Int.reduceMul Int.reduceNeg Int.reduceBEq Int.reduceBNe Int.reducePow Int.reduceDiv Int.reduceMod Int.reduceTDiv Int.reduceTMod Int.reduceNatCast
/-! ### shadowboxref04.digit -/
def F58 (n : Nat) (a0 : Int) : Option (List UInt8) := grd (0 ≤ a0 ∧ a0 ≤ (IntKind.wrap .i64 (a0 + (1 : Int))) ∧ (IntKind.wrap .i64 (a0 + (1 : Int))) ≤ (16 : Int)) (some ((([48, 49, 50, 51, 52, 53, 54, 55, 56, 57, 97, 98, 99, 100, 101, 102] : List UInt8).take (IntKind.wrap .i64 (a0 + (1 : Int))).toNat).drop a0.toNat))
set_option maxHeartbeats 4000000 in
theorem F58_ok : ∀ (n : Nat) (a0 : Int) (r : List UInt8), F58 n a0 = some r → FnC Try.prog 58 [.imm (.int .i64 a0)] (.imm (.string (bs r)))
  | n, a0, r, h => by
    unfold F58 at h
    refine FnC.goX mixed Try.func58 (by kernel_rfl) rfl ?_
    simp only [Try.ntmps58, List.length_cons, List.length_nil, List.replicate, List.cons_append, List.nil_append, Nat.reduceAdd, Nat.reduceSub]
    refine runX_seq ?_
    refine runX_regionC fun C hC => ?_
    try simp -implicitDefEqProofs (maxSteps := 4000000) (disch := first | omega | decide | (simp only [go_sem]; omega)) only [go_sem, ↓reduceIte]
    repeat (with_reducible refine And.intro (by first | assumption | omega | (simp; done) | (simp; omega)) ?_)
    refine toEnd hC ?_
    refine endX_seq ?_
    refine runX_seq ?_
    refine runX_regionC fun C hC => ?_
    obtain ⟨g1, h⟩ := grd_some h
    try simp -implicitDefEqProofs (maxSteps := 4000000) (disch := first | omega | decide | (simp only [go_sem]; omega)) only [go_sem, ↓reduceIte]
    repeat (with_reducible refine And.intro (by first | assumption | omega | (simp; done) | (simp; omega)) ?_)
    refine toEnd hC ?_
    refine endX_seq ?_
    refine runX_ret ?_
    refine endX_q ?_
    obtain rfl := Option.some.inj h
    show RetW _ _ _ _ _
    simp only [RetW]
    (try simp -implicitDefEqProofs (maxSteps := 4000000) (disch := first | omega | decide | (simp only [go_sem]; omega)) only [go_sem, ↓reduceIte])
    (try simp (disch := omega) only [if_pos, Nat.sub_zero])
    exact leT_refl _
end Go.Proofs.YtaiapalhdejngaaX

set_option linter.unusedVariables false
set_option linter.unusedSimpArgs false
namespace Go.Proofs.YtaiapalhdejngaaX
open Go Go.RowKit Go.Proofs
set_option maxRecDepth 100000
attribute [local go_sem ↓] stepsK_build stepsK_build0 stepsK_bs stepsK_bs0 appendS
attribute [local go_sem] String.reduceEq String.reduceNe reduceCtorEq Int.reduceEq Nat.reduceAdd Nat.reduceSub Nat.reduceMul Nat.reduceLT Nat.reduceLeDiff Nat.reduceEqDiff Nat.reduceBEq Int.reduceToNat Int.reduceLT Int.reduceLE Int.reduceGT Int.reduceGE Int.reduceAdd Int.reduceSub Int.reduceMul Int.reduceNeg Int.reduceBEq Int.reduceBNe Int.reducePow Int.reduceDiv Int.reduceMod Int.reduceTDiv Int.reduceTMod Int.reduceNatCast
/-! ### shadowboxref04.Decimal -/
def F22_S1 (x5 : Int) (x6 : List UInt8) : St := ⟨[.imm (.int .i64 x5), .junk, .junk, .imm (.string (bs x6)), .junk, .junk, .junk, .junk, .junk, .junk, .junk, .junk, .junk, .junk, .junk, .junk, .junk, .junk, .junk, .junk, .junk, .junk, .junk, .junk, .junk, .junk, .junk, .junk, .junk, .junk, .junk, .junk, .junk], []⟩
def F22_S2 (x15 : Int) (x16 : List UInt8) : St := ⟨[.imm (.int .i64 x15), .junk, .junk, .imm (.string (bs x16)), .junk, .junk, .junk, .junk, .junk, .junk, .junk, .junk, .junk, .junk, .junk, .junk, .junk, .junk, .junk, .junk, .junk, .junk, .junk, .junk, .junk, .junk, .junk, .junk, .junk, .junk, .junk, .junk, .junk], []⟩
mutual
def F22_L1 : Nat → (Int) → (List UInt8) → Option (List UInt8)
  | 0, _, _ => none
  | m1 + 1, x5, x6 => iteB (decide (x5 < (0 : Int))) ((F58 m1 (IntKind.wrap .i64 ((0 : Int) - (x5.tmod (10 : Int))))).bind fun v8 => grd (v8.length + x6.length ≤ 9223372036854775807) (F22_L1 m1 (IntKind.wrap .i64 (x5.tdiv (10 : Int))) (v8 ++ x6))) (grd (1 + x6.length ≤ 9223372036854775807) (some (([45] : List UInt8) ++ x6)))
def F22_L2 : Nat → (Int) → (List UInt8) → Option (List UInt8)
  | 0, _, _ => none
  | m2 + 1, x15, x16 => iteB (decide (x15 < (0 : Int))) ((F58 m2 (IntKind.wrap .i64 ((0 : Int) - (x15.tmod (10 : Int))))).bind fun v18 => grd (v18.length + x16.length ≤ 9223372036854775807) (F22_L2 m2 (IntKind.wrap .i64 (x15.tdiv (10 : Int))) (v18 ++ x16))) (grd (1 + x16.length ≤ 9223372036854775807) (some (([45] : List UInt8) ++ x16)))
def F22 : Nat → (Int) → Option (List UInt8)
  | 0, _ => none
  | n + 1, a0 => iteB (decide ((0 : Int) ≤ a0)) (iteB (decide (a0 < (10 : Int))) ((F58 n a0).bind fun v3 => some v3) (iteB (decide (a0 < (0 : Int))) (F22_L1 n a0 []) ((F22 n (IntKind.wrap .i64 (a0.tdiv (10 : Int)))).bind fun v11 => (F58 n (a0.tmod (10 : Int))).bind fun v12 => grd (v11.length + v12.length ≤ 9223372036854775807) (some (v11 ++ v12))))) (iteB (decide (a0 < (0 : Int))) (F22_L2 n a0 []) ((F22 n (IntKind.wrap .i64 (a0.tdiv (10 : Int)))).bind fun v21 => (F58 n (a0.tmod (10 : Int))).bind fun v22 => grd (v21.length + v22.length ≤ 9223372036854775807) (some (v21 ++ v22))))
end
set_option maxHeartbeats 4000000 in
theorem F22_okB : ∀ (N n : Nat), n ≤ N → ∀ (a0 : Int) (r : List UInt8), F22 n a0 = some r → FnC Try.prog 22 [.imm (.int .i64 a0)] (.imm (.string (bs r))) := by
  intro N
  induction N with
  | zero =>
    intro n hN a0 r h
    obtain rfl : n = 0 := by omega
    first | cases (show (none : Option _) = some _ from h) | (rw [F22] at h; cases h)
  | succ N IH =>
    intro n hN a0 r h
    cases n with
    | zero => first | cases (show (none : Option _) = some _ from h) | (rw [F22] at h; cases h)
    | succ n =>
      rw [F22] at h
      refine FnC.goX mixed Try.func22 (by kernel_rfl) rfl ?_
      simp only [Try.ntmps22, List.length_cons, List.length_nil, List.replicate, List.cons_append, List.nil_append, Nat.reduceAdd, Nat.reduceSub]
      refine runX_seq ?_
      refine runX_regionC fun C hC => ?_
      try simp -implicitDefEqProofs (maxSteps := 4000000) (disch := first | omega | decide | (simp only [go_sem]; omega)) only [go_sem, ↓reduceIte]
      repeat (with_reducible refine And.intro (by first | assumption | omega | (simp; done) | (simp; omega)) ?_)
      refine toEnd hC ?_
      refine endX_seq ?_
      refine runX_seq ?_
      refine runX_seq ?_
      refine runX_regionC fun C hC => ?_
      try simp -implicitDefEqProofs (maxSteps := 4000000) (disch := first | omega | decide | (simp only [go_sem]; omega)) only [go_sem, ↓reduceIte]
      repeat (with_reducible refine And.intro (by first | assumption | omega | (simp; done) | (simp; omega)) ?_)
      rcases iteB_some h with ⟨c1, h⟩ | ⟨c1, h⟩
      · refine guardK_T c1 ?_
        try simp -implicitDefEqProofs (maxSteps := 4000000) (disch := first | omega | decide | (simp only [go_sem]; omega)) only [go_sem, ↓reduceIte]
        repeat (with_reducible refine And.intro (by first | assumption | omega | (simp; done) | (simp; omega)) ?_)
        refine toEnd hC ?_
        refine endX_seq ?_
        rcases iteB_some h with ⟨c2, h⟩ | ⟨c2, h⟩
        · refine runX_condT rfl c2 ?_
          refine runX_seq ?_
          refine runX_regionC fun C hC => ?_
          obtain ⟨v3, h3, h⟩ := bnd_some h
          try simp -implicitDefEqProofs (maxSteps := 4000000) (disch := first | omega | decide | (simp only [go_sem]; omega)) only [go_sem, ↓reduceIte]
          repeat (with_reducible refine And.intro (by first | assumption | omega | (simp; done) | (simp; omega)) ?_)
          refine callG_X (by first | rfl | (simp only [go_sem]; done) | (simp only [closedL, closedT, Bool.and_true]; exact closedL_map _ (fun _ => by first | rfl | (simp only [go_sem]; done)) _)) (F58_ok n a0 _ h3) (by repeat (first | exact leL_refl _ | refine leL_cons (by first | exact leT_refl _ | exact leT_virt | exact leT_junk _ | exact leT_sl | exact leT_sln | exact leT_nil | (refine leT_agg (by repeat (first | exact leL_refl _ | refine leL_cons (by first | exact leT_refl _ | exact leT_sl | exact leT_sln | exact leT_nil) ?_)))) ?_)) ?_
          try simp -implicitDefEqProofs (maxSteps := 4000000) (disch := first | omega | decide | (simp only [go_sem]; omega)) only [go_sem, ↓reduceIte]
          repeat (with_reducible refine And.intro (by first | assumption | omega | (simp; done) | (simp; omega)) ?_)
          refine toEnd hC ?_
          refine endX_seq ?_
          refine runX_ret ?_
          refine endX_seqR ?_
          refine endX_q ?_
          obtain rfl := Option.some.inj h
          show RetW _ _ _ _ _
          simp only [RetW]
          (try simp -implicitDefEqProofs (maxSteps := 4000000) (disch := first | omega | decide | (simp only [go_sem]; omega)) only [go_sem, ↓reduceIte])
          (try simp (disch := omega) only [if_pos, Nat.sub_zero])
          exact leT_refl _
        · refine runX_condF rfl c2 ?_
          refine runX_skip ?_
          refine endX_seq ?_
          refine runX_seq ?_
          refine runX_seq ?_
          refine runX_regionC fun C hC => ?_
          try simp -implicitDefEqProofs (maxSteps := 4000000) (disch := first | omega | decide | (simp only [go_sem]; omega)) only [go_sem, ↓reduceIte]
          repeat (with_reducible refine And.intro (by first | assumption | omega | (simp; done) | (simp; omega)) ?_)
          refine toEnd hC ?_
          refine endX_seq ?_
          rcases iteB_some h with ⟨c4, h⟩ | ⟨c4, h⟩
          · refine runX_condT rfl c4 ?_
            refine runX_seq ?_
            refine runX_regionC fun C hC => ?_
            try simp -implicitDefEqProofs (maxSteps := 4000000) (disch := first | omega | decide | (simp only [go_sem]; omega)) only [go_sem, ↓reduceIte]
            repeat (with_reducible refine And.intro (by first | assumption | omega | (simp; done) | (simp; omega)) ?_)
            refine toEnd hC ?_
            refine endX_seq ?_
            refine runX_seq ?_
            refine runX_block ?_
            refine runX_loop [0, 3] (fun m S => ∃ (x5 : Int) (x6 : List UInt8), S = F22_S1 x5 x6 ∧ m ≤ n ∧ F22_L1 m x5 x6 = some r) n ⟨F22_S1 a0 [], ?_, a0, [], rfl, Nat.le_refl _, h⟩ ?_
            · simp only [F22_S1]
              (try simp -implicitDefEqProofs (maxSteps := 4000000) (disch := first | omega | decide | (simp only [go_sem]; omega)) only [go_sem, ↓reduceIte])
              first | exact leS_refl _ | (refine leS_le ?_ ?_ <;> first | exact leL_refl _ | exact leOs_refl _ | (simp only [List.append_assoc, List.cons_append, List.nil_append]; exact leOs_refl _) | (repeat (first | exact leL_refl _ | refine leL_cons (by first | exact leT_refl _ | exact leT_virt | exact leT_junk _ | exact leT_sl | exact leT_sln | exact leT_nil | (refine leT_agg (by repeat (first | exact leL_refl _ | refine leL_cons (by first | exact leT_refl _ | exact leT_sl | exact leT_sln | exact leT_nil) ?_)))) ?_)))
            · clear h
              rintro m1 S ⟨x5, x6, rfl, hm1, h⟩
              cases m1 with
              | zero => first | cases (show (none : Option _) = some _ from h) | (rw [F22_L1] at h; cases h)
              | succ m1 =>
                rw [F22_L1] at h
                simp only [F22_S1]
                refine runX_seq ?_
                refine runX_seq ?_
                refine runX_regionC fun C hC => ?_
                try simp -implicitDefEqProofs (maxSteps := 4000000) (disch := first | omega | decide | (simp only [go_sem]; omega)) only [go_sem, ↓reduceIte]
                repeat (with_reducible refine And.intro (by first | assumption | omega | (simp; done) | (simp; omega)) ?_)
                refine toEnd hC ?_
                refine endX_seq ?_
                rcases iteB_some h with ⟨c7, h⟩ | ⟨c7, h⟩
                · refine runX_condT rfl c7 ?_
                  refine runX_skip ?_
                  refine endX_seq ?_
                  refine runX_block ?_
                  refine runX_seq ?_
                  refine runX_regionC fun C hC => ?_
                  obtain ⟨v8, h8, h⟩ := bnd_some h
                  try simp -implicitDefEqProofs (maxSteps := 4000000) (disch := first | omega | decide | (simp only [go_sem]; omega)) only [go_sem, ↓reduceIte]
                  repeat (with_reducible refine And.intro (by first | assumption | omega | (simp; done) | (simp; omega)) ?_)
                  refine callG_X (by first | rfl | (simp only [go_sem]; done) | (simp only [closedL, closedT, Bool.and_true]; exact closedL_map _ (fun _ => by first | rfl | (simp only [go_sem]; done)) _)) (F58_ok m1 (IntKind.wrap .i64 ((0 : Int) - (x5.tmod (10 : Int)))) _ h8) (by repeat (first | exact leL_refl _ | refine leL_cons (by first | exact leT_refl _ | exact leT_virt | exact leT_junk _ | exact leT_sl | exact leT_sln | exact leT_nil | (refine leT_agg (by repeat (first | exact leL_refl _ | refine leL_cons (by first | exact leT_refl _ | exact leT_sl | exact leT_sln | exact leT_nil) ?_)))) ?_)) ?_
                  obtain ⟨g9, h⟩ := grd_some h
                  try simp -implicitDefEqProofs (maxSteps := 4000000) (disch := first | omega | decide | (simp only [go_sem]; omega)) only [go_sem, ↓reduceIte]
                  repeat (with_reducible refine And.intro (by first | assumption | omega | (simp; done) | (simp; omega)) ?_)
                  refine toEnd hC ?_
                  refine endX_seq ?_
                  refine runX_regionC fun C hC => ?_
                  try simp -implicitDefEqProofs (maxSteps := 4000000) (disch := first | omega | decide | (simp only [go_sem]; omega)) only [go_sem, ↓reduceIte]
                  repeat (with_reducible refine And.intro (by first | assumption | omega | (simp; done) | (simp; omega)) ?_)
                  refine toEnd hC ?_
                  refine endX_blk ?_
                  refine endX_q (roundQ_normal ⟨m1, by omega, F22_S1 (IntKind.wrap .i64 (x5.tdiv (10 : Int))) (v8 ++ x6), ?_, (IntKind.wrap .i64 (x5.tdiv (10 : Int))), (v8 ++ x6), rfl, by omega, h⟩)
                  simp only [F22_S1]
                  (try simp -implicitDefEqProofs (maxSteps := 4000000) (disch := first | omega | decide | (simp only [go_sem]; omega)) only [go_sem, ↓reduceIte])
                  first | exact leS_refl _ | (refine leS_le ?_ ?_ <;> first | exact leL_refl _ | exact leOs_refl _ | (simp only [List.append_assoc, List.cons_append, List.nil_append]; exact leOs_refl _) | (repeat (first | exact leL_refl _ | refine leL_cons (by first | exact leT_refl _ | exact leT_virt | exact leT_junk _ | exact leT_sl | exact leT_sln | exact leT_nil | (refine leT_agg (by repeat (first | exact leL_refl _ | refine leL_cons (by first | exact leT_refl _ | exact leT_sl | exact leT_sln | exact leT_nil) ?_)))) ?_)))
                · refine runX_condF rfl c7 ?_
                  refine runX_exit ?_
                  refine endX_seqE ?_
                  refine endX_q (roundQ_exit ?_)
                  refine endX_blkE ?_
                  refine endX_seq ?_
                  refine runX_seq ?_
                  refine runX_regionC fun C hC => ?_
                  obtain ⟨g10, h⟩ := grd_some h
                  try simp -implicitDefEqProofs (maxSteps := 4000000) (disch := first | omega | decide | (simp only [go_sem]; omega)) only [go_sem, ↓reduceIte]
                  repeat (with_reducible refine And.intro (by first | assumption | omega | (simp; done) | (simp; omega)) ?_)
                  refine toEnd hC ?_
                  refine endX_seq ?_
                  refine runX_ret ?_
                  refine endX_seqR ?_
                  refine endX_q ?_
                  obtain rfl := Option.some.inj h
                  show RetW _ _ _ _ _
                  simp only [RetW]
                  (try simp -implicitDefEqProofs (maxSteps := 4000000) (disch := first | omega | decide | (simp only [go_sem]; omega)) only [go_sem, ↓reduceIte])
                  (try simp (disch := omega) only [if_pos, Nat.sub_zero])
                  exact leT_refl _
          · refine runX_condF rfl c4 ?_
            refine runX_skip ?_
            refine endX_seq ?_
            refine runX_seq ?_
            refine runX_regionC fun C hC => ?_
            obtain ⟨v11, h11, h⟩ := bnd_some h
            try simp -implicitDefEqProofs (maxSteps := 4000000) (disch := first | omega | decide | (simp only [go_sem]; omega)) only [go_sem, ↓reduceIte]
            repeat (with_reducible refine And.intro (by first | assumption | omega | (simp; done) | (simp; omega)) ?_)
            refine callG_X (by first | rfl | (simp only [go_sem]; done) | (simp only [closedL, closedT, Bool.and_true]; exact closedL_map _ (fun _ => by first | rfl | (simp only [go_sem]; done)) _)) (IH n (by omega) (IntKind.wrap .i64 (a0.tdiv (10 : Int))) _ h11) (by repeat (first | exact leL_refl _ | refine leL_cons (by first | exact leT_refl _ | exact leT_virt | exact leT_junk _ | exact leT_sl | exact leT_sln | exact leT_nil | (refine leT_agg (by repeat (first | exact leL_refl _ | refine leL_cons (by first | exact leT_refl _ | exact leT_sl | exact leT_sln | exact leT_nil) ?_)))) ?_)) ?_
            obtain ⟨v12, h12, h⟩ := bnd_some h
            try simp -implicitDefEqProofs (maxSteps := 4000000) (disch := first | omega | decide | (simp only [go_sem]; omega)) only [go_sem, ↓reduceIte]
            repeat (with_reducible refine And.intro (by first | assumption | omega | (simp; done) | (simp; omega)) ?_)
            refine callG_X (by first | rfl | (simp only [go_sem]; done) | (simp only [closedL, closedT, Bool.and_true]; exact closedL_map _ (fun _ => by first | rfl | (simp only [go_sem]; done)) _)) (F58_ok n (a0.tmod (10 : Int)) _ h12) (by repeat (first | exact leL_refl _ | refine leL_cons (by first | exact leT_refl _ | exact leT_virt | exact leT_junk _ | exact leT_sl | exact leT_sln | exact leT_nil | (refine leT_agg (by repeat (first | exact leL_refl _ | refine leL_cons (by first | exact leT_refl _ | exact leT_sl | exact leT_sln | exact leT_nil) ?_)))) ?_)) ?_
            obtain ⟨g13, h⟩ := grd_some h
            try simp -implicitDefEqProofs (maxSteps := 4000000) (disch := first | omega | decide | (simp only [go_sem]; omega)) only [go_sem, ↓reduceIte]
            repeat (with_reducible refine And.intro (by first | assumption | omega | (simp; done) | (simp; omega)) ?_)
            refine toEnd hC ?_
            refine endX_seq ?_
            refine runX_ret ?_
            refine endX_q ?_
            obtain rfl := Option.some.inj h
            show RetW _ _ _ _ _
            simp only [RetW]
            (try simp -implicitDefEqProofs (maxSteps := 4000000) (disch := first | omega | decide | (simp only [go_sem]; omega)) only [go_sem, ↓reduceIte])
            (try simp (disch := omega) only [if_pos, Nat.sub_zero])
            exact leT_refl _
      · refine guardK_F c1 ?_
        try simp -implicitDefEqProofs (maxSteps := 4000000) (disch := first | omega | decide | (simp only [go_sem]; omega)) only [go_sem, ↓reduceIte]
        repeat (with_reducible refine And.intro (by first | assumption | omega | (simp; done) | (simp; omega)) ?_)
        refine toEnd hC ?_
        refine endX_seq ?_
        refine runX_condF rfl rfl ?_
        refine runX_skip ?_
        refine endX_seq ?_
        refine runX_seq ?_
        refine runX_seq ?_
        refine runX_regionC fun C hC => ?_
        try simp -implicitDefEqProofs (maxSteps := 4000000) (disch := first | omega | decide | (simp only [go_sem]; omega)) only [go_sem, ↓reduceIte]
        repeat (with_reducible refine And.intro (by first | assumption | omega | (simp; done) | (simp; omega)) ?_)
        refine toEnd hC ?_
        refine endX_seq ?_
        rcases iteB_some h with ⟨c14, h⟩ | ⟨c14, h⟩
        · refine runX_condT rfl c14 ?_
          refine runX_seq ?_
          refine runX_regionC fun C hC => ?_
          try simp -implicitDefEqProofs (maxSteps := 4000000) (disch := first | omega | decide | (simp only [go_sem]; omega)) only [go_sem, ↓reduceIte]
          repeat (with_reducible refine And.intro (by first | assumption | omega | (simp; done) | (simp; omega)) ?_)
          refine toEnd hC ?_
          refine endX_seq ?_
          refine runX_seq ?_
          refine runX_block ?_
          refine runX_loop [0, 3] (fun m S => ∃ (x15 : Int) (x16 : List UInt8), S = F22_S2 x15 x16 ∧ m ≤ n ∧ F22_L2 m x15 x16 = some r) n ⟨F22_S2 a0 [], ?_, a0, [], rfl, Nat.le_refl _, h⟩ ?_
          · simp only [F22_S2]
            (try simp -implicitDefEqProofs (maxSteps := 4000000) (disch := first | omega | decide | (simp only [go_sem]; omega)) only [go_sem, ↓reduceIte])
            first | exact leS_refl _ | (refine leS_le ?_ ?_ <;> first | exact leL_refl _ | exact leOs_refl _ | (simp only [List.append_assoc, List.cons_append, List.nil_append]; exact leOs_refl _) | (repeat (first | exact leL_refl _ | refine leL_cons (by first | exact leT_refl _ | exact leT_virt | exact leT_junk _ | exact leT_sl | exact leT_sln | exact leT_nil | (refine leT_agg (by repeat (first | exact leL_refl _ | refine leL_cons (by first | exact leT_refl _ | exact leT_sl | exact leT_sln | exact leT_nil) ?_)))) ?_)))
          · clear h
            rintro m2 S ⟨x15, x16, rfl, hm2, h⟩
            cases m2 with
            | zero => first | cases (show (none : Option _) = some _ from h) | (rw [F22_L2] at h; cases h)
            | succ m2 =>
              rw [F22_L2] at h
              simp only [F22_S2]
              refine runX_seq ?_
              refine runX_seq ?_
              refine runX_regionC fun C hC => ?_
              try simp -implicitDefEqProofs (maxSteps := 4000000) (disch := first | omega | decide | (simp only [go_sem]; omega)) only [go_sem, ↓reduceIte]
              repeat (with_reducible refine And.intro (by first | assumption | omega | (simp; done) | (simp; omega)) ?_)
              refine toEnd hC ?_
              refine endX_seq ?_
              rcases iteB_some h with ⟨c17, h⟩ | ⟨c17, h⟩
              · refine runX_condT rfl c17 ?_
                refine runX_skip ?_
                refine endX_seq ?_
                refine runX_block ?_
                refine runX_seq ?_
                refine runX_regionC fun C hC => ?_
                obtain ⟨v18, h18, h⟩ := bnd_some h
                try simp -implicitDefEqProofs (maxSteps := 4000000) (disch := first | omega | decide | (simp only [go_sem]; omega)) only [go_sem, ↓reduceIte]
                repeat (with_reducible refine And.intro (by first | assumption | omega | (simp; done) | (simp; omega)) ?_)
                refine callG_X (by first | rfl | (simp only [go_sem]; done) | (simp only [closedL, closedT, Bool.and_true]; exact closedL_map _ (fun _ => by first | rfl | (simp only [go_sem]; done)) _)) (F58_ok m2 (IntKind.wrap .i64 ((0 : Int) - (x15.tmod (10 : Int)))) _ h18) (by repeat (first | exact leL_refl _ | refine leL_cons (by first | exact leT_refl _ | exact leT_virt | exact leT_junk _ | exact leT_sl | exact leT_sln | exact leT_nil | (refine leT_agg (by repeat (first | exact leL_refl _ | refine leL_cons (by first | exact leT_refl _ | exact leT_sl | exact leT_sln | exact leT_nil) ?_)))) ?_)) ?_
                obtain ⟨g19, h⟩ := grd_some h
                try simp -implicitDefEqProofs (maxSteps := 4000000) (disch := first | omega | decide | (simp only [go_sem]; omega)) only [go_sem, ↓reduceIte]
                repeat (with_reducible refine And.intro (by first | assumption | omega | (simp; done) | (simp; omega)) ?_)
                refine toEnd hC ?_
                refine endX_seq ?_
                refine runX_regionC fun C hC => ?_
                try simp -implicitDefEqProofs (maxSteps := 4000000) (disch := first | omega | decide | (simp only [go_sem]; omega)) only [go_sem, ↓reduceIte]
                repeat (with_reducible refine And.intro (by first | assumption | omega | (simp; done) | (simp; omega)) ?_)
                refine toEnd hC ?_
                refine endX_blk ?_
                refine endX_q (roundQ_normal ⟨m2, by omega, F22_S2 (IntKind.wrap .i64 (x15.tdiv (10 : Int))) (v18 ++ x16), ?_, (IntKind.wrap .i64 (x15.tdiv (10 : Int))), (v18 ++ x16), rfl, by omega, h⟩)
                simp only [F22_S2]
                (try simp -implicitDefEqProofs (maxSteps := 4000000) (disch := first | omega | decide | (simp only [go_sem]; omega)) only [go_sem, ↓reduceIte])
                first | exact leS_refl _ | (refine leS_le ?_ ?_ <;> first | exact leL_refl _ | exact leOs_refl _ | (simp only [List.append_assoc, List.cons_append, List.nil_append]; exact leOs_refl _) | (repeat (first | exact leL_refl _ | refine leL_cons (by first | exact leT_refl _ | exact leT_virt | exact leT_junk _ | exact leT_sl | exact leT_sln | exact leT_nil | (refine leT_agg (by repeat (first | exact leL_refl _ | refine leL_cons (by first | exact leT_refl _ | exact leT_sl | exact leT_sln | exact leT_nil) ?_)))) ?_)))
              · refine runX_condF rfl c17 ?_
                refine runX_exit ?_
                refine endX_seqE ?_
                refine endX_q (roundQ_exit ?_)
                refine endX_blkE ?_
                refine endX_seq ?_
                refine runX_seq ?_
                refine runX_regionC fun C hC => ?_
                obtain ⟨g20, h⟩ := grd_some h
                try simp -implicitDefEqProofs (maxSteps := 4000000) (disch := first | omega | decide | (simp only [go_sem]; omega)) only [go_sem, ↓reduceIte]
                repeat (with_reducible refine And.intro (by first | assumption | omega | (simp; done) | (simp; omega)) ?_)
                refine toEnd hC ?_
                refine endX_seq ?_
                refine runX_ret ?_
                refine endX_seqR ?_
                refine endX_q ?_
                obtain rfl := Option.some.inj h
                show RetW _ _ _ _ _
                simp only [RetW]
                (try simp -implicitDefEqProofs (maxSteps := 4000000) (disch := first | omega | decide | (simp only [go_sem]; omega)) only [go_sem, ↓reduceIte])
                (try simp (disch := omega) only [if_pos, Nat.sub_zero])
                exact leT_refl _
        · refine runX_condF rfl c14 ?_
          refine runX_skip ?_
          refine endX_seq ?_
          refine runX_seq ?_
          refine runX_regionC fun C hC => ?_
          obtain ⟨v21, h21, h⟩ := bnd_some h
          try simp -implicitDefEqProofs (maxSteps := 4000000) (disch := first | omega | decide | (simp only [go_sem]; omega)) only [go_sem, ↓reduceIte]
          repeat (with_reducible refine And.intro (by first | assumption | omega | (simp; done) | (simp; omega)) ?_)
          refine callG_X (by first | rfl | (simp only [go_sem]; done) | (simp only [closedL, closedT, Bool.and_true]; exact closedL_map _ (fun _ => by first | rfl | (simp only [go_sem]; done)) _)) (IH n (by omega) (IntKind.wrap .i64 (a0.tdiv (10 : Int))) _ h21) (by repeat (first | exact leL_refl _ | refine leL_cons (by first | exact leT_refl _ | exact leT_virt | exact leT_junk _ | exact leT_sl | exact leT_sln | exact leT_nil | (refine leT_agg (by repeat (first | exact leL_refl _ | refine leL_cons (by first | exact leT_refl _ | exact leT_sl | exact leT_sln | exact leT_nil) ?_)))) ?_)) ?_
          obtain ⟨v22, h22, h⟩ := bnd_some h
          try simp -implicitDefEqProofs (maxSteps := 4000000) (disch := first | omega | decide | (simp only [go_sem]; omega)) only [go_sem, ↓reduceIte]
          repeat (with_reducible refine And.intro (by first | assumption | omega | (simp; done) | (simp; omega)) ?_)
          refine callG_X (by first | rfl | (simp only [go_sem]; done) | (simp only [closedL, closedT, Bool.and_true]; exact closedL_map _ (fun _ => by first | rfl | (simp only [go_sem]; done)) _)) (F58_ok n (a0.tmod (10 : Int)) _ h22) (by repeat (first | exact leL_refl _ | refine leL_cons (by first | exact leT_refl _ | exact leT_virt | exact leT_junk _ | exact leT_sl | exact leT_sln | exact leT_nil | (refine leT_agg (by repeat (first | exact leL_refl _ | refine leL_cons (by first | exact leT_refl _ | exact leT_sl | exact leT_sln | exact leT_nil) ?_)))) ?_)) ?_
          obtain ⟨g23, h⟩ := grd_some h
          try simp -implicitDefEqProofs (maxSteps := 4000000) (disch := first | omega | decide | (simp only [go_sem]; omega)) only [go_sem, ↓reduceIte]
          repeat (with_reducible refine And.intro (by first | assumption | omega | (simp; done) | (simp; omega)) ?_)
          refine toEnd hC ?_
          refine endX_seq ?_
          refine runX_ret ?_
          refine endX_q ?_
          obtain rfl := Option.some.inj h
          show RetW _ _ _ _ _
          simp only [RetW]
          (try simp -implicitDefEqProofs (maxSteps := 4000000) (disch := first | omega | decide | (simp only [go_sem]; omega)) only [go_sem, ↓reduceIte])
          (try simp (disch := omega) only [if_pos, Nat.sub_zero])
          exact leT_refl _
theorem F22_ok : ∀ (n : Nat) (a0 : Int) (r : List UInt8), F22 n a0 = some r → FnC Try.prog 22 [.imm (.int .i64 a0)] (.imm (.string (bs r))) := fun n => F22_okB n n (Nat.le_refl n)
end Go.Proofs.YtaiapalhdejngaaX

set_option linter.unusedVariables false
set_option linter.unusedSimpArgs false
namespace Go.Proofs.YtaiapalhdejngaaX
open Go Go.RowKit Go.Proofs
set_option maxRecDepth 100000
attribute [local go_sem ↓] stepsK_build stepsK_build0 stepsK_bs stepsK_bs0 appendS
attribute [local go_sem] String.reduceEq String.reduceNe reduceCtorEq Int.reduceEq Nat.reduceAdd Nat.reduceSub Nat.reduceMul Nat.reduceLT Nat.reduceLeDiff Nat.reduceEqDiff Nat.reduceBEq Int.reduceToNat Int.reduceLT Int.reduceLE Int.reduceGT Int.reduceGE Int.reduceAdd Int.reduceSub Int.reduceMul Int.reduceNeg Int.reduceBEq Int.reduceBNe Int.reducePow Int.reduceDiv Int.reduceMod Int.reduceTDiv Int.reduceTMod Int.reduceNatCast
/-! ### shadowboxref04.Kind -/
def F71 (n : Nat) (a0 : Int) : Option (Int) := iteB (decide ((48 : Int) ≤ a0)) (iteB (decide (a0 ≤ (57 : Int))) (some (1 : Int)) (iteB (decide ((97 : Int) ≤ a0)) (iteB (decide (a0 ≤ (102 : Int))) (some (2 : Int)) (iteB (decide ((103 : Int) ≤ a0)) (iteB (decide (a0 ≤ (122 : Int))) (some (3 : Int)) (iteB (decide ((65 : Int) ≤ a0)) (iteB (decide (a0 ≤ (90 : Int))) (some (4 : Int)) (some (0 : Int))) (some (0 : Int)))) (iteB (decide ((65 : Int) ≤ a0)) (iteB (decide (a0 ≤ (90 : Int))) (some (4 : Int)) (some (0 : Int))) (some (0 : Int))))) (iteB (decide ((103 : Int) ≤ a0)) (iteB (decide (a0 ≤ (122 : Int))) (some (3 : Int)) (iteB (decide ((65 : Int) ≤ a0)) (iteB (decide (a0 ≤ (90 : Int))) (some (4 : Int)) (some (0 : Int))) (some (0 : Int)))) (iteB (decide ((65 : Int) ≤ a0)) (iteB (decide (a0 ≤ (90 : Int))) (some (4 : Int)) (some (0 : Int))) (some (0 : Int)))))) (iteB (decide ((97 : Int) ≤ a0)) (iteB (decide (a0 ≤ (102 : Int))) (some (2 : Int)) (iteB (decide ((103 : Int) ≤ a0)) (iteB (decide (a0 ≤ (122 : Int))) (some (3 : Int)) (iteB (decide ((65 : Int) ≤ a0)) (iteB (decide (a0 ≤ (90 : Int))) (some (4 : Int)) (some (0 : Int))) (some (0 : Int)))) (iteB (decide ((65 : Int) ≤ a0)) (iteB (decide (a0 ≤ (90 : Int))) (some (4 : Int)) (some (0 : Int))) (some (0 : Int))))) (iteB (decide ((103 : Int) ≤ a0)) (iteB (decide (a0 ≤ (122 : Int))) (some (3 : Int)) (iteB (decide ((65 : Int) ≤ a0)) (iteB (decide (a0 ≤ (90 : Int))) (some (4 : Int)) (some (0 : Int))) (some (0 : Int)))) (iteB (decide ((65 : Int) ≤ a0)) (iteB (decide (a0 ≤ (90 : Int))) (some (4 : Int)) (some (0 : Int))) (some (0 : Int)))))
set_option maxHeartbeats 4000000 in
theorem F71_ok : ∀ (n : Nat) (a0 : Int) (r : Int), F71 n a0 = some r → FnC Try.prog 71 [.imm (.int .u8 a0)] (.imm (.int .i64 r))
  | n, a0, r, h => by
    unfold F71 at h
    refine FnC.goX mixed Try.func71 (by kernel_rfl) rfl ?_
    simp only [Try.ntmps71, List.length_cons, List.length_nil, List.replicate, List.cons_append, List.nil_append, Nat.reduceAdd, Nat.reduceSub]
    refine runX_seq ?_
    refine runX_regionC fun C hC => ?_
    try simp -implicitDefEqProofs (maxSteps := 4000000) (disch := first | omega | decide | (simp only [go_sem]; omega)) only [go_sem, ↓reduceIte]
    repeat (with_reducible refine And.intro (by first | assumption | omega | (simp; done) | (simp; omega)) ?_)
    refine toEnd hC ?_
    refine endX_seq ?_
    refine runX_seq ?_
    refine runX_seq ?_
    refine runX_regionC fun C hC => ?_
    try simp -implicitDefEqProofs (maxSteps := 4000000) (disch := first | omega | decide | (simp only [go_sem]; omega)) only [go_sem, ↓reduceIte]
    repeat (with_reducible refine And.intro (by first | assumption | omega | (simp; done) | (simp; omega)) ?_)
    rcases iteB_some h with ⟨c1, h⟩ | ⟨c1, h⟩
    · refine guardK_T c1 ?_
      try simp -implicitDefEqProofs (maxSteps := 4000000) (disch := first | omega | decide | (simp only [go_sem]; omega)) only [go_sem, ↓reduceIte]
      repeat (with_reducible refine And.intro (by first | assumption | omega | (simp; done) | (simp; omega)) ?_)
      refine toEnd hC ?_
      refine endX_seq ?_
      rcases iteB_some h with ⟨c2, h⟩ | ⟨c2, h⟩
      · refine runX_condT rfl c2 ?_
        refine runX_seq ?_
        refine runX_regionC fun C hC => ?_
        try simp -implicitDefEqProofs (maxSteps := 4000000) (disch := first | omega | decide | (simp only [go_sem]; omega)) only [go_sem, ↓reduceIte]
        repeat (with_reducible refine And.intro (by first | assumption | omega | (simp; done) | (simp; omega)) ?_)
        refine toEnd hC ?_
        refine endX_seq ?_
        refine runX_ret ?_
        refine endX_seqR ?_
        refine endX_q ?_
        obtain rfl := Option.some.inj h
        show RetW _ _ _ _ _
        simp only [RetW]
        (try simp -implicitDefEqProofs (maxSteps := 4000000) (disch := first | omega | decide | (simp only [go_sem]; omega)) only [go_sem, ↓reduceIte])
        (try simp (disch := omega) only [if_pos, Nat.sub_zero])
        exact leT_refl _
      · refine runX_condF rfl c2 ?_
        refine runX_skip ?_
        refine endX_seq ?_
        refine runX_seq ?_
        refine runX_seq ?_
        refine runX_regionC fun C hC => ?_
        try simp -implicitDefEqProofs (maxSteps := 4000000) (disch := first | omega | decide | (simp only [go_sem]; omega)) only [go_sem, ↓reduceIte]
        repeat (with_reducible refine And.intro (by first | assumption | omega | (simp; done) | (simp; omega)) ?_)
        rcases iteB_some h with ⟨c3, h⟩ | ⟨c3, h⟩
        · refine guardK_T c3 ?_
          try simp -implicitDefEqProofs (maxSteps := 4000000) (disch := first | omega | decide | (simp only [go_sem]; omega)) only [go_sem, ↓reduceIte]
          repeat (with_reducible refine And.intro (by first | assumption | omega | (simp; done) | (simp; omega)) ?_)
          refine toEnd hC ?_
          refine endX_seq ?_
          rcases iteB_some h with ⟨c4, h⟩ | ⟨c4, h⟩
          · refine runX_condT rfl c4 ?_
            refine runX_seq ?_
            refine runX_regionC fun C hC => ?_
            try simp -implicitDefEqProofs (maxSteps := 4000000) (disch := first | omega | decide | (simp only [go_sem]; omega)) only [go_sem, ↓reduceIte]
            repeat (with_reducible refine And.intro (by first | assumption | omega | (simp; done) | (simp; omega)) ?_)
            refine toEnd hC ?_
            refine endX_seq ?_
            refine runX_ret ?_
            refine endX_seqR ?_
            refine endX_q ?_
            obtain rfl := Option.some.inj h
            show RetW _ _ _ _ _
            simp only [RetW]
            (try simp -implicitDefEqProofs (maxSteps := 4000000) (disch := first | omega | decide | (simp only [go_sem]; omega)) only [go_sem, ↓reduceIte])
            (try simp (disch := omega) only [if_pos, Nat.sub_zero])
            exact leT_refl _
          · refine runX_condF rfl c4 ?_
            refine runX_skip ?_
            refine endX_seq ?_
            refine runX_seq ?_
            refine runX_seq ?_
            refine runX_regionC fun C hC => ?_
            try simp -implicitDefEqProofs (maxSteps := 4000000) (disch := first | omega | decide | (simp only [go_sem]; omega)) only [go_sem, ↓reduceIte]
            repeat (with_reducible refine And.intro (by first | assumption | omega | (simp; done) | (simp; omega)) ?_)
            rcases iteB_some h with ⟨c5, h⟩ | ⟨c5, h⟩
            · refine guardK_T c5 ?_
              try simp -implicitDefEqProofs (maxSteps := 4000000) (disch := first | omega | decide | (simp only [go_sem]; omega)) only [go_sem, ↓reduceIte]
              repeat (with_reducible refine And.intro (by first | assumption | omega | (simp; done) | (simp; omega)) ?_)
              refine toEnd hC ?_
              refine endX_seq ?_
              rcases iteB_some h with ⟨c6, h⟩ | ⟨c6, h⟩
              · refine runX_condT rfl c6 ?_
                refine runX_seq ?_
                refine runX_regionC fun C hC => ?_
                try simp -implicitDefEqProofs (maxSteps := 4000000) (disch := first | omega | decide | (simp only [go_sem]; omega)) only [go_sem, ↓reduceIte]
                repeat (with_reducible refine And.intro (by first | assumption | omega | (simp; done) | (simp; omega)) ?_)
                refine toEnd hC ?_
                refine endX_seq ?_
                refine runX_ret ?_
                refine endX_seqR ?_
                refine endX_q ?_
                obtain rfl := Option.some.inj h
                show RetW _ _ _ _ _
                simp only [RetW]
                (try simp -implicitDefEqProofs (maxSteps := 4000000) (disch := first | omega | decide | (simp only [go_sem]; omega)) only [go_sem, ↓reduceIte])
                (try simp (disch := omega) only [if_pos, Nat.sub_zero])
                exact leT_refl _
              · refine runX_condF rfl c6 ?_
                refine runX_skip ?_
                refine endX_seq ?_
                refine runX_seq ?_
                refine runX_seq ?_
                refine runX_regionC fun C hC => ?_
                try simp -implicitDefEqProofs (maxSteps := 4000000) (disch := first | omega | decide | (simp only [go_sem]; omega)) only [go_sem, ↓reduceIte]
                repeat (with_reducible refine And.intro (by first | assumption | omega | (simp; done) | (simp; omega)) ?_)
                rcases iteB_some h with ⟨c7, h⟩ | ⟨c7, h⟩
                · refine guardK_T c7 ?_
                  try simp -implicitDefEqProofs (maxSteps := 4000000) (disch := first | omega | decide | (simp only [go_sem]; omega)) only [go_sem, ↓reduceIte]
                  repeat (with_reducible refine And.intro (by first | assumption | omega | (simp; done) | (simp; omega)) ?_)
                  refine toEnd hC ?_
                  refine endX_seq ?_
                  rcases iteB_some h with ⟨c8, h⟩ | ⟨c8, h⟩
                  · refine runX_condT rfl c8 ?_
                    refine runX_seq ?_
                    refine runX_regionC fun C hC => ?_
                    try simp -implicitDefEqProofs (maxSteps := 4000000) (disch := first | omega | decide | (simp only [go_sem]; omega)) only [go_sem, ↓reduceIte]
                    repeat (with_reducible refine And.intro (by first | assumption | omega | (simp; done) | (simp; omega)) ?_)
                    refine toEnd hC ?_
                    refine endX_seq ?_
                    refine runX_ret ?_
                    refine endX_seqR ?_
                    refine endX_q ?_
                    obtain rfl := Option.some.inj h
                    show RetW _ _ _ _ _
                    simp only [RetW]
                    (try simp -implicitDefEqProofs (maxSteps := 4000000) (disch := first | omega | decide | (simp only [go_sem]; omega)) only [go_sem, ↓reduceIte])
                    (try simp (disch := omega) only [if_pos, Nat.sub_zero])
                    exact leT_refl _
                  · refine runX_condF rfl c8 ?_
                    refine runX_skip ?_
                    refine endX_seq ?_
                    refine runX_seq ?_
                    refine runX_regionC fun C hC => ?_
                    try simp -implicitDefEqProofs (maxSteps := 4000000) (disch := first | omega | decide | (simp only [go_sem]; omega)) only [go_sem, ↓reduceIte]
                    repeat (with_reducible refine And.intro (by first | assumption | omega | (simp; done) | (simp; omega)) ?_)
                    refine toEnd hC ?_
                    refine endX_seq ?_
                    refine runX_ret ?_
                    refine endX_q ?_
                    obtain rfl := Option.some.inj h
                    show RetW _ _ _ _ _
                    simp only [RetW]
                    (try simp -implicitDefEqProofs (maxSteps := 4000000) (disch := first | omega | decide | (simp only [go_sem]; omega)) only [go_sem, ↓reduceIte])
                    (try simp (disch := omega) only [if_pos, Nat.sub_zero])
                    exact leT_refl _
                · refine guardK_F c7 ?_
                  try simp -implicitDefEqProofs (maxSteps := 4000000) (disch := first | omega | decide | (simp only [go_sem]; omega)) only [go_sem, ↓reduceIte]
                  repeat (with_reducible refine And.intro (by first | assumption | omega | (simp; done) | (simp; omega)) ?_)
                  refine toEnd hC ?_
                  refine endX_seq ?_
                  refine runX_condF rfl rfl ?_
                  refine runX_skip ?_
                  refine endX_seq ?_
                  refine runX_seq ?_
                  refine runX_regionC fun C hC => ?_
                  try simp -implicitDefEqProofs (maxSteps := 4000000) (disch := first | omega | decide | (simp only [go_sem]; omega)) only [go_sem, ↓reduceIte]
                  repeat (with_reducible refine And.intro (by first | assumption | omega | (simp; done) | (simp; omega)) ?_)
                  refine toEnd hC ?_
                  refine endX_seq ?_
                  refine runX_ret ?_
                  refine endX_q ?_
                  obtain rfl := Option.some.inj h
                  show RetW _ _ _ _ _
                  simp only [RetW]
                  (try simp -implicitDefEqProofs (maxSteps := 4000000) (disch := first | omega | decide | (simp only [go_sem]; omega)) only [go_sem, ↓reduceIte])
                  (try simp (disch := omega) only [if_pos, Nat.sub_zero])
                  exact leT_refl _
            · refine guardK_F c5 ?_
              try simp -implicitDefEqProofs (maxSteps := 4000000) (disch := first | omega | decide | (simp only [go_sem]; omega)) only [go_sem, ↓reduceIte]
              repeat (with_reducible refine And.intro (by first | assumption | omega | (simp; done) | (simp; omega)) ?_)
              refine toEnd hC ?_
              refine endX_seq ?_
              refine runX_condF rfl rfl ?_
              refine runX_skip ?_
              refine endX_seq ?_
              refine runX_seq ?_
              refine runX_seq ?_
              refine runX_regionC fun C hC => ?_
              try simp -implicitDefEqProofs (maxSteps := 4000000) (disch := first | omega | decide | (simp only [go_sem]; omega)) only [go_sem, ↓reduceIte]
              repeat (with_reducible refine And.intro (by first | assumption | omega | (simp; done) | (simp; omega)) ?_)
              rcases iteB_some h with ⟨c9, h⟩ | ⟨c9, h⟩
              · refine guardK_T c9 ?_
                try simp -implicitDefEqProofs (maxSteps := 4000000) (disch := first | omega | decide | (simp only [go_sem]; omega)) only [go_sem, ↓reduceIte]
                repeat (with_reducible refine And.intro (by first | assumption | omega | (simp; done) | (simp; omega)) ?_)
                refine toEnd hC ?_
                refine endX_seq ?_
                rcases iteB_some h with ⟨c10, h⟩ | ⟨c10, h⟩
                · refine runX_condT rfl c10 ?_
                  refine runX_seq ?_
                  refine runX_regionC fun C hC => ?_
                  try simp -implicitDefEqProofs (maxSteps := 4000000) (disch := first | omega | decide | (simp only [go_sem]; omega)) only [go_sem, ↓reduceIte]
                  repeat (with_reducible refine And.intro (by first | assumption | omega | (simp; done) | (simp; omega)) ?_)
                  refine toEnd hC ?_
                  refine endX_seq ?_
                  refine runX_ret ?_
                  refine endX_seqR ?_
                  refine endX_q ?_
                  obtain rfl := Option.some.inj h
                  show RetW _ _ _ _ _
                  simp only [RetW]
                  (try simp -implicitDefEqProofs (maxSteps := 4000000) (disch := first | omega | decide | (simp only [go_sem]; omega)) only [go_sem, ↓reduceIte])
                  (try simp (disch := omega) only [if_pos, Nat.sub_zero])
                  exact leT_refl _
                · refine runX_condF rfl c10 ?_
                  refine runX_skip ?_
                  refine endX_seq ?_
                  refine runX_seq ?_
                  refine runX_regionC fun C hC => ?_
                  try simp -implicitDefEqProofs (maxSteps := 4000000) (disch := first | omega | decide | (simp only [go_sem]; omega)) only [go_sem, ↓reduceIte]
                  repeat (with_reducible refine And.intro (by first | assumption | omega | (simp; done) | (simp; omega)) ?_)
                  refine toEnd hC ?_
                  refine endX_seq ?_
                  refine runX_ret ?_
                  refine endX_q ?_
                  obtain rfl := Option.some.inj h
                  show RetW _ _ _ _ _
                  simp only [RetW]
                  (try simp -implicitDefEqProofs (maxSteps := 4000000) (disch := first | omega | decide | (simp only [go_sem]; omega)) only [go_sem, ↓reduceIte])
                  (try simp (disch := omega) only [if_pos, Nat.sub_zero])
                  exact leT_refl _
              · refine guardK_F c9 ?_
                try simp -implicitDefEqProofs (maxSteps := 4000000) (disch := first | omega | decide | (simp only [go_sem]; omega)) only [go_sem, ↓reduceIte]
                repeat (with_reducible refine And.intro (by first | assumption | omega | (simp; done) | (simp; omega)) ?_)
                refine toEnd hC ?_
                refine endX_seq ?_
                refine runX_condF rfl rfl ?_
                refine runX_skip ?_
                refine endX_seq ?_
                refine runX_seq ?_
                refine runX_regionC fun C hC => ?_
                try simp -implicitDefEqProofs (maxSteps := 4000000) (disch := first | omega | decide | (simp only [go_sem]; omega)) only [go_sem, ↓reduceIte]
                repeat (with_reducible refine And.intro (by first | assumption | omega | (simp; done) | (simp; omega)) ?_)
                refine toEnd hC ?_
                refine endX_seq ?_
                refine runX_ret ?_
                refine endX_q ?_
                obtain rfl := Option.some.inj h
                show RetW _ _ _ _ _
                simp only [RetW]
                (try simp -implicitDefEqProofs (maxSteps := 4000000) (disch := first | omega | decide | (simp only [go_sem]; omega)) only [go_sem, ↓reduceIte])
                (try simp (disch := omega) only [if_pos, Nat.sub_zero])
                exact leT_refl _
        · refine guardK_F c3 ?_
          try simp -implicitDefEqProofs (maxSteps := 4000000) (disch := first | omega | decide | (simp only [go_sem]; omega)) only [go_sem, ↓reduceIte]
          repeat (with_reducible refine And.intro (by first | assumption | omega | (simp; done) | (simp; omega)) ?_)
          refine toEnd hC ?_
          refine endX_seq ?_
          refine runX_condF rfl rfl ?_
          refine runX_skip ?_
          refine endX_seq ?_
          refine runX_seq ?_
          refine runX_seq ?_
          refine runX_regionC fun C hC => ?_
          try simp -implicitDefEqProofs (maxSteps := 4000000) (disch := first | omega | decide | (simp only [go_sem]; omega)) only [go_sem, ↓reduceIte]
          repeat (with_reducible refine And.intro (by first | assumption | omega | (simp; done) | (simp; omega)) ?_)
          rcases iteB_some h with ⟨c11, h⟩ | ⟨c11, h⟩
          · refine guardK_T c11 ?_
            try simp -implicitDefEqProofs (maxSteps := 4000000) (disch := first | omega | decide | (simp only [go_sem]; omega)) only [go_sem, ↓reduceIte]
            repeat (with_reducible refine And.intro (by first | assumption | omega | (simp; done) | (simp; omega)) ?_)
            refine toEnd hC ?_
            refine endX_seq ?_
            rcases iteB_some h with ⟨c12, h⟩ | ⟨c12, h⟩
            · refine runX_condT rfl c12 ?_
              refine runX_seq ?_
              refine runX_regionC fun C hC => ?_
              try simp -implicitDefEqProofs (maxSteps := 4000000) (disch := first | omega | decide | (simp only [go_sem]; omega)) only [go_sem, ↓reduceIte]
              repeat (with_reducible refine And.intro (by first | assumption | omega | (simp; done) | (simp; omega)) ?_)
              refine toEnd hC ?_
              refine endX_seq ?_
              refine runX_ret ?_
              refine endX_seqR ?_
              refine endX_q ?_
              obtain rfl := Option.some.inj h
              show RetW _ _ _ _ _
              simp only [RetW]
              (try simp -implicitDefEqProofs (maxSteps := 4000000) (disch := first | omega | decide | (simp only [go_sem]; omega)) only [go_sem, ↓reduceIte])
              (try simp (disch := omega) only [if_pos, Nat.sub_zero])
              exact leT_refl _
            · refine runX_condF rfl c12 ?_
              refine runX_skip ?_
              refine endX_seq ?_
              refine runX_seq ?_
              refine runX_seq ?_
              refine runX_regionC fun C hC => ?_
              try simp -implicitDefEqProofs (maxSteps := 4000000) (disch := first | omega | decide | (simp only [go_sem]; omega)) only [go_sem, ↓reduceIte]
              repeat (with_reducible refine And.intro (by first | assumption | omega | (simp; done) | (simp; omega)) ?_)
              rcases iteB_some h with ⟨c13, h⟩ | ⟨c13, h⟩
              · refine guardK_T c13 ?_
                try simp -implicitDefEqProofs (maxSteps := 4000000) (disch := first | omega | decide | (simp only [go_sem]; omega)) only [go_sem, ↓reduceIte]
                repeat (with_reducible refine And.intro (by first | assumption | omega | (simp; done) | (simp; omega)) ?_)
                refine toEnd hC ?_
                refine endX_seq ?_
                rcases iteB_some h with ⟨c14, h⟩ | ⟨c14, h⟩
                · refine runX_condT rfl c14 ?_
                  refine runX_seq ?_
                  refine runX_regionC fun C hC => ?_
                  try simp -implicitDefEqProofs (maxSteps := 4000000) (disch := first | omega | decide | (simp only [go_sem]; omega)) only [go_sem, ↓reduceIte]
                  repeat (with_reducible refine And.intro (by first | assumption | omega | (simp; done) | (simp; omega)) ?_)
                  refine toEnd hC ?_
                  refine endX_seq ?_
                  refine runX_ret ?_
                  refine endX_seqR ?_
                  refine endX_q ?_
                  obtain rfl := Option.some.inj h
                  show RetW _ _ _ _ _
                  simp only [RetW]
                  (try simp -implicitDefEqProofs (maxSteps := 4000000) (disch := first | omega | decide | (simp only [go_sem]; omega)) only [go_sem, ↓reduceIte])
                  (try simp (disch := omega) only [if_pos, Nat.sub_zero])
                  exact leT_refl _
                · refine runX_condF rfl c14 ?_
                  refine runX_skip ?_
                  refine endX_seq ?_
                  refine runX_seq ?_
                  refine runX_regionC fun C hC => ?_
                  try simp -implicitDefEqProofs (maxSteps := 4000000) (disch := first | omega | decide | (simp only [go_sem]; omega)) only [go_sem, ↓reduceIte]
                  repeat (with_reducible refine And.intro (by first | assumption | omega | (simp; done) | (simp; omega)) ?_)
                  refine toEnd hC ?_
                  refine endX_seq ?_
                  refine runX_ret ?_
                  refine endX_q ?_
                  obtain rfl := Option.some.inj h
                  show RetW _ _ _ _ _
                  simp only [RetW]
                  (try simp -implicitDefEqProofs (maxSteps := 4000000) (disch := first | omega | decide | (simp only [go_sem]; omega)) only [go_sem, ↓reduceIte])
                  (try simp (disch := omega) only [if_pos, Nat.sub_zero])
                  exact leT_refl _
              · refine guardK_F c13 ?_
                try simp -implicitDefEqProofs (maxSteps := 4000000) (disch := first | omega | decide | (simp only [go_sem]; omega)) only [go_sem, ↓reduceIte]
                repeat (with_reducible refine And.intro (by first | assumption | omega | (simp; done) | (simp; omega)) ?_)
                refine toEnd hC ?_
                refine endX_seq ?_
                refine runX_condF rfl rfl ?_
                refine runX_skip ?_
                refine endX_seq ?_
                refine runX_seq ?_
                refine runX_regionC fun C hC => ?_
                try simp -implicitDefEqProofs (maxSteps := 4000000) (disch := first | omega | decide | (simp only [go_sem]; omega)) only [go_sem, ↓reduceIte]
                repeat (with_reducible refine And.intro (by first | assumption | omega | (simp; done) | (simp; omega)) ?_)
                refine toEnd hC ?_
                refine endX_seq ?_
                refine runX_ret ?_
                refine endX_q ?_
                obtain rfl := Option.some.inj h
                show RetW _ _ _ _ _
                simp only [RetW]
                (try simp -implicitDefEqProofs (maxSteps := 4000000) (disch := first | omega | decide | (simp only [go_sem]; omega)) only [go_sem, ↓reduceIte])
                (try simp (disch := omega) only [if_pos, Nat.sub_zero])
                exact leT_refl _
          · refine guardK_F c11 ?_
            try simp -implicitDefEqProofs (maxSteps := 4000000) (disch := first | omega | decide | (simp only [go_sem]; omega)) only [go_sem, ↓reduceIte]
            repeat (with_reducible refine And.intro (by first | assumption | omega | (simp; done) | (simp; omega)) ?_)
            refine toEnd hC ?_
            refine endX_seq ?_
            refine runX_condF rfl rfl ?_
            refine runX_skip ?_
            refine endX_seq ?_
            refine runX_seq ?_
            refine runX_seq ?_
            refine runX_regionC fun C hC => ?_
            try simp -implicitDefEqProofs (maxSteps := 4000000) (disch := first | omega | decide | (simp only [go_sem]; omega)) only [go_sem, ↓reduceIte]
            repeat (with_reducible refine And.intro (by first | assumption | omega | (simp; done) | (simp; omega)) ?_)
            rcases iteB_some h with ⟨c15, h⟩ | ⟨c15, h⟩
            · refine guardK_T c15 ?_
              try simp -implicitDefEqProofs (maxSteps := 4000000) (disch := first | omega | decide | (simp only [go_sem]; omega)) only [go_sem, ↓reduceIte]
              repeat (with_reducible refine And.intro (by first | assumption | omega | (simp; done) | (simp; omega)) ?_)
              refine toEnd hC ?_
              refine endX_seq ?_
              rcases iteB_some h with ⟨c16, h⟩ | ⟨c16, h⟩
              · refine runX_condT rfl c16 ?_
                refine runX_seq ?_
                refine runX_regionC fun C hC => ?_
                try simp -implicitDefEqProofs (maxSteps := 4000000) (disch := first | omega | decide | (simp only [go_sem]; omega)) only [go_sem, ↓reduceIte]
                repeat (with_reducible refine And.intro (by first | assumption | omega | (simp; done) | (simp; omega)) ?_)
                refine toEnd hC ?_
                refine endX_seq ?_
                refine runX_ret ?_
                refine endX_seqR ?_
                refine endX_q ?_
                obtain rfl := Option.some.inj h
                show RetW _ _ _ _ _
                simp only [RetW]
                (try simp -implicitDefEqProofs (maxSteps := 4000000) (disch := first | omega | decide | (simp only [go_sem]; omega)) only [go_sem, ↓reduceIte])
                (try simp (disch := omega) only [if_pos, Nat.sub_zero])
                exact leT_refl _
              · refine runX_condF rfl c16 ?_
                refine runX_skip ?_
                refine endX_seq ?_
                refine runX_seq ?_
                refine runX_regionC fun C hC => ?_
                try simp -implicitDefEqProofs (maxSteps := 4000000) (disch := first | omega | decide | (simp only [go_sem]; omega)) only [go_sem, ↓reduceIte]
                repeat (with_reducible refine And.intro (by first | assumption | omega | (simp; done) | (simp; omega)) ?_)
                refine toEnd hC ?_
                refine endX_seq ?_
                refine runX_ret ?_
                refine endX_q ?_
                obtain rfl := Option.some.inj h
                show RetW _ _ _ _ _
                simp only [RetW]
                (try simp -implicitDefEqProofs (maxSteps := 4000000) (disch := first | omega | decide | (simp only [go_sem]; omega)) only [go_sem, ↓reduceIte])
                (try simp (disch := omega) only [if_pos, Nat.sub_zero])
                exact leT_refl _
            · refine guardK_F c15 ?_
              try simp -implicitDefEqProofs (maxSteps := 4000000) (disch := first | omega | decide | (simp only [go_sem]; omega)) only [go_sem, ↓reduceIte]
              repeat (with_reducible refine And.intro (by first | assumption | omega | (simp; done) | (simp; omega)) ?_)
              refine toEnd hC ?_
              refine endX_seq ?_
              refine runX_condF rfl rfl ?_
              refine runX_skip ?_
              refine endX_seq ?_
              refine runX_seq ?_
              refine runX_regionC fun C hC => ?_
              try simp -implicitDefEqProofs (maxSteps := 4000000) (disch := first | omega | decide | (simp only [go_sem]; omega)) only [go_sem, ↓reduceIte]
              repeat (with_reducible refine And.intro (by first | assumption | omega | (simp; done) | (simp; omega)) ?_)
              refine toEnd hC ?_
              refine endX_seq ?_
              refine runX_ret ?_
              refine endX_q ?_
              obtain rfl := Option.some.inj h
              show RetW _ _ _ _ _
              simp only [RetW]
              (try simp -implicitDefEqProofs (maxSteps := 4000000) (disch := first | omega | decide | (simp only [go_sem]; omega)) only [go_sem, ↓reduceIte])
              (try simp (disch := omega) only [if_pos, Nat.sub_zero])
              exact leT_refl _
    · refine guardK_F c1 ?_
      try simp -implicitDefEqProofs (maxSteps := 4000000) (disch := first | omega | decide | (simp only [go_sem]; omega)) only [go_sem, ↓reduceIte]
      repeat (with_reducible refine And.intro (by first | assumption | omega | (simp; done) | (simp; omega)) ?_)
      refine toEnd hC ?_
      refine endX_seq ?_
      refine runX_condF rfl rfl ?_
      refine runX_skip ?_
      refine endX_seq ?_
      refine runX_seq ?_
      refine runX_seq ?_
      refine runX_regionC fun C hC => ?_
      try simp -implicitDefEqProofs (maxSteps := 4000000) (disch := first | omega | decide | (simp only [go_sem]; omega)) only [go_sem, ↓reduceIte]
      repeat (with_reducible refine And.intro (by first | assumption | omega | (simp; done) | (simp; omega)) ?_)
      rcases iteB_some h with ⟨c17, h⟩ | ⟨c17, h⟩
      · refine guardK_T c17 ?_
        try simp -implicitDefEqProofs (maxSteps := 4000000) (disch := first | omega | decide | (simp only [go_sem]; omega)) only [go_sem, ↓reduceIte]
        repeat (with_reducible refine And.intro (by first | assumption | omega | (simp; done) | (simp; omega)) ?_)
        refine toEnd hC ?_
        refine endX_seq ?_
        rcases iteB_some h with ⟨c18, h⟩ | ⟨c18, h⟩
        · refine runX_condT rfl c18 ?_
          refine runX_seq ?_
          refine runX_regionC fun C hC => ?_
          try simp -implicitDefEqProofs (maxSteps := 4000000) (disch := first | omega | decide | (simp only [go_sem]; omega)) only [go_sem, ↓reduceIte]
          repeat (with_reducible refine And.intro (by first | assumption | omega | (simp; done) | (simp; omega)) ?_)
          refine toEnd hC ?_
          refine endX_seq ?_
          refine runX_ret ?_
          refine endX_seqR ?_
          refine endX_q ?_
          obtain rfl := Option.some.inj h
          show RetW _ _ _ _ _
          simp only [RetW]
          (try simp -implicitDefEqProofs (maxSteps := 4000000) (disch := first | omega | decide | (simp only [go_sem]; omega)) only [go_sem, ↓reduceIte])
          (try simp (disch := omega) only [if_pos, Nat.sub_zero])
          exact leT_refl _
        · refine runX_condF rfl c18 ?_
          refine runX_skip ?_
          refine endX_seq ?_
          refine runX_seq ?_
          refine runX_seq ?_
          refine runX_regionC fun C hC => ?_
          try simp -implicitDefEqProofs (maxSteps := 4000000) (disch := first | omega | decide | (simp only [go_sem]; omega)) only [go_sem, ↓reduceIte]
          repeat (with_reducible refine And.intro (by first | assumption | omega | (simp; done) | (simp; omega)) ?_)
          rcases iteB_some h with ⟨c19, h⟩ | ⟨c19, h⟩
          · refine guardK_T c19 ?_
            try simp -implicitDefEqProofs (maxSteps := 4000000) (disch := first | omega | decide | (simp only [go_sem]; omega)) only [go_sem, ↓reduceIte]
            repeat (with_reducible refine And.intro (by first | assumption | omega | (simp; done) | (simp; omega)) ?_)
            refine toEnd hC ?_
            refine endX_seq ?_
            rcases iteB_some h with ⟨c20, h⟩ | ⟨c20, h⟩
            · refine runX_condT rfl c20 ?_
              refine runX_seq ?_
              refine runX_regionC fun C hC => ?_
              try simp -implicitDefEqProofs (maxSteps := 4000000) (disch := first | omega | decide | (simp only [go_sem]; omega)) only [go_sem, ↓reduceIte]
              repeat (with_reducible refine And.intro (by first | assumption | omega | (simp; done) | (simp; omega)) ?_)
              refine toEnd hC ?_
              refine endX_seq ?_
              refine runX_ret ?_
              refine endX_seqR ?_
              refine endX_q ?_
              obtain rfl := Option.some.inj h
              show RetW _ _ _ _ _
              simp only [RetW]
              (try simp -implicitDefEqProofs (maxSteps := 4000000) (disch := first | omega | decide | (simp only [go_sem]; omega)) only [go_sem, ↓reduceIte])
              (try simp (disch := omega) only [if_pos, Nat.sub_zero])
              exact leT_refl _
            · refine runX_condF rfl c20 ?_
              refine runX_skip ?_
              refine endX_seq ?_
              refine runX_seq ?_
              refine runX_seq ?_
              refine runX_regionC fun C hC => ?_
              try simp -implicitDefEqProofs (maxSteps := 4000000) (disch := first | omega | decide | (simp only [go_sem]; omega)) only [go_sem, ↓reduceIte]
              repeat (with_reducible refine And.intro (by first | assumption | omega | (simp; done) | (simp; omega)) ?_)
              rcases iteB_some h with ⟨c21, h⟩ | ⟨c21, h⟩
              · refine guardK_T c21 ?_
                try simp -implicitDefEqProofs (maxSteps := 4000000) (disch := first | omega | decide | (simp only [go_sem]; omega)) only [go_sem, ↓reduceIte]
                repeat (with_reducible refine And.intro (by first | assumption | omega | (simp; done) | (simp; omega)) ?_)
                refine toEnd hC ?_
                refine endX_seq ?_
                rcases iteB_some h with ⟨c22, h⟩ | ⟨c22, h⟩
                · refine runX_condT rfl c22 ?_
                  refine runX_seq ?_
                  refine runX_regionC fun C hC => ?_
                  try simp -implicitDefEqProofs (maxSteps := 4000000) (disch := first | omega | decide | (simp only [go_sem]; omega)) only [go_sem, ↓reduceIte]
                  repeat (with_reducible refine And.intro (by first | assumption | omega | (simp; done) | (simp; omega)) ?_)
                  refine toEnd hC ?_
                  refine endX_seq ?_
                  refine runX_ret ?_
                  refine endX_seqR ?_
                  refine endX_q ?_
                  obtain rfl := Option.some.inj h
                  show RetW _ _ _ _ _
                  simp only [RetW]
                  (try simp -implicitDefEqProofs (maxSteps := 4000000) (disch := first | omega | decide | (simp only [go_sem]; omega)) only [go_sem, ↓reduceIte])
                  (try simp (disch := omega) only [if_pos, Nat.sub_zero])
                  exact leT_refl _
                · refine runX_condF rfl c22 ?_
                  refine runX_skip ?_
                  refine endX_seq ?_
                  refine runX_seq ?_
                  refine runX_regionC fun C hC => ?_
                  try simp -implicitDefEqProofs (maxSteps := 4000000) (disch := first | omega | decide | (simp only [go_sem]; omega)) only [go_sem, ↓reduceIte]
                  repeat (with_reducible refine And.intro (by first | assumption | omega | (simp; done) | (simp; omega)) ?_)
                  refine toEnd hC ?_
                  refine endX_seq ?_
                  refine runX_ret ?_
                  refine endX_q ?_
                  obtain rfl := Option.some.inj h
                  show RetW _ _ _ _ _
                  simp only [RetW]
                  (try simp -implicitDefEqProofs (maxSteps := 4000000) (disch := first | omega | decide | (simp only [go_sem]; omega)) only [go_sem, ↓reduceIte])
                  (try simp (disch := omega) only [if_pos, Nat.sub_zero])
                  exact leT_refl _
              · refine guardK_F c21 ?_
                try simp -implicitDefEqProofs (maxSteps := 4000000) (disch := first | omega | decide | (simp only [go_sem]; omega)) only [go_sem, ↓reduceIte]
                repeat (with_reducible refine And.intro (by first | assumption | omega | (simp; done) | (simp; omega)) ?_)
                refine toEnd hC ?_
                refine endX_seq ?_
                refine runX_condF rfl rfl ?_
                refine runX_skip ?_
                refine endX_seq ?_
                refine runX_seq ?_
                refine runX_regionC fun C hC => ?_
                try simp -implicitDefEqProofs (maxSteps := 4000000) (disch := first | omega | decide | (simp only [go_sem]; omega)) only [go_sem, ↓reduceIte]
                repeat (with_reducible refine And.intro (by first | assumption | omega | (simp; done) | (simp; omega)) ?_)
                refine toEnd hC ?_
                refine endX_seq ?_
                refine runX_ret ?_
                refine endX_q ?_
                obtain rfl := Option.some.inj h
                show RetW _ _ _ _ _
                simp only [RetW]
                (try simp -implicitDefEqProofs (maxSteps := 4000000) (disch := first | omega | decide | (simp only [go_sem]; omega)) only [go_sem, ↓reduceIte])
                (try simp (disch := omega) only [if_pos, Nat.sub_zero])
                exact leT_refl _
          · refine guardK_F c19 ?_
            try simp -implicitDefEqProofs (maxSteps := 4000000) (disch := first | omega | decide | (simp only [go_sem]; omega)) only [go_sem, ↓reduceIte]
            repeat (with_reducible refine And.intro (by first | assumption | omega | (simp; done) | (simp; omega)) ?_)
            refine toEnd hC ?_
            refine endX_seq ?_
            refine runX_condF rfl rfl ?_
            refine runX_skip ?_
            refine endX_seq ?_
            refine runX_seq ?_
            refine runX_seq ?_
            refine runX_regionC fun C hC => ?_
            try simp -implicitDefEqProofs (maxSteps := 4000000) (disch := first | omega | decide | (simp only [go_sem]; omega)) only [go_sem, ↓reduceIte]
            repeat (with_reducible refine And.intro (by first | assumption | omega | (simp; done) | (simp; omega)) ?_)
            rcases iteB_some h with ⟨c23, h⟩ | ⟨c23, h⟩
            · refine guardK_T c23 ?_
              try simp -implicitDefEqProofs (maxSteps := 4000000) (disch := first | omega | decide | (simp only [go_sem]; omega)) only [go_sem, ↓reduceIte]
              repeat (with_reducible refine And.intro (by first | assumption | omega | (simp; done) | (simp; omega)) ?_)
              refine toEnd hC ?_
              refine endX_seq ?_
              rcases iteB_some h with ⟨c24, h⟩ | ⟨c24, h⟩
              · refine runX_condT rfl c24 ?_
                refine runX_seq ?_
                refine runX_regionC fun C hC => ?_
                try simp -implicitDefEqProofs (maxSteps := 4000000) (disch := first | omega | decide | (simp only [go_sem]; omega)) only [go_sem, ↓reduceIte]
                repeat (with_reducible refine And.intro (by first | assumption | omega | (simp; done) | (simp; omega)) ?_)
                refine toEnd hC ?_
                refine endX_seq ?_
                refine runX_ret ?_
                refine endX_seqR ?_
                refine endX_q ?_
                obtain rfl := Option.some.inj h
                show RetW _ _ _ _ _
                simp only [RetW]
                (try simp -implicitDefEqProofs (maxSteps := 4000000) (disch := first | omega | decide | (simp only [go_sem]; omega)) only [go_sem, ↓reduceIte])
                (try simp (disch := omega) only [if_pos, Nat.sub_zero])
                exact leT_refl _
              · refine runX_condF rfl c24 ?_
                refine runX_skip ?_
                refine endX_seq ?_
                refine runX_seq ?_
                refine runX_regionC fun C hC => ?_
                try simp -implicitDefEqProofs (maxSteps := 4000000) (disch := first | omega | decide | (simp only [go_sem]; omega)) only [go_sem, ↓reduceIte]
                repeat (with_reducible refine And.intro (by first | assumption | omega | (simp; done) | (simp; omega)) ?_)
                refine toEnd hC ?_
                refine endX_seq ?_
                refine runX_ret ?_
                refine endX_q ?_
                obtain rfl := Option.some.inj h
                show RetW _ _ _ _ _
                simp only [RetW]
                (try simp -implicitDefEqProofs (maxSteps := 4000000) (disch := first | omega | decide | (simp only [go_sem]; omega)) only [go_sem, ↓reduceIte])
                (try simp (disch := omega) only [if_pos, Nat.sub_zero])
                exact leT_refl _
            · refine guardK_F c23 ?_
              try simp -implicitDefEqProofs (maxSteps := 4000000) (disch := first | omega | decide | (simp only [go_sem]; omega)) only [go_sem, ↓reduceIte]
              repeat (with_reducible refine And.intro (by first | assumption | omega | (simp; done) | (simp; omega)) ?_)
              refine toEnd hC ?_
              refine endX_seq ?_
              refine runX_condF rfl rfl ?_
              refine runX_skip ?_
              refine endX_seq ?_
              refine runX_seq ?_
              refine runX_regionC fun C hC => ?_
              try simp -implicitDefEqProofs (maxSteps := 4000000) (disch := first | omega | decide | (simp only [go_sem]; omega)) only [go_sem, ↓reduceIte]
              repeat (with_reducible refine And.intro (by first | assumption | omega | (simp; done) | (simp; omega)) ?_)
              refine toEnd hC ?_
              refine endX_seq ?_
              refine runX_ret ?_
              refine endX_q ?_
              obtain rfl := Option.some.inj h
              show RetW _ _ _ _ _
              simp only [RetW]
              (try simp -implicitDefEqProofs (maxSteps := 4000000) (disch := first | omega | decide | (simp only [go_sem]; omega)) only [go_sem, ↓reduceIte])
              (try simp (disch := omega) only [if_pos, Nat.sub_zero])
              exact leT_refl _
      · refine guardK_F c17 ?_
        try simp -implicitDefEqProofs (maxSteps := 4000000) (disch := first | omega | decide | (simp only [go_sem]; omega)) only [go_sem, ↓reduceIte]
        repeat (with_reducible refine And.intro (by first | assumption | omega | (simp; done) | (simp; omega)) ?_)
        refine toEnd hC ?_
        refine endX_seq ?_
        refine runX_condF rfl rfl ?_
        refine runX_skip ?_
        refine endX_seq ?_
        refine runX_seq ?_
        refine runX_seq ?_
        refine runX_regionC fun C hC => ?_
        try simp -implicitDefEqProofs (maxSteps := 4000000) (disch := first | omega | decide | (simp only [go_sem]; omega)) only [go_sem, ↓reduceIte]
        repeat (with_reducible refine And.intro (by first | assumption | omega | (simp; done) | (simp; omega)) ?_)
        rcases iteB_some h with ⟨c25, h⟩ | ⟨c25, h⟩
        · refine guardK_T c25 ?_
          try simp -implicitDefEqProofs (maxSteps := 4000000) (disch := first | omega | decide | (simp only [go_sem]; omega)) only [go_sem, ↓reduceIte]
          repeat (with_reducible refine And.intro (by first | assumption | omega | (simp; done) | (simp; omega)) ?_)
          refine toEnd hC ?_
          refine endX_seq ?_
          rcases iteB_some h with ⟨c26, h⟩ | ⟨c26, h⟩
          · refine runX_condT rfl c26 ?_
            refine runX_seq ?_
            refine runX_regionC fun C hC => ?_
            try simp -implicitDefEqProofs (maxSteps := 4000000) (disch := first | omega | decide | (simp only [go_sem]; omega)) only [go_sem, ↓reduceIte]
            repeat (with_reducible refine And.intro (by first | assumption | omega | (simp; done) | (simp; omega)) ?_)
            refine toEnd hC ?_
            refine endX_seq ?_
            refine runX_ret ?_
            refine endX_seqR ?_
            refine endX_q ?_
            obtain rfl := Option.some.inj h
            show RetW _ _ _ _ _
            simp only [RetW]
            (try simp -implicitDefEqProofs (maxSteps := 4000000) (disch := first | omega | decide | (simp only [go_sem]; omega)) only [go_sem, ↓reduceIte])
            (try simp (disch := omega) only [if_pos, Nat.sub_zero])
            exact leT_refl _
          · refine runX_condF rfl c26 ?_
            refine runX_skip ?_
            refine endX_seq ?_
            refine runX_seq ?_
            refine runX_seq ?_
            refine runX_regionC fun C hC => ?_
            try simp -implicitDefEqProofs (maxSteps := 4000000) (disch := first | omega | decide | (simp only [go_sem]; omega)) only [go_sem, ↓reduceIte]
            repeat (with_reducible refine And.intro (by first | assumption | omega | (simp; done) | (simp; omega)) ?_)
            rcases iteB_some h with ⟨c27, h⟩ | ⟨c27, h⟩
            · refine guardK_T c27 ?_
              try simp -implicitDefEqProofs (maxSteps := 4000000) (disch := first | omega | decide | (simp only [go_sem]; omega)) only [go_sem, ↓reduceIte]
              repeat (with_reducible refine And.intro (by first | assumption | omega | (simp; done) | (simp; omega)) ?_)
              refine toEnd hC ?_
              refine endX_seq ?_
              rcases iteB_some h with ⟨c28, h⟩ | ⟨c28, h⟩
              · refine runX_condT rfl c28 ?_
                refine runX_seq ?_
                refine runX_regionC fun C hC => ?_
                try simp -implicitDefEqProofs (maxSteps := 4000000) (disch := first | omega | decide | (simp only [go_sem]; omega)) only [go_sem, ↓reduceIte]
                repeat (with_reducible refine And.intro (by first | assumption | omega | (simp; done) | (simp; omega)) ?_)
                refine toEnd hC ?_
                refine endX_seq ?_
                refine runX_ret ?_
                refine endX_seqR ?_
                refine endX_q ?_
                obtain rfl := Option.some.inj h
                show RetW _ _ _ _ _
                simp only [RetW]
                (try simp -implicitDefEqProofs (maxSteps := 4000000) (disch := first | omega | decide | (simp only [go_sem]; omega)) only [go_sem, ↓reduceIte])
                (try simp (disch := omega) only [if_pos, Nat.sub_zero])
                exact leT_refl _
              · refine runX_condF rfl c28 ?_
                refine runX_skip ?_
                refine endX_seq ?_
                refine runX_seq ?_
                refine runX_regionC fun C hC => ?_
                try simp -implicitDefEqProofs (maxSteps := 4000000) (disch := first | omega | decide | (simp only [go_sem]; omega)) only [go_sem, ↓reduceIte]
                repeat (with_reducible refine And.intro (by first | assumption | omega | (simp; done) | (simp; omega)) ?_)
                refine toEnd hC ?_
                refine endX_seq ?_
                refine runX_ret ?_
                refine endX_q ?_
                obtain rfl := Option.some.inj h
                show RetW _ _ _ _ _
                simp only [RetW]
                (try simp -implicitDefEqProofs (maxSteps := 4000000) (disch := first | omega | decide | (simp only [go_sem]; omega)) only [go_sem, ↓reduceIte])
                (try simp (disch := omega) only [if_pos, Nat.sub_zero])
                exact leT_refl _
            · refine guardK_F c27 ?_
              try simp -implicitDefEqProofs (maxSteps := 4000000) (disch := first | omega | decide | (simp only [go_sem]; omega)) only [go_sem, ↓reduceIte]
              repeat (with_reducible refine And.intro (by first | assumption | omega | (simp; done) | (simp; omega)) ?_)
              refine toEnd hC ?_
              refine endX_seq ?_
              refine runX_condF rfl rfl ?_
              refine runX_skip ?_
              refine endX_seq ?_
              refine runX_seq ?_
              refine runX_regionC fun C hC => ?_
              try simp -implicitDefEqProofs (maxSteps := 4000000) (disch := first | omega | decide | (simp only [go_sem]; omega)) only [go_sem, ↓reduceIte]
              repeat (with_reducible refine And.intro (by first | assumption | omega | (simp; done) | (simp; omega)) ?_)
              refine toEnd hC ?_
              refine endX_seq ?_
              refine runX_ret ?_
              refine endX_q ?_
              obtain rfl := Option.some.inj h
              show RetW _ _ _ _ _
              simp only [RetW]
              (try simp -implicitDefEqProofs (maxSteps := 4000000) (disch := first | omega | decide | (simp only [go_sem]; omega)) only [go_sem, ↓reduceIte])
              (try simp (disch := omega) only [if_pos, Nat.sub_zero])
              exact leT_refl _
        · refine guardK_F c25 ?_
          try simp -implicitDefEqProofs (maxSteps := 4000000) (disch := first | omega | decide | (simp only [go_sem]; omega)) only [go_sem, ↓reduceIte]
          repeat (with_reducible refine And.intro (by first | assumption | omega | (simp; done) | (simp; omega)) ?_)
          refine toEnd hC ?_
          refine endX_seq ?_
          refine runX_condF rfl rfl ?_
          refine runX_skip ?_
          refine endX_seq ?_
          refine runX_seq ?_
          refine runX_seq ?_
          refine runX_regionC fun C hC => ?_
          try simp -implicitDefEqProofs (maxSteps := 4000000) (disch := first | omega | decide | (simp only [go_sem]; omega)) only [go_sem, ↓reduceIte]
          repeat (with_reducible refine And.intro (by first | assumption | omega | (simp; done) | (simp; omega)) ?_)
          rcases iteB_some h with ⟨c29, h⟩ | ⟨c29, h⟩
          · refine guardK_T c29 ?_
            try simp -implicitDefEqProofs (maxSteps := 4000000) (disch := first | omega | decide | (simp only [go_sem]; omega)) only [go_sem, ↓reduceIte]
            repeat (with_reducible refine And.intro (by first | assumption | omega | (simp; done) | (simp; omega)) ?_)
            refine toEnd hC ?_
            refine endX_seq ?_
            rcases iteB_some h with ⟨c30, h⟩ | ⟨c30, h⟩
            · refine runX_condT rfl c30 ?_
              refine runX_seq ?_
              refine runX_regionC fun C hC => ?_
              try simp -implicitDefEqProofs (maxSteps := 4000000) (disch := first | omega | decide | (simp only [go_sem]; omega)) only [go_sem, ↓reduceIte]
              repeat (with_reducible refine And.intro (by first | assumption | omega | (simp; done) | (simp; omega)) ?_)
              refine toEnd hC ?_
              refine endX_seq ?_
              refine runX_ret ?_
              refine endX_seqR ?_
              refine endX_q ?_
              obtain rfl := Option.some.inj h
              show RetW _ _ _ _ _
              simp only [RetW]
              (try simp -implicitDefEqProofs (maxSteps := 4000000) (disch := first | omega | decide | (simp only [go_sem]; omega)) only [go_sem, ↓reduceIte])
              (try simp (disch := omega) only [if_pos, Nat.sub_zero])
              exact leT_refl _
            · refine runX_condF rfl c30 ?_
              refine runX_skip ?_
              refine endX_seq ?_
              refine runX_seq ?_
              refine runX_regionC fun C hC => ?_
              try simp -implicitDefEqProofs (maxSteps := 4000000) (disch := first | omega | decide | (simp only [go_sem]; omega)) only [go_sem, ↓reduceIte]
              repeat (with_reducible refine And.intro (by first | assumption | omega | (simp; done) | (simp; omega)) ?_)
              refine toEnd hC ?_
              refine endX_seq ?_
              refine runX_ret ?_
              refine endX_q ?_
              obtain rfl := Option.some.inj h
              show RetW _ _ _ _ _
              simp only [RetW]
              (try simp -implicitDefEqProofs (maxSteps := 4000000) (disch := first | omega | decide | (simp only [go_sem]; omega)) only [go_sem, ↓reduceIte])
              (try simp (disch := omega) only [if_pos, Nat.sub_zero])
              exact leT_refl _
          · refine guardK_F c29 ?_
            try simp -implicitDefEqProofs (maxSteps := 4000000) (disch := first | omega | decide | (simp only [go_sem]; omega)) only [go_sem, ↓reduceIte]
            repeat (with_reducible refine And.intro (by first | assumption | omega | (simp; done) | (simp; omega)) ?_)
            refine toEnd hC ?_
            refine endX_seq ?_
            refine runX_condF rfl rfl ?_
            refine runX_skip ?_
            refine endX_seq ?_
            refine runX_seq ?_
            refine runX_regionC fun C hC => ?_
            try simp -implicitDefEqProofs (maxSteps := 4000000) (disch := first | omega | decide | (simp only [go_sem]; omega)) only [go_sem, ↓reduceIte]
            repeat (with_reducible refine And.intro (by first | assumption | omega | (simp; done) | (simp; omega)) ?_)
            refine toEnd hC ?_
            refine endX_seq ?_
            refine runX_ret ?_
            refine endX_q ?_
            obtain rfl := Option.some.inj h
            show RetW _ _ _ _ _
            simp only [RetW]
            (try simp -implicitDefEqProofs (maxSteps := 4000000) (disch := first | omega | decide | (simp only [go_sem]; omega)) only [go_sem, ↓reduceIte])
            (try simp (disch := omega) only [if_pos, Nat.sub_zero])
            exact leT_refl _
end Go.Proofs.YtaiapalhdejngaaX

set_option linter.unusedVariables false
set_option linter.unusedSimpArgs false
namespace Go.Proofs.YtaiapalhdejngaaX
open Go Go.RowKit Go.Proofs
set_option maxRecDepth 100000
attribute [local go_sem ↓] stepsK_build stepsK_build0 stepsK_bs stepsK_bs0 appendS
attribute [local go_sem] String.reduceEq String.reduceNe reduceCtorEq Int.reduceEq Nat.reduceAdd Nat.reduceSub Nat.reduceMul Nat.reduceLT Nat.reduceLeDiff Nat.reduceEqDiff Nat.reduceBEq Int.reduceToNat Int.reduceLT Int.reduceLE Int.reduceGT Int.reduceGE Int.reduceAdd Int.reduceSub Int.reduceMul Int.reduceNeg Int.reduceBEq Int.reduceBNe Int.reducePow Int.reduceDiv Int.reduceMod Int.reduceTDiv Int.reduceTMod Int.reduceNatCast
/-! ### shadowboxref04.value -/
def F94 (n : Nat) (a0 : Int) : Option (Int) := (F71 n a0).bind fun v1 => iteB (v1 == (1 : Int)) (some (IntKind.wrap .i64 ((IntKind.wrap .u8 (a0 - (48 : Int)))))) (iteB (v1 == (2 : Int)) (some (IntKind.wrap .i64 ((IntKind.wrap .i64 ((IntKind.wrap .u8 (a0 - (97 : Int))))) + (10 : Int)))) (some (-1 : Int)))
set_option maxHeartbeats 4000000 in
theorem F94_ok : ∀ (n : Nat) (a0 : Int) (r : Int), F94 n a0 = some r → FnC Try.prog 94 [.imm (.int .u8 a0)] (.imm (.int .i64 r))
  | n, a0, r, h => by
    unfold F94 at h
    refine FnC.goX mixed Try.func94 (by kernel_rfl) rfl ?_
    simp only [Try.ntmps94, List.length_cons, List.length_nil, List.replicate, List.cons_append, List.nil_append, Nat.reduceAdd, Nat.reduceSub]
    refine runX_seq ?_
    refine runX_regionC fun C hC => ?_
    try simp -implicitDefEqProofs (maxSteps := 4000000) (disch := first | omega | decide | (simp only [go_sem]; omega)) only [go_sem, ↓reduceIte]
    repeat (with_reducible refine And.intro (by first | assumption | omega | (simp; done) | (simp; omega)) ?_)
    refine toEnd hC ?_
    refine endX_seq ?_
    refine runX_seq ?_
    refine runX_seq ?_
    refine runX_regionC fun C hC => ?_
    obtain ⟨v1, h1, h⟩ := bnd_some h
    try simp -implicitDefEqProofs (maxSteps := 4000000) (disch := first | omega | decide | (simp only [go_sem]; omega)) only [go_sem, ↓reduceIte]
    repeat (with_reducible refine And.intro (by first | assumption | omega | (simp; done) | (simp; omega)) ?_)
    refine callG_X (by first | rfl | (simp only [go_sem]; done) | (simp only [closedL, closedT, Bool.and_true]; exact closedL_map _ (fun _ => by first | rfl | (simp only [go_sem]; done)) _)) (F71_ok n a0 _ h1) (by repeat (first | exact leL_refl _ | refine leL_cons (by first | exact leT_refl _ | exact leT_virt | exact leT_junk _ | exact leT_sl | exact leT_sln | exact leT_nil | (refine leT_agg (by repeat (first | exact leL_refl _ | refine leL_cons (by first | exact leT_refl _ | exact leT_sl | exact leT_sln | exact leT_nil) ?_)))) ?_)) ?_
    try simp -implicitDefEqProofs (maxSteps := 4000000) (disch := first | omega | decide | (simp only [go_sem]; omega)) only [go_sem, ↓reduceIte]
    repeat (with_reducible refine And.intro (by first | assumption | omega | (simp; done) | (simp; omega)) ?_)
    refine toEnd hC ?_
    refine endX_seq ?_
    refine runX_block ?_
    refine runX_seq ?_
    refine runX_regionC fun C hC => ?_
    try simp -implicitDefEqProofs (maxSteps := 4000000) (disch := first | omega | decide | (simp only [go_sem]; omega)) only [go_sem, ↓reduceIte]
    repeat (with_reducible refine And.intro (by first | assumption | omega | (simp; done) | (simp; omega)) ?_)
    refine toEnd hC ?_
    refine endX_seq ?_
    rcases iteB_some h with ⟨c2, h⟩ | ⟨c2, h⟩
    · refine runX_condT rfl c2 ?_
      refine runX_seq ?_
      refine runX_regionC fun C hC => ?_
      try simp -implicitDefEqProofs (maxSteps := 4000000) (disch := first | omega | decide | (simp only [go_sem]; omega)) only [go_sem, ↓reduceIte]
      repeat (with_reducible refine And.intro (by first | assumption | omega | (simp; done) | (simp; omega)) ?_)
      refine toEnd hC ?_
      refine endX_seq ?_
      refine runX_ret ?_
      refine endX_blkR ?_
      refine endX_seqR ?_
      refine endX_q ?_
      obtain rfl := Option.some.inj h
      show RetW _ _ _ _ _
      simp only [RetW]
      (try simp -implicitDefEqProofs (maxSteps := 4000000) (disch := first | omega | decide | (simp only [go_sem]; omega)) only [go_sem, ↓reduceIte])
      (try simp (disch := omega) only [if_pos, Nat.sub_zero])
      exact leT_refl _
    · refine runX_condF rfl c2 ?_
      refine runX_seq ?_
      refine runX_regionC fun C hC => ?_
      try simp -implicitDefEqProofs (maxSteps := 4000000) (disch := first | omega | decide | (simp only [go_sem]; omega)) only [go_sem, ↓reduceIte]
      repeat (with_reducible refine And.intro (by first | assumption | omega | (simp; done) | (simp; omega)) ?_)
      refine toEnd hC ?_
      refine endX_seq ?_
      rcases iteB_some h with ⟨c3, h⟩ | ⟨c3, h⟩
      · refine runX_condT rfl c3 ?_
        refine runX_seq ?_
        refine runX_regionC fun C hC => ?_
        try simp -implicitDefEqProofs (maxSteps := 4000000) (disch := first | omega | decide | (simp only [go_sem]; omega)) only [go_sem, ↓reduceIte]
        repeat (with_reducible refine And.intro (by first | assumption | omega | (simp; done) | (simp; omega)) ?_)
        refine toEnd hC ?_
        refine endX_seq ?_
        refine runX_ret ?_
        refine endX_blkR ?_
        refine endX_seqR ?_
        refine endX_q ?_
        obtain rfl := Option.some.inj h
        show RetW _ _ _ _ _
        simp only [RetW]
        (try simp -implicitDefEqProofs (maxSteps := 4000000) (disch := first | omega | decide | (simp only [go_sem]; omega)) only [go_sem, ↓reduceIte])
        (try simp (disch := omega) only [if_pos, Nat.sub_zero])
        exact leT_refl _
      · refine runX_condF rfl c3 ?_
        refine runX_skip ?_
        refine endX_blk ?_
        refine endX_seq ?_
        refine runX_seq ?_
        refine runX_regionC fun C hC => ?_
        try simp -implicitDefEqProofs (maxSteps := 4000000) (disch := first | omega | decide | (simp only [go_sem]; omega)) only [go_sem, ↓reduceIte]
        repeat (with_reducible refine And.intro (by first | assumption | omega | (simp; done) | (simp; omega)) ?_)
        refine toEnd hC ?_
        refine endX_seq ?_
        refine runX_ret ?_
        refine endX_q ?_
        obtain rfl := Option.some.inj h
        show RetW _ _ _ _ _
        simp only [RetW]
        (try simp -implicitDefEqProofs (maxSteps := 4000000) (disch := first | omega | decide | (simp only [go_sem]; omega)) only [go_sem, ↓reduceIte])
        (try simp (disch := omega) only [if_pos, Nat.sub_zero])
        exact leT_refl _
end Go.Proofs.YtaiapalhdejngaaX
